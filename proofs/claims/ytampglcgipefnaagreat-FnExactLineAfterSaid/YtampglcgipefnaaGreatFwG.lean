/- What writes one's own blocks in the logic over data: variables, made and written slices, appends, literals. No condition. -/
import Derived.Test.YtampglcgipefnaaGreatFwF
namespace Go.Proofs.YtampglcgipefnaaGreat
open Go
open Go.RowKit (Below)
set_option linter.unusedVariables false
set_option linter.unusedSimpArgs false

theorem RepD.cellOne {ok : Nat → Prop} {w : World} {v : Value} {x : D} (h : RepD ok w v x) (hel : x.el = true) : ∀ u ∈ v.cells.toList, u.oneCell' = true := by
  rcases D.el_or hel with h1 | ⟨xs, rfl⟩
  · rw [h.oneCell h1]
    intro u hu
    simp at hu
    subst hu
    exact h.oneCell' h1
  · cases h with
    | agg cs _ k1 k2 k3 =>
      intro u hu
      have hu' : u ∈ cs.toList := hu
      obtain ⟨i, hi⟩ := List.getElem?_of_mem hu'
      have hlt : i < xs.length := by
        rw [← k1]
        rcases Nat.lt_or_ge i cs.size with hh | hh
        · exact hh
        · simp [hh] at hi
      exact (k3 i u xs[i] (by simpa using hi) (List.getElem?_eq_getElem hlt)).oneCell' (k2 _ (List.getElem_mem hlt))

theorem RepD.agg_inv {ok : Nat → Prop} {w : World} {v : Value} {xs : List D} (h : RepD ok w v (.agg xs)) :
    ∃ cs, v = .agg cs ∧ cs.size = xs.length ∧ (∀ x ∈ xs, x.one = true) ∧ ∀ (i : Nat) u x, cs[i]? = some u → xs[i]? = some x → RepD ok w u x := by
  cases h with
  | agg cs _ h1 h2 h3 => exact ⟨cs, rfl, h1, h2, h3⟩

def svOne (h : Heap) : SV → Bool
  | .d v => v.one
  | .ref _ _ => true
  | .own i => match h.get i with
    | some (.arr _ _ _) => true
    | some (.rows _ _ _ _ _) => true
    | some (.map _) => true
    | _ => false
  | .sub i _ => match h.get i with
    | some (.rows _ _ _ _ _) => true
    | _ => false
  | _ => false

theorem slice_one (l : Loc) (n : Nat) : (sliceAt l n).oneCell' = true ∧ (sliceAt l n).cells = #[sliceAt l n] := by
  unfold sliceAt
  split <;> exact ⟨rfl, rfl⟩

theorem svOne_rep {σ : Nat → Loc} {h : Heap} {ok : Nat → Prop} {w : World} {v : Value} {sv : SV} (hv : RepSV σ h ok w v sv) (ho : svOne h sv = true) : v.oneCell' = true ∧ v.cells = #[v] := by
  cases sv with
  | d x => exact ⟨RepD.oneCell' hv ho, RepD.oneCell hv ho⟩
  | ref i o => rw [show v = _ from hv]; exact ⟨rfl, rfl⟩
  | own i =>
    simp only [svOne] at ho
    split at ho
    · rename_i e sz xs hg
      simp only [RepSV, hg] at hv
      subst hv
      exact slice_one _ _
    · rename_i hg
      simp only [RepSV, hg] at hv
      subst hv
      exact slice_one _ _
    · rename_i hg
      simp only [RepSV, hg] at hv
      subst hv
      exact ⟨rfl, rfl⟩
    · cases ho
  | sub i n =>
    simp only [svOne] at ho
    split at ho
    · rename_i hg
      simp only [RepSV, hg] at hv
      obtain ⟨q, xs, _, _, rfl⟩ := hv
      exact slice_one _ _
    · cases ho
  | _ => simp [svOne] at ho

/-- A slice that reads as a list: nil and the list empty, or its cells. -/
theorem src_cells {ok : Nat → Prop} {w : World} {v : Value} {ys : List D} {size : Nat} (hv : RepD ok w v (.lst ys)) (hy : ∀ y ∈ ys, y.el = true ∧ y.width = size) :
    (v = .slice none 0 0 ∧ ys = []) ∨ ∃ a c cl, v = .slice (some a) ys.length c ∧ RepCells ok w size cl ys ∧ (∀ (j : Nat) u, cl[j]? = some u → w.cell? (a.add j) = some u) ∧ ∀ u ∈ cl, u.oneCell' = true := by
  cases hv with
  | nil0 => exact .inl ⟨rfl, rfl⟩
  | emp a cap => exact .inr ⟨a, cap, [], rfl, ⟨by simp, [], rfl, by simp, by simp⟩, by simp, by simp⟩
  | lst b off cap n cells e fr xs vs sz k1 k2 k3 k4 k5 k6 k7 k8 =>
    right
    subst k4
    have each : ∀ (i : Nat) v, vs[i]? = some v → v.cells.size = size ∧ ∃ y, ys[i]? = some y ∧ y.el = true ∧ RepD ok w v y := fun i v hv => by
      have hlt : i < ys.length := by
        rw [← k3]
        rcases Nat.lt_or_ge i vs.length with hh | hh
        · exact hh
        · simp [hh] at hv
      have hyi : ys[i]? = some ys[i] := List.getElem?_eq_getElem hlt
      have hr := k7 i v _ hv hyi
      obtain ⟨e1, e2⟩ := hy _ (List.getElem_mem hlt)
      exact ⟨by rw [hr.width (D.el_or e1), e2], _, hyi, e1, hr⟩
    refine ⟨⟨b, off, none⟩, cap, (List.range (ys.length * size)).map fun j => cells.getD (off + j) undef, rfl, ⟨by simp, vs, k3, k7, fun i v hv => ⟨(each i v hv).1, fun j hj => ?_⟩⟩, fun j u hj => ?_, fun u hu => ?_⟩
    · have hlt : i < ys.length := by
        rw [← k3]
        rcases Nat.lt_or_ge i vs.length with hh | hh
        · exact hh
        · simp [hh] at hv
      have hm : i * size + size ≤ ys.length * size := by
        have := Nat.mul_le_mul_right size (show i + 1 ≤ ys.length from hlt)
        rw [Nat.add_mul] at this
        omega
      obtain ⟨c1, c2⟩ := k8 i v hv
      have hs := (each i v hv).1
      rw [List.getElem?_map, List.getElem?_range (by omega)]
      have := c2 j (by omega)
      rw [← this, show off + i * sz + j = off + (i * size + j) by rw [← hs, c1]; omega]
      have hj' : j < v.cells.size := by omega
      rw [show off + i * sz + j = off + (i * size + j) by rw [← hs, c1]; omega, Array.getElem?_eq_getElem hj'] at this
      simp [this]
    · rw [List.getElem?_map] at hj
      simp only [Option.map_eq_some_iff] at hj
      obtain ⟨j', hj', rfl⟩ := hj
      have hjlt : j < ys.length * size := by
        rcases Nat.lt_or_ge j (ys.length * size) with hh | hh
        · exact hh
        · simp [hh] at hj'
      rw [List.getElem?_range hjlt] at hj'
      cases hj'
      rw [add_block, cell_at k2]
      have hsz : 0 < size := by
        rcases Nat.eq_zero_or_pos size with h0 | h0
        · subst h0; simp at hjlt
        · exact h0
      have hi : j / size < vs.length := by rw [k3]; exact Nat.div_lt_of_lt_mul (by rw [Nat.mul_comm]; exact hjlt)
      obtain ⟨c1, c2⟩ := k8 (j / size) _ (List.getElem?_eq_getElem hi)
      have hs := (each (j / size) _ (List.getElem?_eq_getElem hi)).1
      have := c2 (j % size) (by rw [← c1, hs]; exact Nat.mod_lt _ hsz)
      have hdm : j / size * size + j % size = j := Nat.div_add_mod' j size
      rw [show off + j / size * sz + j % size = off + j by rw [← c1, hs]; omega] at this
      have hjm : j % size < vs[j / size].cells.size := by rw [hs]; exact Nat.mod_lt _ hsz
      rw [Array.getElem?_eq_getElem hjm] at this
      simp [this]
    · obtain ⟨j, hj, rfl⟩ := List.mem_map.1 hu
      have hjlt : j < ys.length * size := List.mem_range.1 hj
      have hsz : 0 < size := by
        rcases Nat.eq_zero_or_pos size with h0 | h0
        · subst h0; simp at hjlt
        · exact h0
      have hi : j / size < vs.length := by rw [k3]; exact Nat.div_lt_of_lt_mul (by rw [Nat.mul_comm]; exact hjlt)
      obtain ⟨c1, c2⟩ := k8 (j / size) _ (List.getElem?_eq_getElem hi)
      obtain ⟨hs, y, hy1, hy2, hy3⟩ := each (j / size) _ (List.getElem?_eq_getElem hi)
      have := c2 (j % size) (by rw [← c1, hs]; exact Nat.mod_lt _ hsz)
      have hdm : j / size * size + j % size = j := Nat.div_add_mod' j size
      rw [show off + j / size * sz + j % size = off + j by rw [← c1, hs]; omega] at this
      have hjm : j % size < vs[j / size].cells.size := by rw [hs]; exact Nat.mod_lt _ hsz
      rw [Array.getElem?_eq_getElem hjm] at this
      have hget : cells.getD (off + j) undef = vs[j / size].cells[j % size] := by simp [this]
      rw [hget]
      exact hy3.cellOne hy2 _ (by simp)

theorem RepCells.append {ok : Nat → Prop} {w : World} {sz : Nat} {c1 c2 : List Value} {xs ys : List D} (h1 : RepCells ok w sz c1 xs) (h2 : RepCells ok w sz c2 ys) : RepCells ok w sz (c1 ++ c2) (xs ++ ys) := by
  obtain ⟨a1, vs, a2, a3, a4⟩ := h1
  obtain ⟨b1, us, b2, b3, b4⟩ := h2
  refine ⟨by simp [a1, b1, Nat.add_mul], vs ++ us, by simp [a2, b2], fun i v x hv hx => ?_, fun i v hv => ?_⟩
  · rw [List.getElem?_append] at hv hx
    rw [a2] at hv
    split at hv
    · rename_i hl; rw [if_pos hl] at hx; exact a3 i v x hv hx
    · rename_i hl; rw [if_neg hl] at hx; exact b3 _ v x hv hx
  · rw [List.getElem?_append, a2] at hv
    split at hv
    · rename_i hl
      refine ⟨(a4 i v hv).1, fun j hj => ?_⟩
      rw [← (a4 i v hv).2 j hj]
      have hm : i * sz + sz ≤ xs.length * sz := by
        have := Nat.mul_le_mul_right sz (show i + 1 ≤ xs.length from hl)
        rw [Nat.add_mul] at this
        omega
      rw [List.getElem?_append_left (by omega)]
    · rename_i hl
      refine ⟨(b4 _ v hv).1, fun j hj => ?_⟩
      rw [← (b4 _ v hv).2 j hj]
      have hm : xs.length * sz ≤ i * sz := Nat.mul_le_mul_right sz (by omega)
      rw [List.getElem?_append_right (by omega), a1, show i * sz + j - xs.length * sz = (i - xs.length) * sz + j by rw [Nat.sub_mul]; omega]

section
variable {cx : Cx} {ops : Array Oper} {rest : List Oper} {s : Slots} {h : Heap} {Q : Exit → Slots → Heap → Prop} {dst : Option Nat} {t ty : Nat} {pos : String} {af : Array Edge}

theorem lto {op : Op} {s' : Slots} {h' : Heap} (ho : OpTo cx ⟨dst, op, ty, pos, af, none⟩ s h s' h') (hn : awpL cx ops rest s' h' Q) : awpL cx ops (⟨dst, op, ty, pos, af, none⟩ :: rest) s h Q := awpL_to rfl ho hn

theorem put_lay {cx : Cx} {σ : Nat → Loc} {s : Slots} {h : Heap} {a : Act} {w : World} (hr : RW cx σ (lk s) h a w) (hd : Nat.blt t cx.nt = true) {v : Value} {sv : SV} (hv : RepSV σ h (okf cx σ h) w v sv) :
    R cx (lk ((t, sv) :: s)) h (a.put (some t) v) w := ⟨σ, by
  have := hr.put (dst := some t) (dstOk_lt hd) hv
  exact this⟩

/-- A new variable that is written. -/
theorem op_alloc {T : Nat} {tr : TR} (ht : tget cx.T T = some tr) (hd : Nat.blt t cx.nt = true) :
    OpTo cx ⟨some t, .alloc T, ty, pos, af, none⟩ s h ((t, .ref t 0) :: killS t s) ((t, .box (tr.zero.map .d)) :: killH t h) := by
  rintro a w ⟨σ, hr⟩ K Q hK
  obtain ⟨d, i, hdd, hi, _, _, _, _, _, _, _, _, z, hz, hz2⟩ := tr_facts (tget_ok cx.tab ht)
  have run : (execOp a.eval ⟨some t, .alloc T, ty, pos, af, none⟩).run cx.P w = .ok (.value (.pointer (some ⟨w.heap.size, 0, none⟩))) (w.alloc (.cells z.cells T)) := by
    simp [execOp, Instr.alloc, zeroValue, typeInfo, hi, hz, newVar, newRow]
  obtain ⟨z1, z2, z3⟩ := zeroAre_rep (ok := okf cx σ h) (w := w) hz2
  obtain ⟨σ', e1, hr'⟩ := hr.lay (w' := w.alloc (.cells z.cells T)) t (anc_slot hd).1 ⟨w.heap.size, 0, false, []⟩ (.box (tr.zero.map .d)) rfl rfl rfl (by simp) (fun b hb _ => Below.heap_alloc w _ b hb) (by simp [blk]) (by simp [blk]) fun σ' ok' hok _ _ => by
    refine ⟨rfl, z.cells, T, heap_alloc_new w _, by simpa using z1, fun i v x hv hx => ?_⟩
    simp only [List.getElem?_map, Option.map_eq_some_iff] at hx
    obtain ⟨y, hy, rfl⟩ := hx
    have hry := z3 i v y (by simpa using hv) hy
    exact ⟨hry.mono hok, hry.oneCell' (z2 y (List.mem_of_getElem? hy))⟩
  unfold Oper.wp
  rw [run]
  exact hK _ _ (put_lay hr' hd (by simp only [RepSV, e1]))

/-- A boxed value that is written. -/
theorem op_box {T : Nat} {x : Operand} {y : D} (hx : opv (lk s) x = .d y) (hd : Nat.blt t cx.nt = true) (hel : y.el = true) :
    OpTo cx ⟨some t, .box T x, ty, pos, af, none⟩ s h ((t, .ref t 0) :: killS t s) ((t, .box (y.cells.map .d)) :: killH t h) := by
  rintro a w ⟨σ, hr⟩ K Q hK
  have hv' : RepD (okf cx σ h) w (a.eval x) y := by
    have hv := rep_eval hr x
    rw [hx] at hv
    exact hv
  have run : (execOp a.eval ⟨some t, .box T x, ty, pos, af, none⟩).run cx.P w = .ok (.value (.pointer (some ⟨w.heap.size, 0, none⟩))) (w.alloc (.cells (a.eval x).cells T)) := by
    simp [execOp, Instr.box, newVar, newRow]
  obtain ⟨σ', e1, hr'⟩ := hr.lay (w' := w.alloc (.cells (a.eval x).cells T)) t (anc_slot hd).1 ⟨w.heap.size, 0, false, []⟩ (.box (y.cells.map .d)) rfl rfl rfl (by simp) (fun b hb _ => Below.heap_alloc w _ b hb) (by simp [blk]) (by simp [blk]) fun σ' ok' hok _ _ => by
    refine ⟨rfl, (a.eval x).cells, T, heap_alloc_new w _, ?_, fun i v u hv hu => ?_⟩
    · rw [hv'.width (D.el_or hel)]
      cases y <;> simp [D.width, D.cells]
    · simp only [List.getElem?_map, Option.map_eq_some_iff] at hu
      obtain ⟨y', hy', rfl⟩ := hu
      refine ⟨?_, hv'.cellOne hel v (by simpa using Array.mem_of_getElem? hv)⟩
      rcases D.el_or hel with h1 | ⟨xs, rfl⟩
      · rw [hv'.oneCell h1] at hv
        have hc : y.cells = [y] := by cases y <;> first | rfl | (simp [D.one] at h1)
        rw [hc] at hy'
        cases i with
        | zero => simp at hv hy'; subst hv hy'; exact RepD.mono hv' hok
        | succ i => simp at hv
      · obtain ⟨cs, e, k1, k2, k3⟩ := RepD.agg_inv hv'
        rw [e] at hv
        exact RepD.mono (k3 i v y' hv hy') hok
  unfold Oper.wp
  rw [run]
  exact hK _ _ (put_lay hr' hd (by simp only [RepSV, e1]))

/-- A cell of one's own variable is written. -/
theorem op_store {T : Nat} {tr : TR} {x y : Operand} {id off : Nat} {cells : List SV} {sv : SV} (ht : tget cx.T T = some tr) (hx : opv (lk s) x = .ref id off) (hg : h.get id = some (.box cells)) (hy : opv (lk s) y = sv)
    (hsz : tr.size = 1) (hone : svOne h sv = true) (hoff : Nat.blt off cells.length = true) :
    OpTo cx ⟨none, .store T x y, ty, pos, af, none⟩ s h s (setH id (.box (cells.set off sv)) h) := by
  rintro a w ⟨σ, hr⟩ K Q hK
  have hu := rep_eval hr x
  rw [hx] at hu
  have hu' : a.eval x = .pointer (some ⟨(σ id).b, off, none⟩) := hu
  have hv := rep_eval hr y
  rw [hy] at hv
  obtain ⟨d, i, hdd, hi, _, hisz, _⟩ := tr_facts (tget_ok cx.tab ht)
  obtain ⟨p0, hp0, rfl, hp2⟩ := get_mem hg
  have hc := hr.heap.rep p0 hp0
  rw [hp2] at hc
  obtain ⟨c0, cs, T', c1, c2, c3⟩ := hc
  have hoff' : off < cs.size := by rw [c2]; exact Nat.le_of_ble_eq_true hoff
  have hvone := svOne_rep hv hone
  have run : (execOp a.eval ⟨none, .store T x y, ty, pos, af, none⟩).run cx.P w = .ok .skip (w.setCell ⟨(σ p0.1).b, off, none⟩ (a.eval y)) := by
    have hs : (storeVar T ⟨(σ p0.1).b, off, none⟩ (a.eval y)).run cx.P w = .ok () (w.setCell ⟨(σ p0.1).b, off, none⟩ (a.eval y)) := by
      unfold storeVar
      rw [hvone.2]
      have hcell : w.cell? ⟨(σ p0.1).b, off, none⟩ = some cs[off] := by rw [cell_at c1, Array.getElem?_eq_getElem hoff']
      have hfr : w.frozen? ⟨(σ p0.1).b, off, none⟩ = false := by simp [World.frozen?, c1]
      simp [sizeOf, typeInfo, hi, hisz, hsz, storeCells, add_block, run_store _ _ _ _ _ hvone.1, hcell, hfr]
    simp [execOp, Instr.storeAt, Instr.sureAddr, hu', hs]
  have hr' := hr.set (w' := w.setCell ⟨(σ p0.1).b, off, none⟩ (a.eval y)) (c' := .box (cells.set off sv)) hg (by simp [Chunk.like]) rfl rfl rfl (by simp) (fun b hb => Below.heap_setCell w _ _ b (by simpa [blk] using hb)) fun hok => by
    refine ⟨c0, cs.setIfInBounds off (a.eval y), T', ?_, by simp [c2], fun i v u hv' hu' => ?_⟩
    · simp [World.setCell, Array.getElem?_modify, c1]
    · by_cases e : off = i
      · subst e
        simp [hoff'] at hv'
        subst hv'
        rw [List.getElem?_set_self (by rw [← c2]; exact hoff')] at hu'
        cases hu'
        exact ⟨hv.set hg (by simp [Chunk.like]) hok, hvone.1⟩
      · rw [Array.getElem?_setIfInBounds_ne e] at hv'
        rw [List.getElem?_set_ne e] at hu'
        exact ⟨(c3 i v u hv' hu').1.set hg (by simp [Chunk.like]) hok, (c3 i v u hv' hu').2⟩
  unfold Oper.wp
  rw [run]
  exact hK _ _ ⟨σ, hr'⟩

end
end Go.Proofs.YtampglcgipefnaaGreat
