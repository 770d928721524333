/- Whole structs in one's own variables, literals, bytes as text, giving away and lending one's own rows, results that lie in variables, parts of slices. No condition. -/
import Derived.Test.YtampglcgipefnaaGreatFwH
namespace Go.Proofs.YtampglcgipefnaaGreat
open Go
open Go.RowKit (Below)
set_option linter.unusedVariables false
set_option linter.unusedSimpArgs false

section
variable {cx : Cx} {ops : Array Oper} {rest : List Oper} {s : Slots} {h : Heap} {Q : Exit → Slots → Heap → Prop} {dst : Option Nat} {t ty : Nat} {pos : String} {af : Array Edge} {gd : Option (Nat × Bool)}

/-- The data of n cells. -/
def takeD : List SV → Nat → Option (List D)
  | _, 0 => some []
  | .d x :: l, n + 1 => match takeD l n with
    | some xs => some (x :: xs)
    | none => none
  | _, _ + 1 => none

theorem takeD_get : ∀ {l : List SV} {n : Nat} {xs : List D}, takeD l n = some xs → xs.length = n ∧ ∀ (i : Nat) x, xs[i]? = some x → l[i]? = some (.d x)
  | _, 0, xs, hh => by simp only [takeD, Option.some.injEq] at hh; subst hh; exact ⟨rfl, by simp⟩
  | [], n + 1, xs, hh => by simp [takeD] at hh
  | v :: l, n + 1, xs, hh => by
    cases v with
    | d y =>
      simp only [takeD] at hh
      cases ht : takeD l n with
      | none => rw [ht] at hh; cases hh
      | some ys =>
        rw [ht] at hh
        simp only [Option.some.injEq] at hh
        subst hh
        obtain ⟨h1, h2⟩ := takeD_get ht
        refine ⟨by simp [h1], fun i x hx => ?_⟩
        cases i with
        | zero => simp at hx; subst hx; rfl
        | succ i => simpa using h2 i x (by simpa using hx)
    | _ => simp [takeD] at hh

/-- What is read of a whole struct in a variable of one's own. -/
theorem load_box {P : Program} {σ : Nat → Loc} {ok : Nat → Prop} {w : World} {T : Nat} {tr : TR} (ht : trOk P T tr = true) (ha : tr.agg = true) {l : Loc} {cells : List SV} {off : Nat} {xs : List D}
    (hc : RepChunk σ h ok w l (.box cells)) (hx : takeD (cells.drop off) tr.size = some xs) :
    ∃ cs, (loadVar T ⟨l.b, off, none⟩).run P w = .ok (.agg cs) w ∧ RepD ok w (.agg cs) (.agg xs) := by
  obtain ⟨_, cs, t', c1, c2, c3⟩ := hc
  obtain ⟨hl, hget⟩ := takeD_get hx
  obtain ⟨d, i, hdd, hi, e1, e2, _⟩ := tr_facts ht
  have each : ∀ (j : Nat) x, xs[j]? = some x → ∃ v, cs[off + j]? = some v ∧ RepD ok w v x ∧ v.oneCell' = true := fun j x hj => by
    have := hget j x hj
    rw [List.getElem?_drop] at this
    have hlt : off + j < cs.size := by
      rw [c2]
      rcases Nat.lt_or_ge (off + j) cells.length with hh | hh
      · exact hh
      · simp [hh] at this
    exact ⟨cs[off + j], Array.getElem?_eq_getElem hlt, (c3 _ _ _ (Array.getElem?_eq_getElem hlt) this).1, (c3 _ _ _ (Array.getElem?_eq_getElem hlt) this).2⟩
  let vs : List Value := (List.range tr.size).map fun j => cs.getD (off + j) undef
  have hvs : vs.length = tr.size := by simp [vs]
  have vget : ∀ (j : Nat) v, vs[j]? = some v → cs[off + j]? = some v := fun j v hj => by
    simp only [vs, List.getElem?_map, Option.map_eq_some_iff] at hj
    obtain ⟨j', hj', rfl⟩ := hj
    have hjl : j < tr.size := by
      rcases Nat.lt_or_ge j tr.size with hh | hh
      · exact hh
      · simp [hh] at hj'
    rw [List.getElem?_range hjl] at hj'
    cases hj'
    obtain ⟨v, h1, _⟩ := each j xs[j] (List.getElem?_eq_getElem (by omega))
    simp [h1]
  have hload : (loadCells ⟨l.b, off, none⟩ vs.length).run P w = .ok vs.toArray w :=
    run_loadCells_list (P := P) w ⟨l.b, off, none⟩ vs (fun j v hv => by rw [add_block, cell_at c1]; exact vget j v hv)
  refine ⟨vs.toArray, ?_, .agg _ _ (by simp [hvs, hl]) (fun x hx => ?_) fun j v x hv hx => ?_⟩
  · simp only [loadVar, Sem.run_bind, run_isAgg hdd, e1, ha, Result.andThen_ok, if_true, sizeOf, typeInfo, run_program, hi, Sem.run_pure, e2]
    rw [← hvs, hload]
    simp
  · obtain ⟨j, hj⟩ := List.getElem?_of_mem hx
    obtain ⟨v, h1, h2, h3⟩ := each j x hj
    cases x <;> first | rfl | (cases h2 <;> simp [Value.oneCell'] at h3)
  · obtain ⟨v', h1, h2, _⟩ := each j x hx
    have := vget j v (by simpa using hv)
    rw [h1] at this
    cases this
    exact h2

theorem qa_loadBox {T : Nat} {x : Operand} {tr : TR} {f : Nat → SV} {id off : Nat} {cells : List SV} {xs : List D} (hx : opv f x = .ref id off) (hg : h.get id = some (.box cells)) (ht : tget cx.T T = some tr) (ha : tr.agg = true)
    (hxs : takeD (cells.drop off) tr.size = some xs) : Qt cx h ⟨dst, .load T x, ty, pos, af, gd⟩ f (.d (.agg xs)) := by
  intro s₁ hs σ a w hr K Q hK
  have h1 := rep_eval hr x
  rw [show opv s₁ x = opv f x from by cases x <;> first | rfl | exact hs _ (by simp [Op.operands]), hx] at h1
  have h1' : a.eval x = .pointer (some ⟨(σ id).b, off, none⟩) := h1
  obtain ⟨p, hp, rfl, hp2⟩ := get_mem hg
  have hc := hr.heap.rep p hp
  rw [hp2] at hc
  obtain ⟨cs, z1, z2⟩ := load_box (P := cx.P) (tget_ok cx.tab ht) ha hc hxs
  unfold Oper.wp
  rw [show (execOp a.eval ⟨dst, .load T x, ty, pos, af, gd⟩).run cx.P w = .ok (.value (.agg cs)) w from by simp [execOp, h1', Instr.loadAt, Instr.sureAddr, z1]]
  exact hK _ _ (Below.refl _ _) z2

/-- Cells written over. -/
def putD : List SV → Nat → List D → List SV
  | l, _, [] => l
  | l, off, x :: xs => putD (l.set off (.d x)) (off + 1) xs

theorem putD_length : ∀ (xs : List D) (l : List SV) (off : Nat), (putD l off xs).length = l.length
  | [], _, _ => rfl
  | x :: xs, l, off => by simp [putD, putD_length xs]

theorem putD_get : ∀ (xs : List D) (l : List SV) (off j : Nat), off + xs.length ≤ l.length → (putD l off xs)[j]? = if off ≤ j ∧ j < off + xs.length then (xs[j - off]?).map .d else l[j]?
  | [], l, off, j, _ => by simp [putD]; omega
  | x :: xs, l, off, j, hl => by
    simp only [List.length_cons] at hl
    rw [putD, putD_get xs _ (off + 1) j (by simp; omega)]
    by_cases h1 : j = off
    · subst h1
      rw [if_neg (by omega), if_pos (by simp), List.getElem?_set_self (by omega)]
      simp
    · by_cases h2 : off + 1 ≤ j ∧ j < off + 1 + xs.length
      · rw [if_pos h2, if_pos (by simp; omega)]
        rw [show j - off = (j - (off + 1)) + 1 by omega]
        simp
      · rw [if_neg h2, if_neg (by simp; omega), List.getElem?_set_ne (by omega)]

theorem op_storeAgg {T : Nat} {tr : TR} {x y : Operand} {id off : Nat} {cells : List SV} {ys : List D} (ht : tget cx.T T = some tr) (hx : opv (lk s) x = .ref id off) (hg : h.get id = some (.box cells)) (hy : opv (lk s) y = .d (.agg ys))
    (hsz : Nat.beq ys.length tr.size = true) (hoff : Nat.ble (off + ys.length) cells.length = true) :
    OpTo cx ⟨none, .store T x y, ty, pos, af, none⟩ s h s (setH id (.box (putD cells off ys)) h) := by
  rintro a w ⟨σ, hr⟩ K Q hK
  have hu' : a.eval x = .pointer (some ⟨(σ id).b, off, none⟩) := by
    have hu := rep_eval hr x
    rw [hx] at hu
    exact hu
  have hv' : RepD (okf cx σ h) w (a.eval y) (.agg ys) := by
    have hv := rep_eval hr y
    rw [hy] at hv
    exact hv
  obtain ⟨us, eu, u1, u2, u3⟩ := RepD.agg_inv hv'
  obtain ⟨d, i, hdd, hi, _, hisz, _⟩ := tr_facts (tget_ok cx.tab ht)
  have hsz' := Nat.eq_of_beq_eq_true hsz
  have hoff' := Nat.le_of_ble_eq_true hoff
  obtain ⟨p0, hp0, rfl, hp2⟩ := get_mem hg
  have hc := hr.heap.rep p0 hp0
  rw [hp2] at hc
  obtain ⟨c0, cs, T', c1, c2, c3⟩ := hc
  have hone : ∀ u ∈ us.toList, u.oneCell' = true := by
    have := hv'.cellOne rfl
    rw [eu] at this
    exact this
  have hst := run_storeCells_at cx.P (σ p0.1).b off T' us.toList 0 cs w c1 (by simp [u1]; omega) hone
  simp only [Nat.add_zero] at hst
  let row : Array Value := (cs.toList.take off ++ us.toList ++ cs.toList.drop (off + us.toList.length)).toArray
  have run : (execOp a.eval ⟨none, .store T x y, ty, pos, af, none⟩).run cx.P w = .ok .skip (w.setRow (σ p0.1).b row) := by
    have hs : (storeVar T ⟨(σ p0.1).b, off, none⟩ (a.eval y)).run cx.P w = .ok () (w.setRow (σ p0.1).b row) := by
      unfold storeVar
      have hne : ¬ ((a.eval y).cells.size ≠ i.size) := by rw [eu, hisz, ← hsz', ← u1]; simp [Value.cells]
      simp only [sizeOf, typeInfo, Sem.run_bind, run_program, Result.andThen_ok, hi, Sem.run_pure]
      rw [if_neg hne, eu]
      exact hst
    simp [execOp, Instr.storeAt, Instr.sureAddr, hu', hs]
  have rowget : ∀ m, row[m]? = if off ≤ m ∧ m < off + ys.length then us[m - off]? else cs[m]? := fun m => by
    have e0 : row[m]? = (cs.toList.take off ++ (us.toList ++ cs.toList.drop (off + ys.length)))[m]? := by
      simp only [row, List.append_assoc, Array.length_toList, u1]
      rw [List.getElem?_toArray]
    rw [e0]
    have hl : (cs.toList.take off).length = off := by simp; omega
    by_cases g1 : m < off
    · rw [List.getElem?_append_left (by rw [hl]; exact g1), List.getElem?_take, if_pos g1, if_neg (by omega)]
      simp
    · rw [List.getElem?_append_right (by rw [hl]; omega), hl]
      by_cases g2 : m < off + ys.length
      · rw [List.getElem?_append_left (by simp [u1]; omega), if_pos ⟨by omega, g2⟩]
        simp
      · rw [List.getElem?_append_right (by simp [u1]; omega), if_neg (by omega), List.getElem?_drop]
        simp only [Array.length_toList, u1, Array.getElem?_toList]
        congr 1
        omega
  have rowsize : row.size = cs.size := by
    simp only [row, List.size_toArray, List.length_append, List.length_take, List.length_drop, Array.length_toList, u1]
    omega
  have hlike : (Chunk.box cells).like (.box (putD cells off ys)) := (putD_length ys cells off).symm
  have hr' := hr.set (w' := w.setRow (σ p0.1).b row) (c' := .box (putD cells off ys)) hg hlike rfl rfl rfl (by simp) (fun b hb => setRow_other w _ b _ (by simpa [blk] using hb)) fun hok => by
    refine ⟨c0, row, T', setRow_heap w _ cs _ T' (0, 0) c1, by rw [rowsize, c2, putD_length], fun j v u hv hu => ?_⟩
    rw [rowget] at hv
    rw [putD_get ys cells off j hoff'] at hu
    split at hv
    · rename_i hj
      rw [if_pos hj] at hu
      simp only [Option.map_eq_some_iff] at hu
      obtain ⟨z, hz, rfl⟩ := hu
      have hrz := u3 _ v z hv hz
      exact ⟨hrz.mono hok, hrz.oneCell' (u2 z (List.mem_of_getElem? hz))⟩
    · rename_i hj
      rw [if_neg hj] at hu
      exact ⟨(c3 j v u hv hu).1.set hg hlike hok, (c3 j v u hv hu).2⟩
  unfold Oper.wp
  rw [run]
  exact hK _ _ ⟨σ, hr'⟩

/-! ### Literals of slices -/

theorem fold_set : ∀ (vs : List Value) (k off : Nat) (cells : Array Value), ((vs.zipIdx k).foldl (fun cs (p : Value × Nat) => cs.setIfInBounds (off + p.2) p.1) cells).size = cells.size ∧
    ∀ m : Nat, ((vs.zipIdx k).foldl (fun cs (p : Value × Nat) => cs.setIfInBounds (off + p.2) p.1) cells)[m]? = if off + k ≤ m ∧ m < off + k + vs.length ∧ m < cells.size then vs[m - (off + k)]? else cells[m]?
  | [], k, off, cells => ⟨rfl, fun m => by simp; omega⟩
  | v :: vs, k, off, cells => by
    obtain ⟨h1, h2⟩ := fold_set vs (k + 1) off (cells.setIfInBounds (off + k) v)
    simp only [List.zipIdx_cons, List.foldl_cons]
    refine ⟨by rw [h1]; simp, fun m => ?_⟩
    rw [h2 m]
    simp only [Array.size_setIfInBounds, List.length_cons]
    by_cases g1 : m = off + k
    · subst g1
      rw [if_neg (by omega)]
      by_cases g2 : off + k < cells.size
      · rw [if_pos ⟨by omega, by omega, g2⟩]; simp [g2]
      · rw [if_neg (by omega), Array.getElem?_eq_none (by simp; omega), Array.getElem?_eq_none (by omega)]
    · by_cases g2 : off + (k + 1) ≤ m ∧ m < off + (k + 1) + vs.length ∧ m < cells.size
      · rw [if_pos g2, if_pos (by omega), show m - (off + k) = (m - (off + (k + 1))) + 1 by omega]
        simp
      · rw [if_neg g2, if_neg (by omega), Array.getElem?_setIfInBounds_ne (by omega)]

theorem fill_rows {size n : Nat} : ∀ (parts : List (Nat × Value)) (cells : Array Value), cells.size = n * size → (∀ p ∈ parts, p.1 < n ∧ p.2.cells.size = size) → (parts.map (·.1)).Nodup →
    ∃ out, Instr.fill (fun i => some (i * size, size)) cells parts = some out ∧ out.size = n * size ∧ (∀ p ∈ parts, ∀ j, j < size → out[p.1 * size + j]? = p.2.cells[j]?) ∧
      ∀ m, (∀ p ∈ parts, ¬ (p.1 * size ≤ m ∧ m < p.1 * size + size)) → out[m]? = cells[m]?
  | [], cells, hs, _, _ => ⟨cells, rfl, hs, by simp, fun _ _ => rfl⟩
  | (i, v) :: parts, cells, hs, hp, hn => by
    have hi := hp (i, v) (List.mem_cons_self ..)
    simp only at hi
    have hm : i * size + size ≤ n * size := by
      have := Nat.mul_le_mul_right size (show i + 1 ≤ n from hi.1)
      rw [Nat.add_mul] at this
      omega
    obtain ⟨f1, f2⟩ := fold_set v.cells.toList 0 (i * size) cells
    simp only [List.map_cons, List.nodup_cons] at hn
    obtain ⟨out, o1, o2, o3, o4⟩ := fill_rows parts _ (f1.trans hs) (fun p hq => hp p (List.mem_cons_of_mem _ hq)) hn.2
    have apart : ∀ p ∈ parts, p.1 ≠ i := fun p hq e => hn.1 (e ▸ List.mem_map.2 ⟨p, hq, rfl⟩)
    refine ⟨out, ?_, o2, fun p hq j hj => ?_, fun m hmm => ?_⟩
    · rw [← o1]
      simp only [Instr.fill]
      rw [if_neg (by simp [hi.2, hs]; omega)]
      congr 1
      rw [← Array.foldl_toList, Array.toList_zipIdx]
    · rcases List.mem_cons.1 hq with rfl | hq
      · rw [o4 (i * size + j) fun q hq hh => ?_, f2, if_pos (by simp [hi.2]; omega)]
        · simp
        · rcases Nat.lt_or_gt_of_ne (apart q hq) with g | g
          · have := Nat.mul_le_mul_right size (show q.1 + 1 ≤ i from g)
            rw [Nat.add_mul] at this
            omega
          · have := Nat.mul_le_mul_right size (show i + 1 ≤ q.1 from g)
            rw [Nat.add_mul] at this
            omega
      · exact o3 p hq j hj
    · rw [o4 m fun p hq => hmm p (List.mem_cons_of_mem _ hq), f2]
      have := hmm (i, v) (List.mem_cons_self ..)
      simp only at this
      rw [if_neg]
      simp [hi.2]
      omega

/-- A literal's elements. -/
def litD (r : Operand → SV) : Nat → List (Nat × Operand) → Option (List D)
  | _, [] => some []
  | k, (i, x) :: l => match Nat.beq i k with
    | true => match r x with
      | .d y => match litD r (k + 1) l with
        | some ys => some (y :: ys)
        | none => none
      | _ => none
    | false => none

theorem litD_get {r : Operand → SV} : ∀ {l : List (Nat × Operand)} {k : Nat} {ys : List D}, litD r k l = some ys → ys.length = l.length ∧ ∀ (j : Nat) p, l[j]? = some p → p.1 = k + j ∧ ∃ y, ys[j]? = some y ∧ r p.2 = .d y
  | [], k, ys, hh => by simp only [litD, Option.some.injEq] at hh; subst hh; exact ⟨rfl, by simp⟩
  | (i, x) :: l, k, ys, hh => by
    simp only [litD] at hh
    split at hh
    · rename_i hi
      split at hh
      · rename_i y hy
        split at hh
        · rename_i zs hz
          simp only [Option.some.injEq] at hh
          subst hh
          obtain ⟨h1, h2⟩ := litD_get hz
          refine ⟨by simp [h1], fun j p hp => ?_⟩
          cases j with
          | zero => simp at hp; subst hp; exact ⟨Nat.eq_of_beq_eq_true hi, y, rfl, hy⟩
          | succ j =>
            obtain ⟨e1, z, e2, e3⟩ := h2 j p (by simpa using hp)
            exact ⟨by omega, z, by simpa using e2, e3⟩
        · cases hh
      · cases hh
    · cases hh

def elsOk (size : Nat) : List D → Bool
  | [] => true
  | y :: ys => y.el && Nat.beq y.width size && elsOk size ys
theorem elsOk_all {size : Nat} : ∀ {ys : List D}, elsOk size ys = true → ∀ y ∈ ys, y.el = true ∧ y.width = size
  | [], _ => by simp
  | y :: ys, hh => by
    simp only [elsOk, Bool.and_eq_true] at hh
    intro z hz
    rcases List.mem_cons.1 hz with rfl | hz
    · exact ⟨hh.1.1, Nat.eq_of_beq_eq_true hh.1.2⟩
    · exact elsOk_all hh.2 z hz

theorem lit_run {P : Program} {T : Nat} {ts te : TR} (ht : trOk P T ts = true) (hsl : ts.isSl = true) (hte : trOk P ts.elem te = true) (hz1 : (te.agg || Nat.beq te.zero.length 1) = true) (hz2 : Nat.beq te.zero.length te.size = true) (hz3 : Nat.ble 1 te.size = true)
    {ok : Nat → Prop} {w : World} {n : Nat} {parts : List (Nat × Value)} {ys : List D} (hn : ys.length = n) (hpn : parts.length = n) (hp : ∀ (j : Nat) p, parts[j]? = some p → p.1 = j ∧ ∃ y, ys[j]? = some y ∧ RepD ok w p.2 y) (hel : ∀ y ∈ ys, y.el = true ∧ y.width = te.size)
    (hlim : n * te.size ≤ 16777216) :
    ∃ out, (Instr.buildSlice T n parts.toArray).run P w = .ok (.slice (some ⟨w.heap.size, 0, none⟩) n n) (w.alloc (.cells out ts.elem)) ∧ out.size = n * te.size ∧ RepCells ok w te.size out.toList ys ∧ ∀ (j : Nat) p, parts[j]? = some p → ∀ q, q < te.size → out[j * te.size + q]? = p.2.cells[q]? := by
  obtain ⟨d, i', hdd, hi', _, _, _, hs, _⟩ := tr_facts ht
  have := hs hsl
  subst this
  obtain ⟨i, z, hi, hz, hisz, _, hcs, _⟩ := zero_cells hte hz1 hz2 hz3 (ok := ok) (w := w) 0
  have hgood : ∀ p ∈ parts, p.1 < n ∧ p.2.cells.size = te.size := fun p hpm => by
    obtain ⟨j, hj⟩ := List.getElem?_of_mem hpm
    obtain ⟨e1, y, e2, e3⟩ := hp j p hj
    obtain ⟨q1, q2⟩ := hel y (List.mem_of_getElem? e2)
    refine ⟨?_, by rw [e3.width (D.el_or q1), q2]⟩
    rw [e1, ← hpn]
    rcases Nat.lt_or_ge j parts.length with hh | hh
    · exact hh
    · simp [hh] at hj
  have hnd : (parts.map (·.1)).Nodup := by
    have : parts.map (·.1) = List.range n := by
      apply List.ext_getElem?
      intro j
      rw [List.getElem?_map]
      cases hj : parts[j]? with
      | none =>
        have : n ≤ j := by
          rcases Nat.lt_or_ge j parts.length with hh | hh
          · rw [List.getElem?_eq_getElem hh] at hj; cases hj
          · omega
        simp [this]
      | some p =>
        have hjl : j < n := by
          rcases Nat.lt_or_ge j parts.length with hh | hh
          · omega
          · simp [hh] at hj
        rw [List.getElem?_range hjl]
        simp [(hp j p hj).1]
    rw [this]; exact List.nodup_range
  have hsz0 : (madeCells z.cells (n * te.size)).size = n * te.size := size_madeCells _ _
  obtain ⟨out, o1, o2, o3, o4⟩ := fill_rows (size := te.size) (n := n) parts (madeCells z.cells (n * te.size)) hsz0 hgood hnd
  refine ⟨out, ?_, o2, ⟨by simp [o2, hn], parts.map (·.2), by simp [hpn, hn], fun j v x hv hx => ?_, fun j v hv => ?_⟩, fun j p hpj q hq => by rw [← o3 p (List.mem_of_getElem? hpj) q hq, (hp j p hpj).1]⟩
  · have hl : ¬ (n * te.size > 2 ^ 24) := by simp; omega
    by_cases h0 : n * te.size = 0
    · have hm : madeCells z.cells (n * te.size) = #[] := by simp [madeCells, h0, Array.range_zero']
      rw [hm] at o1
      simp only [Instr.buildSlice, Sem.run_bind, run_underlying hdd, Result.andThen_ok, sizeOf, typeInfo, run_program, hi, Sem.run_pure, hisz]
      simp [hl, h0, o1, newRow, Array.range_zero']
    · simp only [Instr.buildSlice, Sem.run_bind, run_underlying hdd, Result.andThen_ok, sizeOf, typeInfo, run_program, hi, Sem.run_pure, hisz]
      unfold madeCells at o1
      simp [hl, h0, zeroValue, typeInfo, hi, hz, o1, newRow]
  · rw [List.getElem?_map] at hv
    simp only [Option.map_eq_some_iff] at hv
    obtain ⟨p, hpj, rfl⟩ := hv
    obtain ⟨_, y, e2, e3⟩ := hp j p hpj
    rw [e2] at hx
    cases hx
    exact e3
  · rw [List.getElem?_map] at hv
    simp only [Option.map_eq_some_iff] at hv
    obtain ⟨p, hpj, rfl⟩ := hv
    have hpm := List.mem_of_getElem? hpj
    refine ⟨(hgood p hpm).2, fun q hq => ?_⟩
    have := o3 p hpm q hq
    rw [(hp j p hpj).1] at this
    simpa using this

end
end Go.Proofs.YtampglcgipefnaaGreat
