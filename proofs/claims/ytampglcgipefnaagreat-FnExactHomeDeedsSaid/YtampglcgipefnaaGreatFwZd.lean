/- A variable's cell that says less. No condition. -/
import Derived.Test.YtampglcgipefnaaGreatFwQ
import Derived.Test.YtampglcgipefnaaGreatFwZb
namespace Go.Proofs.YtampglcgipefnaaGreat
open Go
open Go.RowKit (Below)
set_option linter.unusedVariables false
set_option linter.unusedSimpArgs false
section
variable {cx : Cx} {ops : Array Oper} {s : Slots} {h : Heap} {Q : Exit → Slots → Heap → Prop}

theorem R_cellLe {a : Act} {w : World} {id off : Nat} {cells : List SV} {x y : D} (hr : R cx (lk s) h a w) (hg : h.get id = some (.box cells)) (hc : cells[off]? = some (.d x)) (hl : D.Le x y) :
    R cx (lk s) (setH id (.box (cells.set off (.d y))) h) a w := by
  obtain ⟨σ, hr⟩ := hr
  have hlike : (Chunk.box cells).like (.box (cells.set off (.d y))) := by simp [Chunk.like]
  refine ⟨σ, hr.set (w' := w) hg hlike rfl rfl rfl rfl (fun _ _ => rfl) fun hok => ?_⟩
  obtain ⟨p, hp, hp1, hp2⟩ := get_mem hg
  have hrep := hr.heap.rep p hp
  rw [hp2, hp1] at hrep
  obtain ⟨h0, cs, t, h1, h2, h3⟩ := hrep
  refine ⟨h0, cs, t, h1, by simpa using h2, fun i v x' hv hx => ?_⟩
  by_cases e : i = off
  · subst e
    have hlt : i < cells.length := by
      rcases Nat.lt_or_ge i cells.length with hh | hh
      · exact hh
      · simp [hh] at hc
    rw [List.getElem?_set_self hlt] at hx
    cases hx
    obtain ⟨k1, k2⟩ := h3 i v _ hv hc
    have k1 : RepD (okf cx σ h) w v x := k1
    exact ⟨(k1.le hl).mono hok, k2⟩
  · rw [List.getElem?_set_ne (by omega)] at hx
    obtain ⟨k1, k2⟩ := h3 i v x' hv hx
    exact ⟨RepSV.set k1 hg hlike hok, k2⟩
theorem awp_cellLe {c : Code} (id off : Nat) {cells : List SV} {x y : D} (hg : h.get id = some (.box cells)) (hc : cells[off]? = some (.d x)) (hl : D.Le x y) (hn : awp cx c s (setH id (.box (cells.set off (.d y))) h) Q) : awp cx c s h Q := fun a w hr => hn a w (R_cellLe hr hg hc hl)
end
end Go.Proofs.YtampglcgipefnaaGreat

/-! A field of a struct in a row of one's own. No condition. -/
namespace Go.Proofs.YtampglcgipefnaaGreat
open Go
open Go.RowKit (Below)
set_option linter.unusedVariables false
set_option linter.unusedSimpArgs false
section
variable {cx : Cx} {ops : Array Oper} {s : Slots} {h : Heap} {Q : Exit → Slots → Heap → Prop} {dst : Option Nat} {t ty : Nat} {pos : String} {af : Array Edge} {gd : Option (Nat × Bool)}

/-- Where an element lies. -/
theorem wv_indexRef {T : Nat} {x i : Operand} {ts te : TR} {f : Nat → SV} {id e sz : Nat} {xs : List D} {k : IntKind} {n : Int} (hx : opv f x = .own id) (hi : opv f i = .d (.int k n)) (hg : h.get id = some (.arr e sz xs))
    (ht : tget cx.T T = some ts) (hsl : ts.isSl = true) (hte : tget cx.T ts.elem = some te) (hsz : Nat.beq sz te.size = true) (h0 : 0 ≤ n) (hlt : n < xs.length) :
    Qt cx h ⟨dst, .indexAddr T x i, ty, pos, af, gd⟩ f (.ref id (n.toNat * sz)) := by
  intro s₁ hs σ a w hr K Q hK
  refine qa_indexOwn hx hi hg h0 hlt ht hsl hte hsz s₁ hs σ a w hr K Q fun v w' hb hv => hK v w' hb ?_
  simp only [RepSV, hg] at hv ⊢
  exact hv

/-- A field of an element is written. -/
theorem wv_storeFld {T : Nat} {x y : Operand} {tr : TR} {id o e sz : Nat} {xs zs : List D} {u : D} (i off : Nat) (hx : opv (lk s) x = .ref id o) (hg : h.get id = some (.arr e sz xs)) (hy : opv (lk s) y = .d u) (ht : tget cx.T T = some tr)
    (hone : u.one = true) (hw : Nat.beq tr.size 1 = true) (ho : o = i * sz + off) (hz : xs[i]? = some (.agg zs)) (hoff : off < zs.length) (hzl : zs.length = sz) :
    OpTo cx ⟨none, .store T x y, ty, pos, af, none⟩ s h s (setH id (.arr e sz (xs.set i (.agg (zs.set off u)))) h) := by
  rintro a w ⟨σ, hr⟩ K Q hK
  have h1 := rep_eval hr x
  rw [hx] at h1
  simp only [RepSV] at h1
  have h2 : RepD (okf cx σ h) w (a.eval y) u := by
    have := rep_eval hr y
    rw [hy] at this
    exact this
  have hw' := Nat.eq_of_beq_eq_true hw
  obtain ⟨d, ii, hdd, hii, e1, e2, _⟩ := tr_facts (tget_ok cx.tab ht)
  have hi : i < xs.length := by
    rcases Nat.lt_or_ge i xs.length with hh | hh
    · exact hh
    · simp [hh] at hz
  obtain ⟨cur, cap, v, c1, c2, c3, c4, c5, c6, c7, c8⟩ := arr_cell hr hg hz
  obtain ⟨cs, rfl, z1, z2, z3⟩ := RepD.agg_inv c6
  have hvc : (a.eval y).cells = #[a.eval y] := h2.oneCell hone
  have hm : i * sz + sz ≤ xs.length * sz := by
    have := Nat.mul_le_mul_right sz (show i + 1 ≤ xs.length from hi)
    rw [Nat.add_mul] at this
    omega
  have hmc : xs.length * sz ≤ cap * sz := Nat.mul_le_mul_right sz c3
  have hst := run_storeCells_at cx.P (σ id).b (i * sz + off) e [a.eval y] 0 cur w c1 (by simp; omega) (fun u' hu' => by simp at hu'; subst hu'; exact h2.oneCell' hone)
  simp only [Nat.add_zero, List.length_singleton] at hst
  let row : Array Value := (cur.toList.take (i * sz + off) ++ [a.eval y] ++ cur.toList.drop (i * sz + off + 1)).toArray
  have run : (execOp a.eval ⟨none, .store T x y, ty, pos, af, none⟩).run cx.P w = .ok .skip (w.setRow (σ id).b row) := by
    have hs : (storeVar T ⟨(σ id).b, i * sz + off, none⟩ (a.eval y)).run cx.P w = .ok () (w.setRow (σ id).b row) := by
      unfold storeVar
      have hne : ¬ ((a.eval y).cells.size ≠ ii.size) := by rw [hvc, e2, hw']; simp
      simp only [sizeOf, typeInfo, Sem.run_bind, run_program, Result.andThen_ok, hii, Sem.run_pure]
      rw [if_neg hne, hvc]
      exact hst
    rw [ho] at h1
    simp [execOp, Instr.storeAt, Instr.sureAddr, h1, hs]
  have hcl : cur.toList.length = cap * sz := by rw [Array.length_toList, c5]
  have hl : (cur.toList.take (i * sz + off)).length = i * sz + off := by rw [List.length_take, hcl]; omega
  have rowget : ∀ m, row[m]? = if m = i * sz + off then some (a.eval y) else cur[m]? := fun m => by
    have e0 : row[m]? = (cur.toList.take (i * sz + off) ++ ([a.eval y] ++ cur.toList.drop (i * sz + off + 1)))[m]? := by
      simp only [row, List.append_assoc]
      rw [List.getElem?_toArray]
    rw [e0]
    by_cases g1 : m < i * sz + off
    · rw [List.getElem?_append_left (by rw [hl]; exact g1), List.getElem?_take, if_pos g1, if_neg (by omega)]
      simp
    · rw [List.getElem?_append_right (by rw [hl]; omega), hl]
      by_cases g2 : m = i * sz + off
      · rw [if_pos g2, g2, Nat.sub_self]; rfl
      · rw [if_neg g2, List.getElem?_append_right (by simp; omega), List.getElem?_drop, List.length_singleton]
        simp only [Array.getElem?_toList]
        congr 1
        omega
  have rowsize : row.size = cur.size := by
    have hcs : cur.size = cap * sz := c5
    simp only [row, List.size_toArray, List.length_append, hl, List.length_singleton, List.length_drop, hcl]
    omega
  have hrl : row.toList.length = cap * sz := by rw [Array.length_toList, rowsize, c5]
  have hr' := hr.set (w' := w.setRow (σ id).b row) (c' := .arr e sz (xs.set i (.agg (zs.set off u)))) hg (by simp [Chunk.like]) rfl rfl rfl (by simp) (fun b hb => setRow_other w _ b _ (by simpa [blk, c2] using hb)) fun hok => by
    obtain ⟨_, h0, hlt, cl, ⟨o0, ho2⟩, r1, vs, r2, r3, r4⟩ := chunk_own hr hg
    refine ⟨h0, row.toList.take (xs.length * sz), ⟨?_, .inr ⟨(σ id).b, cap, row, ?_, Nat.zero_le _, setRow_heap w _ cur _ e (0, 0) c1, ?_, c4, by rw [rowsize, c5], by simp⟩⟩, ?_⟩
    · rw [List.length_take, hrl, List.length_set, Nat.min_eq_left hmc]
    · have hnil := c2
      unfold sliceAt
      rw [if_neg (by simp [hnil])]
      have : cap = (σ id).cap := by
        rcases ho2 with ⟨_, ho2⟩ | ⟨g, cap', cur', p2, p3, p4, p5, p6, p7, p8⟩
        · omega
        · unfold sliceAt at p2
          rw [if_neg (by simp [hnil])] at p2
          cases p2
          rw [c1] at p4
          cases p4
          exact Nat.eq_of_mul_eq_mul_right h0 (c5.symm.trans p7)
      rw [this]
    · simpa using c3
    · have hcur : ∀ j q, j < xs.length → q < sz → cl[j * sz + q]? = cur[j * sz + q]? := fun j q hj hq => by
        have hmj : j * sz + sz ≤ xs.length * sz := by
          have := Nat.mul_le_mul_right sz (show j + 1 ≤ xs.length from hj)
          rw [Nat.add_mul] at this
          omega
        rcases ho2 with ⟨_, ho2⟩ | ⟨g', cap', cur', p2, p3, p4, p5, p6, p7, p8⟩
        · omega
        · unfold sliceAt at p2
          rw [if_neg (by simp [c2])] at p2
          cases p2
          rw [c1] at p4
          cases p4
          rw [← p8, List.getElem?_take, if_pos (by omega)]
          simp
      refine ⟨by rw [List.length_take, hrl, List.length_set, Nat.min_eq_left hmc], vs.set i (.agg (cs.setIfInBounds off (a.eval y))), by simp [r2], fun j v x hv hx => ?_, fun j v hv => ?_⟩
      · by_cases g : i = j
        · subst g
          rw [List.getElem?_set_self (by omega)] at hv hx
          cases hv
          cases hx
          refine RepD.agg _ _ (by simpa using z1) (fun x hx => ?_) fun q v' x' hv' hx' => ?_
          · rcases List.mem_or_eq_of_mem_set hx with hx | rfl
            · exact z2 x hx
            · exact hone
          · by_cases gq : off = q
            · subst gq
              rw [List.getElem?_set_self (by omega)] at hx'
              cases hx'
              rw [Array.getElem?_setIfInBounds_self_of_lt (by omega)] at hv'
              cases hv'
              exact h2.mono hok
            · rw [List.getElem?_set_ne gq] at hx'
              rw [Array.getElem?_setIfInBounds_ne gq] at hv'
              exact (z3 q v' x' hv' hx').mono hok
        · rw [List.getElem?_set_ne g] at hv hx
          exact (r3 j v x hv hx).mono hok
      · have hjl : j < xs.length := by
          rcases Nat.lt_or_ge j vs.length with hh | hh
          · omega
          · simp [hh] at hv
        have hmj : j * sz + sz ≤ xs.length * sz := by
          have := Nat.mul_le_mul_right sz (show j + 1 ≤ xs.length from hjl)
          rw [Nat.add_mul] at this
          omega
        by_cases g : i = j
        · subst g
          rw [List.getElem?_set_self (by omega)] at hv
          cases hv
          have hcsz : cs.size = sz := by rw [z1, hzl]
          refine ⟨by simp [Value.cells, hcsz], fun q hq => ?_⟩
          rw [List.getElem?_take, if_pos (by omega), Array.getElem?_toList, rowget]
          show _ = (cs.setIfInBounds off (a.eval y))[q]?
          by_cases gq : off = q
          · subst gq
            rw [if_pos rfl, Array.getElem?_setIfInBounds_self_of_lt (by omega)]
          · rw [if_neg (by omega), Array.getElem?_setIfInBounds_ne gq, c8 q hq]
            rfl
        · rw [List.getElem?_set_ne g] at hv
          refine ⟨(r4 j v hv).1, fun q hq => ?_⟩
          rw [List.getElem?_take, if_pos (by omega), Array.getElem?_toList, rowget, if_neg, ← hcur j q hjl hq]
          · exact (r4 j v hv).2 q hq
          · intro hh
            rcases Nat.lt_or_gt_of_ne g with g3 | g3
            · have := Nat.mul_le_mul_right sz (show i + 1 ≤ j from g3)
              rw [Nat.add_mul] at this
              omega
            · have := Nat.mul_le_mul_right sz (show j + 1 ≤ i from g3)
              rw [Nat.add_mul] at this
              omega
  unfold Oper.wp
  rw [run]
  exact hK _ _ ⟨σ, hr'⟩
end
end Go.Proofs.YtampglcgipefnaaGreat
