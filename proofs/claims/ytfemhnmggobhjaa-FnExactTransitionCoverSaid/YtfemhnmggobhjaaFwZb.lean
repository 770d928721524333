/- A part of one's own row from a place on: slicing, length, elements. No condition. -/
import Derived.Test.YtfemhnmggobhjaaFwW
import Derived.Laws.Slices
namespace Go.Proofs.Ytfemhnmggobhjaa
open Go
open Go.RowKit (Below)
set_option linter.unusedVariables false
set_option linter.unusedSimpArgs false

section
variable {cx : Cx} {ops : Array Oper} {rest : List Oper} {s : Slots} {h : Heap} {Q : Exit → Slots → Heap → Prop} {dst : Option Nat} {t ty : Nat} {pos : String} {af : Array Edge} {gd : Option (Nat × Bool)}

/-- One's own row from a place on. -/
theorem wv_view {T : Nat} {x lo : Operand} {ts te : TR} {f : Nat → SV} {id e sz : Nat} {xs : List D} {k : IntKind} {n : Int} (hx : opv f x = .own id) (hg : h.get id = some (.arr e sz xs)) (hl : opv f lo = .d (.int k n))
    (ht : tget cx.T T = some ts) (hsl : ts.isSl = true) (hte : tget cx.T ts.elem = some te) (hsz : Nat.beq sz te.size = true) (h0 : 0 ≤ n) (hn : n ≤ xs.length) :
    Qt cx h ⟨dst, .slice T x (some lo) none none, ty, pos, af, gd⟩ f (.sub id (2 * n.toNat)) := by
  intro s₁ hs σ a w hr K Q hK
  have h1 := rep_eval hr x
  have h2 := rep_eval hr lo
  rw [show opv s₁ x = opv f x from by cases x <;> first | rfl | exact hs _ (by simp [Op.operands]), hx] at h1
  rw [show opv s₁ lo = opv f lo from by cases lo <;> first | rfl | exact hs _ (by simp [Op.operands]), hl] at h2
  have h2' := RepD.int_inv h2
  simp only [RepSV, hg] at h1
  obtain ⟨d, i, hdd, hi', -, -, -, hs', -⟩ := tr_facts (tget_ok cx.tab ht)
  obtain ⟨d', i', hdd', hi2, -, hz, -⟩ := tr_facts (tget_ok cx.tab hte)
  have := hs' hsl
  subst this
  have hsz' := Nat.eq_of_beq_eq_true hsz
  have hE : cx.P.elem T = ts.elem := by simp [Program.elem, hdd]
  have hd2 : cx.P.underlying T = some (.slice (cx.P.elem T)) := by rw [hE]; exact hdd
  obtain ⟨_, _, _, cl, ⟨_, ho⟩, _⟩ := chunk_own hr hg
  have run : (execOp a.eval ⟨dst, .slice T x (some lo) none none, ty, pos, af, gd⟩).run cx.P w = .ok (.value (viewAt (σ id) (2 * n.toNat) sz xs.length)) w := by
    unfold sliceAt at h1
    split at h1
    · rename_i hnil
      have hx0 : xs.length = 0 := by
        rcases ho with ⟨_, q⟩ | ⟨_, _, _, q, _⟩
        · exact q
        · simp [sliceAt, hnil] at q
      have hn0 : n = 0 := by omega
      subst hn0
      rw [show viewAt (σ id) (2 * (0 : Int).toNat) sz xs.length = .slice none 0 0 by unfold viewAt; rw [if_pos hnil]]
      simp only [execOp, h1, h2', Option.map_some, Option.map_none]
      simp only [Sem.run_bind, Sem.run_pure]
      rw [run_sliceAt_slice (h := hd2), run_slice_l (ht := hd2) (h0 := by omega) (h1 := by simp), hE]
      simp [sizeOf, typeInfo, hi2, hz, Result.andThen, sliced]
    · rename_i hnil
      rw [view_from (by simpa using hnil)]
      simp only [execOp, h1, h2', Option.map_some, Option.map_none]
      simp only [Sem.run_bind, Sem.run_pure]
      rw [run_sliceAt_slice (h := hd2), run_slice_l (ht := hd2) (h0 := h0) (h1 := by omega), hE]
      by_cases hc : (σ id).cap = n.toNat
      · simp [sizeOf, typeInfo, hi2, hz, Result.andThen, sliced, hc]
      · simp [sizeOf, typeInfo, hi2, hz, Result.andThen, sliced, hc, add_block, hsz']
  unfold Oper.wp
  rw [run]
  exact hK _ _ (Below.refl _ _) (by simp only [RepSV, hg])

/-- An element of it. -/
theorem wv_index {T : Nat} {x i : Operand} {ts te : TR} {f : Nat → SV} {id e sz m : Nat} {xs : List D} {k : IntKind} {n : Int} (hx : opv f x = .sub id (2 * m)) (hi : opv f i = .d (.int k n)) (hg : h.get id = some (.arr e sz xs))
    (ht : tget cx.T T = some ts) (hsl : ts.isSl = true) (hte : tget cx.T ts.elem = some te) (hsz : Nat.beq sz te.size = true) (h0 : 0 ≤ n) (hlt : (m : Int) + n < xs.length) :
    Qt cx h ⟨dst, .indexAddr T x i, ty, pos, af, gd⟩ f (.elt id (m + n.toNat)) := by
  intro s₁ hs σ a w hr K Q hK
  have h1 := rep_eval hr x
  have h2 := rep_eval hr i
  rw [show opv s₁ x = opv f x from by cases x <;> first | rfl | exact hs _ (by simp [Op.operands]), hx] at h1
  rw [show opv s₁ i = opv f i from by cases i <;> first | rfl | exact hs _ (by simp [Op.operands]), hi] at h2
  have h2' := RepD.int_inv h2
  simp only [RepSV, hg] at h1
  obtain ⟨d, i', hdd, hi', _, _, _, hs', _⟩ := tr_facts (tget_ok cx.tab ht)
  have := hs' hsl
  subst this
  obtain ⟨_, ie, _, hie, _, hies, _⟩ := tr_facts (tget_ok cx.tab hte)
  have hsz' := Nat.eq_of_beq_eq_true hsz
  obtain ⟨_, _, _, cl, ⟨_, ho⟩, _⟩ := chunk_own hr hg
  have hcap : (σ id).nil = false ∧ xs.length ≤ (σ id).cap := by
    rcases ho with ⟨_, q⟩ | ⟨g, cap, cur, q, _, _, q4, _⟩
    · omega
    · unfold sliceAt at q
      split at q
      · cases q
      · rename_i hn
        obtain ⟨_, _, q3⟩ := Value.slice.inj q
        exact ⟨by simpa using hn, by omega⟩
  have hv : viewAt (σ id) (2 * m) sz xs.length = .slice (some ⟨(σ id).b, m * sz, none⟩) (xs.length - m) ((σ id).cap - m) := by
    rw [view_from hcap.1, if_neg (by omega)]
  rw [hv] at h1
  unfold Oper.wp
  have run : (execOp a.eval ⟨dst, .indexAddr T x i, ty, pos, af, gd⟩).run cx.P w = .ok (.value (.pointer (some ⟨(σ id).b, (m + n.toNat) * sz, none⟩))) w := by
    simp only [execOp, h1, h2', Instr.indexAt, asIntOf, Sem.run_bind, Sem.run_pure, Result.andThen_ok, run_underlying hdd]
    rw [if_pos ⟨h0, by omega⟩]
    simp [sizeOf, typeInfo, hie, hies, add_block, hsz', Nat.add_mul]
  rw [run]
  exact hK _ _ (Below.refl _ _) (by simp only [RepSV, hg])

/-- How many elements it has. -/
theorem wv_len {T : Nat} {x : Operand} {tr : TR} {f : Nat → SV} {id e sz m : Nat} {xs : List D} (hx : opv f x = .sub id (2 * m)) (hg : h.get id = some (.arr e sz xs)) (ht : tget cx.T T = some tr) (hsl : tr.isSl = true) :
    Qt cx h ⟨dst, .call { callee := .builtin .len, args := #[x], argTypes := #[T] }, ty, pos, af, gd⟩ f (.d (.int .i64 ((xs.length - m : Nat) : Int))) := by
  intro s₁ hs σ a w hr K Q hK
  have h1 := rep_eval hr x
  rw [show opv s₁ x = opv f x from by cases x <;> first | rfl | exact hs _ (by simp [Op.operands, Call.operands]), hx] at h1
  simp only [RepSV, hg] at h1
  obtain ⟨d, i, hd, hi', -, -, -, hs', -⟩ := tr_facts (tget_ok cx.tab ht)
  have := hs' hsl
  subst this
  obtain ⟨_, _, _, cl, ⟨_, ho⟩, _⟩ := chunk_own hr hg
  have hv : ∃ A c, viewAt (σ id) (2 * m) sz xs.length = .slice A (xs.length - m) c := by
    cases hnil : (σ id).nil with
    | true =>
      have hx0 : xs.length = 0 := by
        rcases ho with ⟨_, q⟩ | ⟨_, _, _, q, _⟩
        · exact q
        · simp [sliceAt, hnil] at q
      rw [hx0, Nat.zero_sub]
      unfold viewAt
      rw [if_pos hnil]
      exact ⟨_, _, rfl⟩
    | false =>
      rw [view_from hnil]
      exact ⟨_, _, rfl⟩
  obtain ⟨A, c, hv⟩ := hv
  rw [hv] at h1
  unfold Oper.wp
  have run : (execOp a.eval ⟨dst, .call { callee := .builtin .len, args := #[x], argTypes := #[T] }, ty, pos, af, gd⟩).run cx.P w = .ok (.value (.int .i64 ((xs.length - m : Nat) : Int))) w := by
    simp [execOp, resolve, invoke, builtin, h1, Builtin.len_, run_underlying hd]
    try rfl
  rw [run]
  exact hK _ _ (Below.refl _ _) (RepD.int _ _)

/-! ### A slice without room -/
end

/-! ### Guards that are known -/
section
variable {cx : Cx} {ops : Array Oper} {rest : List Oper} {s : Slots} {h : Heap} {Q : Exit → Slots → Heap → Prop} {K : Slots → Prop}
theorem u_glt {o : Oper} {j t : Nat} {want b : Bool} (h1 : awpL cx ops (o :: rest) ((t, .d (.bool true)) :: s) h Q) (hg : o.guard = some (j, want) := by exact rfl) (hj : (ops[j]?).bind (·.dst) = some t := by exact rfl) (hb : lk s t = .d (.bool b) := by exact rfl) (hv : b = true := by ((fail_if_success (exact rfl)); first | assumption | (simp; omega) | (simp; done) | fail)) : awpL cx ops (o :: rest) s h Q := awpL_split hg hj hb (fun e => by first | exact h1 | (rw [hv] at e; cases e)) (fun e => by first | exact h1 | (rw [hv] at e; cases e))
theorem u_gqt {o : Oper} {j t : Nat} {want b : Bool} (h1 : awpQL cx ops h K (o :: rest) ((t, .d (.bool true)) :: s)) (hg : o.guard = some (j, want) := by exact rfl) (hj : (ops[j]?).bind (·.dst) = some t := by exact rfl) (hb : lk s t = .d (.bool b) := by exact rfl) (hv : b = true := by ((fail_if_success (exact rfl)); first | assumption | (simp; omega) | (simp; done) | fail)) : awpQL cx ops h K (o :: rest) s := awpQL_split hg hj hb (fun e => by first | exact h1 | (rw [hv] at e; cases e)) (fun e => by first | exact h1 | (rw [hv] at e; cases e))
theorem u_glf {o : Oper} {j t : Nat} {want b : Bool} (h1 : awpL cx ops (o :: rest) ((t, .d (.bool false)) :: s) h Q) (hg : o.guard = some (j, want) := by exact rfl) (hj : (ops[j]?).bind (·.dst) = some t := by exact rfl) (hb : lk s t = .d (.bool b) := by exact rfl) (hv : b = false := by ((fail_if_success (exact rfl)); first | assumption | (simp; omega) | (simp; done) | fail)) : awpL cx ops (o :: rest) s h Q := awpL_split hg hj hb (fun e => by first | exact h1 | (rw [hv] at e; cases e)) (fun e => by first | exact h1 | (rw [hv] at e; cases e))
theorem u_gqf {o : Oper} {j t : Nat} {want b : Bool} (h1 : awpQL cx ops h K (o :: rest) ((t, .d (.bool false)) :: s)) (hg : o.guard = some (j, want) := by exact rfl) (hj : (ops[j]?).bind (·.dst) = some t := by exact rfl) (hb : lk s t = .d (.bool b) := by exact rfl) (hv : b = false := by ((fail_if_success (exact rfl)); first | assumption | (simp; omega) | (simp; done) | fail)) : awpQL cx ops h K (o :: rest) s := awpQL_split hg hj hb (fun e => by first | exact h1 | (rw [hv] at e; cases e)) (fun e => by first | exact h1 | (rw [hv] at e; cases e))
end
end Go.Proofs.Ytfemhnmggobhjaa

/-! A row of one's own from which something is taken out in place: the first elements of it, what stands behind them appended, the rest cleared. No condition. -/
namespace Go.Proofs.Ytfemhnmggobhjaa
open Go
open Go.RowKit (Below)
set_option linter.unusedVariables false
set_option linter.unusedSimpArgs false

theorem RepCells.drop {ok : Nat → Prop} {w : World} {sz : Nat} {cl : List Value} {xs : List D} (h : RepCells ok w sz cl xs) {k : Nat} (hk : k ≤ xs.length) : RepCells ok w sz (cl.drop (k * sz)) (xs.drop k) := by
  obtain ⟨h1, vs, h2, h3, h4⟩ := h
  refine ⟨by rw [List.length_drop, List.length_drop, h1, Nat.sub_mul], vs.drop k, by simp [h2], fun i v x hv hx => ?_, fun i v hv => ?_⟩
  · rw [List.getElem?_drop] at hv hx
    exact h3 _ v x hv hx
  · rw [List.getElem?_drop] at hv
    obtain ⟨c1, c2⟩ := h4 _ v hv
    refine ⟨c1, fun j hj => ?_⟩
    rw [List.getElem?_drop, ← c2 j hj]
    congr 1
    rw [Nat.add_mul]
    omega

section
variable {cx : Cx} {ops : Array Oper} {rest : List Oper} {s : Slots} {h : Heap} {Q : Exit → Slots → Heap → Prop} {dst : Option Nat} {t ty : Nat} {pos : String} {af : Array Edge} {gd : Option (Nat × Bool)}

end
end Go.Proofs.Ytfemhnmggobhjaa
