/- The given statement FnExactCompleteSuite: the law returns true for every input. No condition. -/
import Derived.Test.YtfemhnmggobhjaaGreatRows
import Derived.Test.YtfemhnmggobhjaaGreatFwJ
import Derived.Test.YtfemhnmggobhjaaGreatYe
namespace Go.Proofs.YtfemhnmggobhjaaGreat
open Go
set_option linter.unusedVariables false
set_option linter.unusedSimpArgs false
namespace LExactCompleteSuite
theorem ownKnobIs : ownKnob Tryz.prog.godebug = none := by kernel_rfl
theorem laidOutIs : laidOutB Tryz.prog = true := by kernel_rfl
section
variable {H : Type} {enc : TypeId × Value → H} {W : World} {base : Nat} {v : Value} {d : DataW H} {p : List MemPlace}
def Q_machine (xs : List D) : Prop := ∃ (s : Int) (o : Int) (nx : List (List Int)) (ou : List (List Int)), (I64 s ∧ I64 o ∧ RowsOk nx ∧ RowsOk ou) ∧ xs = [.int .i64 s, .int .i64 o, rows nx, rows ou]
set_option maxRecDepth 100000 in
theorem reads_machine : Reads enc Tryz.prog W 24 fun cs => ∃ xs, Q_machine xs ∧ CellsRep W cs xs := by
  intro fuel cs x h
  obtain ⟨hl, hf⟩ := reads_struct (P := Tryz.prog) (w := W) (enc := enc) Tryz.underlying24 (n := 4) (by kernel_rfl) [fun cs => ∃ s, I64 s ∧ CellsRep W cs [.int .i64 s], fun cs => ∃ o, I64 o ∧ CellsRep W cs [.int .i64 o], fun cs => ∃ nx, RowsOk nx ∧ CellsRep W cs [rows nx], fun cs => ∃ ou, RowsOk ou ∧ CellsRep W cs [rows ou]] (by
    intro i f Q h1 h2
    match i with
    | 0 => simp at h1 h2; subst h1 h2; exact cells_i64 Tryz.underlying2
    | 1 => simp at h1 h2; subst h1 h2; exact cells_i64 Tryz.underlying2
    | 2 => simp at h1 h2; subst h1 h2; exact cells_rows Tryz.underlying22 Tryz.underlying43 Tryz.underlying2 (by kernel_rfl) (by kernel_rfl)
    | 3 => simp at h1 h2; subst h1 h2; exact cells_rows Tryz.underlying22 Tryz.underlying43 Tryz.underlying2 (by kernel_rfl) (by kernel_rfl)
    | i + 4 => simp at h1) fuel cs x h
  have c0 : Tryz.prog.cellsOf 22 = 1 := by kernel_rfl
  have c1 : Tryz.prog.cellsOf 2 = 1 := by kernel_rfl
  obtain ⟨s, g0, r0⟩ := hf 0 _ _ rfl rfl
  obtain ⟨o, g1, r1⟩ := hf 1 _ _ rfl rfl
  obtain ⟨nx, g2, r2⟩ := hf 2 _ _ rfl rfl
  obtain ⟨ou, g3, r3⟩ := hf 3 _ _ rfl rfl
  obtain ⟨x0, x1, x2, x3, rfl⟩ := len4 hl
  simp [c0, c1] at r0 r1 r2 r3
  refine ⟨_, ⟨s, o, nx, ou, ⟨g0, g1, g2, g3⟩, rfl⟩, ?_⟩
  exact (r0).append ( (r1).append ( (r2).append (r3)))
end
set_option maxRecDepth 100000 in
theorem contract (H : Type) (enc : TypeId × Value → H) (W : World) (base : Nat) (args : Array Value) (ds gs : List (DataW H)) (before : List MemPlace)
    (hval : ∀ (j : Nat) t v, Tryz.f3.params[j]? = some t → args[j]? = some v → Value.okWide Tryz.prog W .any base t v)
    (hW : DataW.Whole enc Tryz.prog Tryz.f3.params.toList Rows.fnExactCompleteSuiteSpec.vars false W args.toList ds gs before) :
    Calls Tryz.prog 3 args W fun e W' => ∃ v, e = .returned v ∧ Rows.fnExactCompleteSuiteSpec.post enc Tryz.prog Tryz.f3 false true false false W args v W' := by
  obtain ⟨p, q, hA, hV, _, _, _⟩ := id hW
  rw [Tryz.params3] at hA hval
  obtain ⟨v0, vs0, d0, ds0, p0, q0, hargs0, rfl, _, h0, r0⟩ := ChangeShapes.trodAll_cons hA
  obtain ⟨v1, vs1, d1, ds1, p1, q1, hargs1, rfl, _, h1, r1⟩ := ChangeShapes.trodAll_cons r0
  obtain ⟨rfl, rfl, _⟩ := ChangeShapes.trodAll_nil r1
  subst hargs1
  obtain rfl : args = #[v0, v1] := Array.ext' hargs0
  have hV' : DataW.TrodVars enc Tryz.prog W (fun _ => true) [] gs q := hV
  obtain ⟨rfl, _⟩ := ChangeShapes.trodVars_none hV'
  obtain ⟨_, ⟨a0_0, a0_1, a0_2, a0_3, ⟨g0_0, g0_1, g0_2, g0_3⟩, rfl⟩, e0⟩ := open_agg Tryz.underlying24 reads_machine (hval 0 24 v0 rfl rfl) h0
  obtain ⟨n1, f1, e1⟩ := open_i64 Tryz.underlying2 (hval 1 2 v1 rfl rfl) h1
  refine ((law_ExactCompleteSuite g0_0 g0_1 g0_2 g0_3 f1).2 W (old W) _ (fun b hb => hb) ⟨rfl, fun i v x hv hx => ?_⟩).mono ?_
  · match i with
    | 0 => simp at hv hx; subst hv hx; exact e0
    | 1 => simp at hv hx; subst hv hx; exact e1
    | i + 2 => simp at hv
  · rintro e W' ⟨v, rfl, hv, hb⟩
    have := RepD.bool_inv hv
    subst this
    exact ⟨_, rfl, law_post laidOutIs (by kernel_rfl) rfl hW hb rfl Tryz.underlying4 ⟨rfl, rfl, rfl⟩⟩
set_option maxRecDepth 100000 in
theorem lifted (os : Os) (started : os.Started) (H : Type) (enc : TypeId × Value → H) :
    ReturnsInHanded {} Tryz.checked os 3 .any (Rows.fnExactCompleteSuiteSpec.pre6 enc Tryz.prog Tryz.f3 Rows.fnExactCompleteSuiteRow.domain false) (Rows.fnExactCompleteSuiteSpec.post enc Tryz.prog Tryz.f3 false true false false) := by
  refine returnsInHanded_of_change (C := Tryz.checked) ownKnobIs started (by kernel_rfl) Tryz.func3
    (ChangeSpec.witness6 (enc := enc) (C := Tryz.checked) false ⟨#[], #[.agg #[.int .i64 0, .int .i64 0, .slice none 0 0, .slice none 0 0], .int .i64 0], []⟩ 8 (by kernel_rfl) (by kernel_rfl) (by kernel_rfl) (by kernel_rfl)) ?_
  intro W base args ds gs before hval hW _ _
  exact contract H enc W base args ds gs before hval hW

theorem proved : Rows.FnExactCompleteSuiteSaid :=
  OpenClaim.holds_of_wide 3 Tryz.f3 rfl rfl rfl rfl rfl rfl rfl ⟨rfl, rfl, rfl, rfl, rfl⟩ rfl rfl rfl rfl rfl (by kernel_rfl) Tryz.func3 (by kernel_rfl)
    (of_decide_eq_true (by kernel_rfl)) (by unfold Func.isWrapper; first | (rw [if_pos (by decide +kernel)]; kernel_rfl) | (rw [if_neg (by decide +kernel)]; exact ⟨rfl, rfl⟩))
    (fun os started H enc _ => lifted os started H enc)
end LExactCompleteSuite
end Go.Proofs.YtfemhnmggobhjaaGreat
