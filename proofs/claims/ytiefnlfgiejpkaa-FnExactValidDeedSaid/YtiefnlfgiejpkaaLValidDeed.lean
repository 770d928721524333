/- The given statement on ValidDeed: the program's ValidDeed returns what the reference's returns, for every deed. No condition. -/
import Derived.Test.YtiefnlfgiejpkaaRows
import Derived.Test.YtiefnlfgiejpkaaFwL
import Derived.Test.YtiefnlfgiejpkaaWa
namespace Go.Proofs.Ytiefnlfgiejpkaa
open Go
set_option linter.unusedVariables false
set_option linter.unusedSimpArgs false
theorem ownKnobIs : ownKnob Try.prog.godebug = none := by kernel_rfl
theorem laidOutIs : laidOutB Try.prog = true := by kernel_rfl
namespace LValidDeed

theorem reads_deed {H : Type} {enc : TypeId × Value → H} {w : World} : Reads enc Try.prog w 23 fun cs => ∃ k a : Int, cs = [.int .i64 k, .int .i64 a] := by
  intro fuel cs x h
  obtain ⟨hl, hf⟩ := reads_struct (P := Try.prog) (w := w) (enc := enc) Try.underlying23 (n := 2) (by kernel_rfl) [fun cs => ∃ n, cs = [.int .i64 n] ∧ IntKind.i64.min ≤ n ∧ n ≤ IntKind.i64.max, fun cs => ∃ n, cs = [.int .i64 n] ∧ IntKind.i64.min ≤ n ∧ n ≤ IntKind.i64.max] (by
    intro i f Q h1 h2
    match i with
    | 0 => simp at h1 h2; subst h1 h2; exact reads_int Try.underlying2
    | 1 => simp at h1 h2; subst h1 h2; exact reads_int Try.underlying2
    | i + 2 => simp at h1) fuel cs x h
  have c1 : Try.prog.cellsOf 2 = 1 := by kernel_rfl
  obtain ⟨n0, h0, _⟩ := hf 0 _ _ rfl rfl
  obtain ⟨n1, h1, _⟩ := hf 1 _ _ rfl rfl
  obtain ⟨a, b, rfl⟩ := len2 hl
  simp [c1] at h0 h1
  exact ⟨n0, n1, by rw [h0, h1]⟩

set_option maxRecDepth 100000 in
theorem contract (H : Type) (enc : TypeId × Value → H) (W : World) (base : Nat) (args : Array Value) (ds gs : List (DataW H)) (before : List MemPlace)
    (hval : ∀ (j : Nat) t v, Try.f3.params[j]? = some t → args[j]? = some v → Value.okWide Try.prog W .any base t v)
    (hW : DataW.Whole enc Try.prog Try.f3.params.toList Rows.fnExactValidDeedSpec.vars false W args.toList ds gs before) :
    Calls Try.prog 3 args W fun e W' => ∃ v, e = .returned v ∧ Rows.fnExactValidDeedSpec.post enc Try.prog Try.f3 false true false false W args v W' := by
  obtain ⟨p, q, hA, hV, _, _, _⟩ := id hW
  rw [Try.params3] at hA hval
  obtain ⟨v0, vs0, d0, ds0, p0, q0, hargs, rfl, rfl, h0, r0⟩ := ChangeShapes.trodAll_cons hA
  obtain ⟨rfl, rfl, rfl⟩ := ChangeShapes.trodAll_nil r0
  obtain rfl : args = #[v0] := Array.ext' hargs
  have hV' : DataW.TrodVars enc Try.prog W (fun _ => true) [] gs q := hV
  obtain ⟨rfl, _⟩ := ChangeShapes.trodVars_none hV'
  obtain ⟨cs, rfl⟩ := agg_cells Try.underlying23 (hval 0 23 v0 rfl rfl)
  obtain ⟨fuel, hf⟩ := h0
  obtain ⟨k, a, hcs⟩ := reads_deed fuel _ _ hf
  have hcs' : cs = #[.int .i64 k, .int .i64 a] := by
    apply Array.ext'
    exact hcs
  subst hcs'
  refine ((law_ValidDeed (k := k) (a := a)).2 W (old W) _ (fun b hb => hb) ⟨rfl, fun i v x hv hx => ?_⟩).mono ?_
  · match i with
    | 0 =>
      simp at hv hx
      subst hv hx
      refine .agg _ _ rfl (by simp [D.one]) fun i v x hv hx => ?_
      match i with
      | 0 => simp at hv hx; subst hv hx; exact .int _ _
      | 1 => simp at hv hx; subst hv hx; exact .int _ _
      | i + 2 => simp at hv
    | i + 1 => simp at hv
  · rintro e W' ⟨v, rfl, hv, hb⟩
    have := RepD.bool_inv hv
    subst this
    exact ⟨_, rfl, law_post laidOutIs (by kernel_rfl) rfl hW hb rfl Try.underlying4 ⟨rfl, rfl, rfl⟩⟩

set_option maxRecDepth 100000 in
theorem lifted (os : Os) (started : os.Started) (H : Type) (enc : TypeId × Value → H) :
    ReturnsInHanded {} Try.checked os 3 .any (Rows.fnExactValidDeedSpec.pre6 enc Try.prog Try.f3 Rows.fnExactValidDeedRow.domain false) (Rows.fnExactValidDeedSpec.post enc Try.prog Try.f3 false true false false) := by
  refine returnsInHanded_of_change (C := Try.checked) ownKnobIs started (by kernel_rfl) Try.func3
    (ChangeSpec.witness6 (enc := enc) (C := Try.checked) false ⟨#[], #[.agg #[.int .i64 0, .int .i64 0]], []⟩ 8 (by kernel_rfl) (by kernel_rfl) (by kernel_rfl) (by kernel_rfl)) ?_
  intro W base args ds gs before hval hW _ _
  exact contract H enc W base args ds gs before hval hW

theorem proved : Rows.FnExactValidDeedSaid :=
  OpenClaim.holds_of_wide 3 Try.f3 rfl rfl rfl rfl rfl rfl rfl ⟨rfl, rfl, rfl, rfl, rfl⟩ rfl rfl rfl rfl rfl (by kernel_rfl) Try.func3 (by kernel_rfl)
    (of_decide_eq_true (by kernel_rfl)) (by unfold Func.isWrapper; first | (rw [if_pos (by decide +kernel)]; kernel_rfl) | (rw [if_neg (by decide +kernel)]; exact ⟨rfl, rfl⟩))
    (fun os started H enc _ => lifted os started H enc)
end LValidDeed
end Go.Proofs.Ytiefnlfgiejpkaa
