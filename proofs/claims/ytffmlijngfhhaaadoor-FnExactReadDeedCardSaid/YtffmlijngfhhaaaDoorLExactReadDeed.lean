/- The given statement FnExactReadDeed: the law returns true for every input. No condition. -/
import Derived.Test.YtffmlijngfhhaaaDoorRows
import Derived.Test.YtffmlijngfhhaaaDoorCards
import Derived.Test.YtffmlijngfhhaaaDoorTie
import Derived.Test.YtffmlijngfhhaaaDoorFwJ
import Derived.Lay
import Derived.LaidOnce
import Derived.SevenTiedAt
import Derived.ChangeMaps5
import Derived.Test.YtffmlijngfhhaaaDoorRn
import Derived.Test.YtffmlijngfhhaaaDoorLz
namespace Go.Proofs.YtffmlijngfhhaaaDoor
open Go Go.WideMaps Go.ChangeShapes Go.WideShapes Go.RowKit
set_option linter.unusedVariables false
set_option linter.unusedSimpArgs false
namespace LExactReadDeed
theorem ownKnobIs : ownKnob Tryd.prog.godebug = none := by kernel_rfl
theorem laidOutIs : laidOutB Tryd.prog = true := by kernel_rfl
set_option maxRecDepth 100000 in
theorem contract (H : Type) (enc : TypeId × Value → H) (W : World) (base : Nat) (args : Array Value) (ds gs : List (DataW H)) (before : List MemPlace)
    (hval : ∀ (j : Nat) t v, Tryd.f3.params[j]? = some t → args[j]? = some v → Value.okWide Tryd.prog W .any base t v)
    (he : EnvAt Tryd.prog W) (hW : DataW.Whole enc Tryd.prog Tryd.f3.params.toList Rows.fnExactReadDeedSpec.vars false W args.toList ds gs before) :
    Calls Tryd.prog 3 args W fun e W' => ∃ v, e = .returned v ∧ Rows.fnExactReadDeedSpec.post enc Tryd.prog Tryd.f3 false true false false W args v W' := by
  obtain ⟨p, q, hA, hV, _, _, _⟩ := id hW
  rw [Tryd.params3] at hA hval
  obtain ⟨v0, vs0, d0, ds0, p0, q0, hargs0, rfl, _, h0, r0⟩ := ChangeShapes.trodAll_cons hA
  obtain ⟨rfl, rfl, _⟩ := ChangeShapes.trodAll_nil r0
  obtain rfl : args = #[v0] := Array.ext' hargs0
  have hV' : DataW.TrodVars enc Tryd.prog W (fun _ => true) [] gs q := hV
  obtain ⟨rfl, _⟩ := ChangeShapes.trodVars_none hV'
  obtain ⟨s0, rfl, rfl, rfl, hs0⟩ := Go.ChangeMaps.open_string Tryd.underlying9 (hval 0 9 v0 rfl rfl) h0
  refine ((law_ExactReadDeed (l := s0.data.toList)).2 W (old W) _ he (fun b hb => hb) ⟨rfl, fun i v x hv hx => ?_⟩).mono ?_
  · match i with
    | 0 => simp at hv hx; subst hv hx; exact .str _ _ (by cases s0; simp)
    | i + 1 => simp at hv
  · rintro e W' ⟨v, rfl, hv, hb⟩
    have := RepD.bool_inv hv
    subst this
    exact ⟨_, rfl, law_post laidOutIs (by kernel_rfl) rfl hW hb rfl Tryd.underlying4 ⟨rfl, rfl, rfl⟩⟩
theorem env_laid {W : World} (h : laidMetH Tryd.prog Rows.fnExactReadDeedRow.laid W) : EnvAt Tryd.prog W := by
  rw [MakeChecks.laidMetH_plain _ _ _ (by kernel_rfl)] at h
  exact ⟨laidPow (laidMet.tail (laidMet.tail h)), laidSyn (laidMet.tail (laidMet.tail (laidMet.tail (laidMet.tail h)))), laidRng (laidMet.tail (laidMet.tail (laidMet.tail h)))⟩
set_option maxRecDepth 100000 in
theorem lifted (os : Os) (started : os.Started) (H : Type) (enc : TypeId × Value → H) :
    ReturnsInHanded {} Tryd.checked os 3 .any (fun w args => (Rows.fnExactReadDeedSpec.pre enc Tryd.prog Tryd.f3 [] false w args ∧ laidMetH Tryd.prog Rows.fnExactReadDeedRow.laid w) ∧ sizedMet enc Tryd.prog Tryd.f3 (OpenSpec.ofChange Rows.fnExactReadDeedSpec) false w args)
      (Rows.fnExactReadDeedSpec.post enc Tryd.prog Tryd.f3 false true false false) := by
  refine returnsInHanded_of_change_and (C := Tryd.checked) (X := fun w _ => laidMetH Tryd.prog Rows.fnExactReadDeedRow.laid w) (fun _ _ _ hh h => h.of_heap hh) ownKnobIs started (by kernel_rfl) Tryd.func3
    (ChangeSpec.witness_shaped (enc := enc) (C := Tryd.checked) (os := os) (X := fun w _ => laidMetH Tryd.prog Rows.fnExactReadDeedRow.laid w) false (World.laidAll Tryd.prog os Rows.fnExactReadDeedRow.laid) #[.string ⟨#[]⟩] 8 (World.laidAll_os _ _ _)
      (World.shaped_of_ZipB (by kernel_rfl) (by kernel_rfl)) (by kernel_rfl) (by kernel_rfl) (by kernel_rfl)
      (by rw [MakeChecks.laidMetH_plain _ _ _ (by kernel_rfl)]; exact laidMet_laidAll _ (by kernel_rfl) (by kernel_rfl))) ?_
  intro W base args ds gs before hval hW _ _ hL _
  exact contract H enc W base args ds gs before hval (env_laid hL) hW

theorem holds : Rows.FnExactReadDeedSaid :=
  OpenClaim.holds_of_wide 3 Tryd.f3 rfl rfl rfl rfl rfl rfl rfl ⟨rfl, rfl, rfl, rfl, rfl⟩ rfl rfl rfl rfl rfl (by kernel_rfl) Tryd.func3 (by kernel_rfl)
    (of_decide_eq_true (by kernel_rfl)) (by unfold Func.isWrapper; first | (rw [if_pos (by decide +kernel)]; kernel_rfl) | (rw [if_neg (by decide +kernel)]; exact ⟨rfl, rfl⟩))
    (fun os started H enc _ => lifted os started H enc)
theorem proved : Rows.FnExactReadDeedCardSaid :=
  Claim7.holds_tied_plain_at .later [] [.data, .data, .data, .sentinel, .sentinel] true (true, "0077427dad96d53929d6d4fabc276bec1739e8a56a2b85fdf894dca4ec6dc16e") true holds (fun _ h => by cases h) (by kernel_rfl) (fun _ h => by cases h) fnExactReadDeed_row_tie rfl ⟨rfl, rfl⟩ (by kernel_rfl) rfl
    (fun f fn hf hfn => by
      obtain rfl : f = 3 := Option.some.inj ((show Tryd.prog.funcNamed "loop.example/g01102/laws.FnExactReadDeed" = some 3 by kernel_rfl).symm.trans hf) |>.symm
      obtain rfl : fn = Tryd.f3 := (Option.some.inj (Tryd.func3.symm.trans hfn)).symm
      exact ⟨by kernel_rfl, fun j t ht => by
        rw [Tryd.params3] at ht
        have hm : t ∈ [9] := by simpa using Array.mem_of_getElem? ht
        have hall : ([9].all fun u => !Tryd.prog.wantsStandIn u) = true := by kernel_rfl
        exact (show Tryd.prog.wantsStandIn t = false by simpa using List.all_eq_true.1 hall t hm)⟩)
    (by kernel_rfl)
end LExactReadDeed
end Go.Proofs.YtffmlijngfhhaaaDoor
