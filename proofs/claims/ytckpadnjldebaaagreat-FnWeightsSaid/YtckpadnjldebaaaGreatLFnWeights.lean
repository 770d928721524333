/- The given statement FnWeights: the law returns true for every input. No condition. -/
import Derived.Test.YtckpadnjldebaaaGreatRows
import Derived.Test.YtckpadnjldebaaaGreatFwJ
import Derived.Test.YtckpadnjldebaaaGreatHw
namespace Go.Proofs.YtckpadnjldebaaaGreat
open Go
set_option linter.unusedVariables false
set_option linter.unusedSimpArgs false
namespace LFnWeights
theorem ownKnobIs : ownKnob Tryz.prog.godebug = none := by kernel_rfl
theorem laidOutIs : laidOutB Tryz.prog = true := by kernel_rfl
section
variable {H : Type} {enc : TypeId × Value -> H} {W : World} {base : Nat} {v : Value} {d : DataW H} {p : List MemPlace}
theorem bytesOk_of {ns : List Int} (h1 : ∀ n ∈ ns, IntKind.u8.min <= n /\ n <= IntKind.u8.max) (h2 : ns.length <= 9223372036854775807) : BytesOk ns := ⟨fun b hb => by simpa [IntKind.min, IntKind.max, IntKind.signed, IntKind.bits] using h1 b hb, h2⟩
theorem open_bytes {P : Program} {t e : Nat} (ht : P.underlying t = some (.slice e)) (he : P.underlying e = some (.int .u8)) (hc : P.cellsOf e = 1) (hok : Value.okWide P W .any base t v) (h : DataW.Trod enc P W 0 (fun _ => true) true t v d p) :
    ∃ ns, BytesOk ns /\ RepD (old W) W v (u8s ns) := by
  obtain ⟨fuel, hf⟩ := h
  obtain ⟨ns, h1, h2, u, h3, h4, h5⟩ := reads_ints ht he hc fuel _ _ hf
  rw [one_cell ht rfl hok h3]
  exact ⟨ns, bytesOk_of h1 h2, h5⟩
end
set_option maxRecDepth 100000 in
theorem contract (H : Type) (enc : TypeId × Value -> H) (W : World) (base : Nat) (args : Array Value) (ds gs : List (DataW H)) (before : List MemPlace)
    (hval : ∀ (j : Nat) t v, Tryz.f4.params[j]? = some t -> args[j]? = some v -> Value.okWide Tryz.prog W .any base t v)
    (hW : DataW.Whole enc Tryz.prog Tryz.f4.params.toList Rows.fnWeightsSpec.vars false W args.toList ds gs before) :
    Calls Tryz.prog 4 args W fun e W' => ∃ v, e = .returned v /\ Rows.fnWeightsSpec.post enc Tryz.prog Tryz.f4 false true false false W args v W' := by
  obtain ⟨p, q, hA, hV, _, _, _⟩ := id hW
  rw [Tryz.params4] at hA hval
  obtain ⟨v0, vs0, d0, ds0, p0, q0, hargs0, rfl, _, h0, r0⟩ := ChangeShapes.trodAll_cons hA
  obtain ⟨v1, vs1, d1, ds1, p1, q1, hargs1, rfl, _, h1, r1⟩ := ChangeShapes.trodAll_cons r0
  obtain ⟨rfl, rfl, _⟩ := ChangeShapes.trodAll_nil r1
  subst hargs1
  obtain rfl : args = #[v0, v1] := Array.ext' hargs0
  have hV' : DataW.TrodVars enc Tryz.prog W (fun _ => true) [] gs q := hV
  obtain ⟨rfl, _⟩ := ChangeShapes.trodVars_none hV'
  obtain ⟨n0, f0, e0⟩ := open_bytes Tryz.underlying22 Tryz.underlying5 (by kernel_rfl) (hval 0 22 v0 rfl rfl) h0
  obtain ⟨n1, f1, e1⟩ := open_bytes Tryz.underlying22 Tryz.underlying5 (by kernel_rfl) (hval 1 22 v1 rfl rfl) h1
  refine ((law_FnWeights f0 f1).2 W (old W) _ envAt_any (fun b hb => hb) ⟨rfl, fun i v x hv hx => ?_⟩).mono ?_
  . match i with
    | 0 => simp at hv hx; subst hv hx; exact e0
    | 1 => simp at hv hx; subst hv hx; exact e1
    | i + 2 => simp at hv
  . rintro e W' ⟨v, rfl, hv, hb⟩
    have := RepD.bool_inv hv
    subst this
    exact ⟨_, rfl, law_post laidOutIs (by kernel_rfl) rfl hW hb rfl Tryz.underlying4 ⟨rfl, rfl, rfl⟩⟩
set_option maxRecDepth 100000 in
theorem lifted (os : Os) (started : os.Started) (H : Type) (enc : TypeId × Value -> H) :
    ReturnsInHanded {} Tryz.checked os 4 .any (Rows.fnWeightsSpec.pre6 enc Tryz.prog Tryz.f4 Rows.fnWeightsRow.domain false) (Rows.fnWeightsSpec.post enc Tryz.prog Tryz.f4 false true false false) := by
  refine returnsInHanded_of_change (C := Tryz.checked) ownKnobIs started (by kernel_rfl) Tryz.func4
    (ChangeSpec.witness6 (enc := enc) (C := Tryz.checked) false ⟨#[], #[.slice none 0 0, .slice none 0 0], []⟩ 8 (by kernel_rfl) (by kernel_rfl) (by kernel_rfl) (by kernel_rfl)) ?_
  intro W base args ds gs before hval hW _ _
  exact contract H enc W base args ds gs before hval hW
theorem proved : Rows.FnWeightsSaid :=
  OpenClaim.holds_of_wide 4 Tryz.f4 rfl rfl rfl rfl rfl rfl rfl ⟨rfl, rfl, rfl, rfl, rfl⟩ rfl rfl rfl rfl rfl (by kernel_rfl) Tryz.func4 (by kernel_rfl)
    (of_decide_eq_true (by kernel_rfl)) (by unfold Func.isWrapper; first | (rw [if_pos (by decide +kernel)]; kernel_rfl) | (rw [if_neg (by decide +kernel)]; exact ⟨rfl, rfl⟩))
    (fun os started H enc _ => lifted os started H enc)
end LFnWeights
end Go.Proofs.YtckpadnjldebaaaGreat
