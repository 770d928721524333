/- The given statement FnExactRunScript: the law returns true for every input. No condition. -/
import Derived.Test.YtffmlijngfhhaaaGreatDoorRows
import Derived.Test.YtffmlijngfhhaaaGreatDoorCards
import Derived.Test.YtffmlijngfhhaaaGreatDoorTie
import Derived.Test.YtffmlijngfhhaaaGreatDoorFwJ
import Derived.Lay
import Derived.LaidOnce
import Derived.SevenTiedAt
import Derived.ChangeMaps5
import Derived.Test.YtffmlijngfhhaaaGreatDoorSh
import Derived.Test.YtffmlijngfhhaaaGreatDoorLz
namespace Go.Proofs.YtffmlijngfhhaaaGreatDoor
open Go Go.WideMaps Go.ChangeShapes Go.WideShapes Go.RowKit
set_option linter.unusedVariables false
set_option linter.unusedSimpArgs false
namespace LExactRunScript
theorem ownKnobIs : ownKnob Tryz.prog.godebug = none := by kernel_rfl
theorem laidOutIs : laidOutB Tryz.prog = true := by kernel_rfl
section
variable {H : Type} {enc : TypeId × Value → H} {W : World} {base : Nat} {v : Value} {d : DataW H} {p : List MemPlace}
def Q_auto (xs : List D) : Prop := ∃ (s : Int) (nx : List (List Int)), (I64 s ∧ RowsOk nx) ∧ xs = [.int .i64 s, rows nx]
set_option maxRecDepth 100000 in
theorem reads_auto : Reads enc Tryz.prog W 67 fun cs => ∃ xs, Q_auto xs ∧ CellsRep W cs xs := by
  intro fuel cs x h
  obtain ⟨hl, hf⟩ := reads_struct (P := Tryz.prog) (w := W) (enc := enc) Tryz.underlying67 (n := 2) (by kernel_rfl) [fun cs => ∃ s, I64 s ∧ CellsRep W cs [.int .i64 s], fun cs => ∃ nx, RowsOk nx ∧ CellsRep W cs [rows nx]] (by
    intro i f Q h1 h2
    match i with
    | 0 => simp at h1 h2; subst h1 h2; exact cells_i64 Tryz.underlying2
    | 1 => simp at h1 h2; subst h1 h2; exact cells_rows Tryz.underlying24 Tryz.underlying27 Tryz.underlying2 (by kernel_rfl) (by kernel_rfl)
    | i + 2 => simp at h1) fuel cs x h
  have c0 : Tryz.prog.cellsOf 24 = 1 := by kernel_rfl
  have c1 : Tryz.prog.cellsOf 2 = 1 := by kernel_rfl
  obtain ⟨s, g0, r0⟩ := hf 0 _ _ rfl rfl
  obtain ⟨nx, g1, r1⟩ := hf 1 _ _ rfl rfl
  obtain ⟨x0, x1, rfl⟩ := len2 hl
  simp [c0, c1] at r0 r1
  refine ⟨_, ⟨s, nx, ⟨g0, g1⟩, rfl⟩, ?_⟩
  exact (r0).append (r1)
def Q_lit (xs : List D) : Prop := ∃ (s : Int) (nx : List (List Int)) (lp : List Int), (I64 s ∧ RowsOk nx ∧ IntsOk lp) ∧ xs = [.int .i64 s, rows nx, ints lp]
set_option maxRecDepth 100000 in
theorem reads_lit : Reads enc Tryz.prog W 69 fun cs => ∃ xs, Q_lit xs ∧ CellsRep W cs xs := by
  intro fuel cs x h
  obtain ⟨hl, hf⟩ := reads_struct (P := Tryz.prog) (w := W) (enc := enc) Tryz.underlying69 (n := 3) (by kernel_rfl) [fun cs => ∃ xs, Q_auto xs ∧ CellsRep W cs xs, fun cs => ∃ lp, IntsOk lp ∧ CellsRep W cs [ints lp]] (by
    intro i f Q h1 h2
    match i with
    | 0 => simp at h1 h2; subst h1 h2; exact reads_auto
    | 1 => simp at h1 h2; subst h1 h2; exact cells_ints Tryz.underlying27 Tryz.underlying2 (by kernel_rfl)
    | i + 2 => simp at h1) fuel cs x h
  have c0 : Tryz.prog.cellsOf 67 = 2 := by kernel_rfl
  have c1 : Tryz.prog.cellsOf 27 = 1 := by kernel_rfl
  obtain ⟨_, ⟨s, nx, ⟨g1, g2⟩, rfl⟩, r0⟩ := hf 0 _ _ rfl rfl
  obtain ⟨lp, g3, r1⟩ := hf 1 _ _ rfl rfl
  obtain ⟨x0, x1, x2, rfl⟩ := len3 hl
  simp [c0, c1] at r0 r1
  exact ⟨_, ⟨s, nx, lp, ⟨g1, g2, g3⟩, rfl⟩, (r0).append r1⟩
end
set_option maxRecDepth 100000 in
theorem contract (H : Type) (enc : TypeId × Value → H) (W : World) (base : Nat) (args : Array Value) (ds gs : List (DataW H)) (before : List MemPlace)
    (hval : ∀ (j : Nat) t v, Tryz.f5.params[j]? = some t → args[j]? = some v → Value.okWide Tryz.prog W .any base t v)
    (he : EnvAt Tryz.prog W) (hW : DataW.Whole enc Tryz.prog Tryz.f5.params.toList Rows.fnExactRunScriptSpec.vars false W args.toList ds gs before) :
    Calls Tryz.prog 5 args W fun e W' => ∃ v, e = .returned v ∧ Rows.fnExactRunScriptSpec.post enc Tryz.prog Tryz.f5 false true false false W args v W' := by
  obtain ⟨p, q, hA, hV, _, _, _⟩ := id hW
  rw [Tryz.params5] at hA hval
  obtain ⟨v0, vs0, d0, ds0, p0, q0, hargs0, rfl, _, h0, r0⟩ := ChangeShapes.trodAll_cons hA
  obtain ⟨v1, vs1, d1, ds1, p1, q1, hargs1, rfl, _, h1, r1⟩ := ChangeShapes.trodAll_cons r0
  obtain ⟨v2, vs2, d2, ds2, p2, q2, hargs2, rfl, _, h2, r2⟩ := ChangeShapes.trodAll_cons r1
  obtain ⟨rfl, rfl, _⟩ := ChangeShapes.trodAll_nil r2
  subst hargs2
  subst hargs1
  obtain rfl : args = #[v0, v1, v2] := Array.ext' hargs0
  have hV' : DataW.TrodVars enc Tryz.prog W (fun _ => true) [] gs q := hV
  obtain ⟨rfl, _⟩ := ChangeShapes.trodVars_none hV'
  obtain ⟨_, ⟨a0_0, a0_1, a0_2, ⟨g0_0, g0_1, g0_2⟩, rfl⟩, e0⟩ := open_agg Tryz.underlying69 reads_lit (hval 0 69 v0 rfl rfl) h0
  obtain ⟨n1, f1, e1⟩ := open_i64 Tryz.underlying2 (hval 1 2 v1 rfl rfl) h1
  obtain ⟨s2, rfl, rfl, rfl, hs2⟩ := Go.ChangeMaps.open_string Tryz.underlying9 (hval 2 9 v2 rfl rfl) h2
  refine ((law_ExactRunScript (l := s2.data.toList) g0_0 g0_1 g0_2 f1).2 W (old W) _ he (fun b hb => hb) ⟨rfl, fun i v x hv hx => ?_⟩).mono ?_
  · match i with
    | 0 => simp at hv hx; subst hv hx; exact e0
    | 1 => simp at hv hx; subst hv hx; exact e1
    | 2 => simp at hv hx; subst hv hx; exact .str _ _ (by cases s2; simp)
    | i + 3 => simp at hv
  · rintro e W' ⟨v, rfl, hv, hb⟩
    have := RepD.bool_inv hv
    subst this
    exact ⟨_, rfl, law_post laidOutIs (by kernel_rfl) rfl hW hb rfl Tryz.underlying4 ⟨rfl, rfl, rfl⟩⟩
theorem env_laid {W : World} (h : laidMetH Tryz.prog Rows.fnExactRunScriptRow.laid W) : EnvAt Tryz.prog W := by
  rw [MakeChecks.laidMetH_plain _ _ _ (by kernel_rfl)] at h
  exact ⟨laidPow (laidMet.tail (laidMet.tail h)), laidSyn (laidMet.tail (laidMet.tail (laidMet.tail (laidMet.tail (laidMet.tail h))))), laidRng (laidMet.tail (laidMet.tail (laidMet.tail (laidMet.tail h))))⟩
set_option maxRecDepth 100000 in
theorem lifted (os : Os) (started : os.Started) (H : Type) (enc : TypeId × Value → H) :
    ReturnsInHanded {} Tryz.checked os 5 .any (fun w args => (Rows.fnExactRunScriptSpec.pre enc Tryz.prog Tryz.f5 [] false w args ∧ laidMetH Tryz.prog Rows.fnExactRunScriptRow.laid w) ∧ sizedMet enc Tryz.prog Tryz.f5 (OpenSpec.ofChange Rows.fnExactRunScriptSpec) false w args)
      (Rows.fnExactRunScriptSpec.post enc Tryz.prog Tryz.f5 false true false false) := by
  refine returnsInHanded_of_change_and (C := Tryz.checked) (X := fun w _ => laidMetH Tryz.prog Rows.fnExactRunScriptRow.laid w) (fun _ _ _ hh h => h.of_heap hh) ownKnobIs started (by kernel_rfl) Tryz.func5
    (ChangeSpec.witness_shaped (enc := enc) (C := Tryz.checked) (os := os) (X := fun w _ => laidMetH Tryz.prog Rows.fnExactRunScriptRow.laid w) false (World.laidAll Tryz.prog os Rows.fnExactRunScriptRow.laid) #[.agg #[.int .i64 0, .slice none 0 0, .slice none 0 0], .int .i64 0, .string ⟨#[]⟩] 8 (World.laidAll_os _ _ _)
      (World.shaped_of_ZipB (by kernel_rfl) (by kernel_rfl)) (by kernel_rfl) (by kernel_rfl) (by kernel_rfl)
      (by rw [MakeChecks.laidMetH_plain _ _ _ (by kernel_rfl)]; exact laidMet_laidAll _ (by kernel_rfl) (by kernel_rfl))) ?_
  intro W base args ds gs before hval hW _ _ hL _
  exact contract H enc W base args ds gs before hval (env_laid hL) hW

theorem holds : Rows.FnExactRunScriptSaid :=
  OpenClaim.holds_of_wide 5 Tryz.f5 rfl rfl rfl rfl rfl rfl rfl ⟨rfl, rfl, rfl, rfl, rfl⟩ rfl rfl rfl rfl rfl (by kernel_rfl) Tryz.func5 (by kernel_rfl)
    (of_decide_eq_true (by kernel_rfl)) (by unfold Func.isWrapper; first | (rw [if_pos (by decide +kernel)]; kernel_rfl) | (rw [if_neg (by decide +kernel)]; exact ⟨rfl, rfl⟩))
    (fun os started H enc _ => lifted os started H enc)
theorem proved : Rows.FnExactRunScriptCardSaid :=
  Claim7.holds_tied_plain_at .later [] [.data, .data, .data, .data, .sentinel, .sentinel, .pinned] true (true, "0e76518feab3031fd30cbfe9643533af8852a3e676717f88aa749e349a5ae1ea") true holds (fun _ h => by cases h) (by kernel_rfl) (fun _ h => by cases h) fnExactRunScript_row_tie rfl ⟨rfl, rfl⟩ (by kernel_rfl) rfl
    (fun f fn hf hfn => by
      obtain rfl : f = 5 := Option.some.inj ((show Tryz.prog.funcNamed "loop.example/g01102/laws.FnExactRunScript" = some 5 by kernel_rfl).symm.trans hf) |>.symm
      obtain rfl : fn = Tryz.f5 := (Option.some.inj (Tryz.func5.symm.trans hfn)).symm
      exact ⟨by kernel_rfl, fun j t ht => by
        rw [Tryz.params5] at ht
        have hm : t ∈ [69, 2, 9] := by simpa using Array.mem_of_getElem? ht
        have hall : ([69, 2, 9].all fun u => !Tryz.prog.wantsStandIn u) = true := by kernel_rfl
        exact (show Tryz.prog.wantsStandIn t = false by simpa using List.all_eq_true.1 hall t hm)⟩)
    (by kernel_rfl)
end LExactRunScript
end Go.Proofs.YtffmlijngfhhaaaGreatDoor
