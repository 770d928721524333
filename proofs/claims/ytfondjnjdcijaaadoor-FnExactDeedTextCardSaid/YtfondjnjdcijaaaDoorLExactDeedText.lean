/- The given statement FnExactDeedText: the law returns true for every input. No condition. -/
import Derived.Test.YtfondjnjdcijaaaDoorRows
import Derived.Test.YtfondjnjdcijaaaDoorCards
import Derived.Test.YtfondjnjdcijaaaDoorTie
import Derived.Test.YtfondjnjdcijaaaDoorFwJ
import Derived.Lay
import Derived.LaidOnce
import Derived.SevenTiedAt
import Derived.Stop.LaidErr
import Derived.Lib.LaidTab
import Derived.Test.YtfondjnjdcijaaaDoorDw
namespace Go.Proofs.YtfondjnjdcijaaaDoor
open Go
set_option linter.unusedVariables false
set_option linter.unusedSimpArgs false
namespace LExactDeedText
theorem ownKnobIs : ownKnob Tryd.prog.godebug = none := by kernel_rfl
theorem laidOutIs : laidOutB Tryd.prog = true := by kernel_rfl
section
variable {H : Type} {enc : TypeId × Value → H} {W : World} {base : Nat} {v : Value} {d : DataW H} {p : List MemPlace}
def Q_deed (xs : List D) : Prop := ∃ (k : Int) (a : Int), (I64 k ∧ I64 a) ∧ xs = [.int .i64 k, .int .i64 a]
set_option maxRecDepth 100000 in
theorem reads_deed : Reads enc Tryd.prog W 41 fun cs => ∃ xs, Q_deed xs ∧ CellsRep W cs xs := by
  intro fuel cs x h
  obtain ⟨hl, hf⟩ := reads_struct (P := Tryd.prog) (w := W) (enc := enc) Tryd.underlying41 (n := 2) (by kernel_rfl) [fun cs => ∃ k, I64 k ∧ CellsRep W cs [.int .i64 k], fun cs => ∃ a, I64 a ∧ CellsRep W cs [.int .i64 a]] (by
    intro i f Q h1 h2
    match i with
    | 0 => simp at h1 h2; subst h1 h2; exact cells_i64 Tryd.underlying2
    | 1 => simp at h1 h2; subst h1 h2; exact cells_i64 Tryd.underlying2
    | i + 2 => simp at h1) fuel cs x h
  have c0 : Tryd.prog.cellsOf 2 = 1 := by kernel_rfl
  obtain ⟨k, g0, r0⟩ := hf 0 _ _ rfl rfl
  obtain ⟨a, g1, r1⟩ := hf 1 _ _ rfl rfl
  obtain ⟨x0, x1, rfl⟩ := len2 hl
  simp [c0] at r0 r1
  refine ⟨_, ⟨k, a, ⟨g0, g1⟩, rfl⟩, ?_⟩
  exact (r0).append (r1)
end
set_option maxRecDepth 100000 in
theorem contract (H : Type) (enc : TypeId × Value → H) (W : World) (base : Nat) (args : Array Value) (ds gs : List (DataW H)) (before : List MemPlace)
    (hval : ∀ (j : Nat) t v, Tryd.f5.params[j]? = some t → args[j]? = some v → Value.okWide Tryd.prog W .any base t v)
    (ht : Tb W) (hW : DataW.Whole enc Tryd.prog Tryd.f5.params.toList Rows.fnExactDeedTextSpec.vars false W args.toList ds gs before) :
    Calls Tryd.prog 5 args W fun e W' => ∃ v, e = .returned v ∧ Rows.fnExactDeedTextSpec.post enc Tryd.prog Tryd.f5 false true false false W args v W' := by
  obtain ⟨p, q, hA, hV, _, _, _⟩ := id hW
  rw [Tryd.params5] at hA hval
  obtain ⟨v0, vs0, d0, ds0, p0, q0, hargs0, rfl, _, h0, r0⟩ := ChangeShapes.trodAll_cons hA
  obtain ⟨rfl, rfl, _⟩ := ChangeShapes.trodAll_nil r0
  obtain rfl : args = #[v0] := Array.ext' hargs0
  have hV' : DataW.TrodVars enc Tryd.prog W (fun _ => true) [] gs q := hV
  obtain ⟨rfl, _⟩ := ChangeShapes.trodVars_none hV'
  obtain ⟨_, ⟨a0_0, a0_1, ⟨g0_0, g0_1⟩, rfl⟩, e0⟩ := open_agg Tryd.underlying41 reads_deed (hval 0 41 v0 rfl rfl) h0
  obtain rfl := rep_deed_inv e0
  refine (law_ExactDeedText W g0_0 g0_1 ht).mono ?_
  rintro e W' ⟨rfl, hb⟩
  exact ⟨_, rfl, law_post laidOutIs (by kernel_rfl) rfl hW hb rfl Tryd.underlying4 ⟨rfl, rfl, rfl⟩⟩
theorem tb_laid {W : World} (h : laidMetH Tryd.prog Rows.fnExactDeedTextRow.laid W) : Tb W := by
  rw [MakeChecks.laidMetH_plain _ _ _ (by kernel_rfl)] at h
  exact Go.Lib.tabIs_of_head (show Tryd.prog.globalNamed "internal/strconv.uint64pow10" = some 1 by kernel_rfl) (by kernel_rfl) Tryd.underlying115 Tryd.underlying82 (by kernel_rfl) (by kernel_rfl) (laidMet.tail (laidMet.tail h))
set_option maxRecDepth 100000 in
theorem lifted (os : Os) (started : os.Started) (H : Type) (enc : TypeId × Value → H) :
    ReturnsInHanded {} Tryd.checked os 5 .any (fun w args => (Rows.fnExactDeedTextSpec.pre enc Tryd.prog Tryd.f5 [] false w args ∧ laidMetH Tryd.prog Rows.fnExactDeedTextRow.laid w) ∧ sizedMet enc Tryd.prog Tryd.f5 (OpenSpec.ofChange Rows.fnExactDeedTextSpec) false w args)
      (Rows.fnExactDeedTextSpec.post enc Tryd.prog Tryd.f5 false true false false) := by
  refine returnsInHanded_of_change_and (C := Tryd.checked) (X := fun w _ => laidMetH Tryd.prog Rows.fnExactDeedTextRow.laid w) (fun _ _ _ hh h => h.of_heap hh) ownKnobIs started (by kernel_rfl) Tryd.func5
    (ChangeSpec.witness_shaped (enc := enc) (C := Tryd.checked) (os := os) (X := fun w _ => laidMetH Tryd.prog Rows.fnExactDeedTextRow.laid w) false (World.laidAll Tryd.prog os Rows.fnExactDeedTextRow.laid) #[.agg #[.int .i64 0, .int .i64 0]] 8 (World.laidAll_os _ _ _)
      (World.shaped_of_ZipB (by kernel_rfl) (by kernel_rfl)) (by kernel_rfl) (by kernel_rfl) (by kernel_rfl)
      (by rw [MakeChecks.laidMetH_plain _ _ _ (by kernel_rfl)]; exact laidMet_laidAll _ (by kernel_rfl) (by kernel_rfl))) ?_
  intro W base args ds gs before hval hW _ _ hL _
  exact contract H enc W base args ds gs before hval (tb_laid hL) hW

theorem holds : Rows.FnExactDeedTextSaid :=
  OpenClaim.holds_of_wide 5 Tryd.f5 rfl rfl rfl rfl rfl rfl rfl ⟨rfl, rfl, rfl, rfl, rfl⟩ rfl rfl rfl rfl rfl (by kernel_rfl) Tryd.func5 (by kernel_rfl)
    (of_decide_eq_true (by kernel_rfl)) (by unfold Func.isWrapper; first | (rw [if_pos (by decide +kernel)]; kernel_rfl) | (rw [if_neg (by decide +kernel)]; exact ⟨rfl, rfl⟩))
    (fun os started H enc _ => lifted os started H enc)
theorem proved : Rows.FnExactDeedTextCardSaid :=
  Claim7.holds_tied_plain_at .later [] [.data, .data, .data] true (true, "77048a1568bb7505df3cbaebb43f9c9b325a88e533b405ee1872fd099e28ae26") false holds (fun _ h => by cases h) (by kernel_rfl) (fun _ h => by cases h) fnExactDeedText_row_tie rfl ⟨rfl, rfl⟩ (by kernel_rfl) rfl
    (fun f fn hf hfn => by
      obtain rfl : f = 5 := Option.some.inj ((show Tryd.prog.funcNamed "loop.example/g01102/laws.FnExactDeedText" = some 5 by kernel_rfl).symm.trans hf) |>.symm
      obtain rfl : fn = Tryd.f5 := (Option.some.inj (Tryd.func5.symm.trans hfn)).symm
      exact ⟨by kernel_rfl, fun j t ht => by
        rw [Tryd.params5] at ht
        have hm : t ∈ [41] := by simpa using Array.mem_of_getElem? ht
        have hall : ([41].all fun u => !Tryd.prog.wantsStandIn u) = true := by kernel_rfl
        exact (show Tryd.prog.wantsStandIn t = false by simpa using List.all_eq_true.1 hall t hm)⟩)
    (by kernel_rfl)
end LExactDeedText
end Go.Proofs.YtfondjnjdcijaaaDoor
