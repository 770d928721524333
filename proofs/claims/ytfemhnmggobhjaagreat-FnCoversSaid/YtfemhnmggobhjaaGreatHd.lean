/- The law of Best. No condition. -/
import Derived.Test.YtfemhnmggobhjaaGreatHa
import Derived.Test.YtfemhnmggobhjaaGreatPe
namespace Go.Proofs.YtfemhnmggobhjaaGreat
open Go
attribute [local irreducible] awp awpL awpQL awpQ awpM pWalk Qt AC thenQ blockQ loopQ OpTo
set_option linter.unusedVariables false
set_option linter.unusedSimpArgs false
set_option maxHeartbeats 2000000
attribute [local irreducible] HC
section
variable {s o : Int} {nx ou : List (List Int)}
end
theorem spec_P6WordH {code : List Int} {L most : Int} (hb : BytesOk code) (hL : 1 ≤ L ∧ L ≤ 100) (hm : 0 ≤ most ∧ most ≤ 100) :
    HC Tryz.prog 27 [.d (u8s code), .d (.int .i64 L), .d (.int .i64 most)] [] (.own 30000) [(30000, .arr 2 1 ((psW code L (pickS code (most + 1) ⟨0, 0⟩) (pickV code (most + 1) ⟨0, 0⟩).toNat).1.map (.int .i64)))] := by
  have c0 := spec_From (code := code)
  have hP : ∀ (s : Src) (k : Nat) (n : Int), SOk s k → k ≤ 999999990 → n ≤ 1000 → HC Tryz.prog 66 [.ref 10000 0, .d (.int .i64 n)] [(10000, srcB code s)] (.d (.int .i64 (pickV code n s))) [(10000, srcB code (pickS code n s))] := fun s k n a b c => spec_pick hb a b (by omega)
  have k0 : SOk (⟨0, 0⟩ : Src) 0 := ⟨Nat.le_refl _, by simp⟩
  have c1 := hP _ _ (most + 1) k0 (by omega) (by omega)
  have hr := pick_range (s := ⟨0, 0⟩) (n := most + 1) hb (by omega)
  have hk1 := pick_ok (code := code) (n := most + 1) k0
  generalize pickV code (most + 1) ⟨0, 0⟩ = W at *
  generalize pickS code (most + 1) ⟨0, 0⟩ = s2 at *
  unfold srcB at c0 c1 hP
  unfold u8s at *
  refine hc_intro tabIs _ Tryz.func27 rfl rfl Tryz.ntmps27 rfl rfl rfl ?_ fun w0 ok0 XM XA anc => ?_
  . exact likeIn_nil
  repeat (first | refine zc ?_ | refine zv ?_)
  refine hcl [] [(30000, 500)] c0 ?_
  repeat (first | refine v_w (t := 12) ?_ | refine zc ?_ | refine u_w (t := 12) ?_ | refine zv ?_)
  refine hcl [(500, 10000)] [(10000, 500)] c1 ?_
  repeat (first | refine zc ?_ | refine zv ?_)
  refine awp_perm _ rfl ?_
  refine awp_loop (fun i : Nat => (i : Int) ≤ W) (fun i => [(1, .d (.int .i64 L)), (7, .ref 500 0), (8, .own 12), (9, .d (.int .i64 (W - i)))])
    (fun i => [(12, .arr 2 1 ((psW code L s2 i).1.map (.int .i64))), (500, srcB code (psW code L s2 i).2)]) (fun i => W.toNat - i) 0 (by omega) ?_ (by as_aux_lemma => kernel_rfl) ?_
  . refine ⟨rfl, rfl, rfl, ?_, trivial⟩
    show SV.d (.int .i64 W) = SV.d (.int .i64 (W - ((0 : Nat) : Int)))
    simp
  . intro i hi
    have hkw := psW_ok (code := code) (L := L) hk1 i
    have hlw2 := psW_len (code := code) (L := L) (s := s2) i
    have hlw : ((psW code L s2 i).1.map (D.int .i64)).length = i := by rw [List.length_map, psW_len]
    by_cases hil : (i : Int) < W
    . have q2 := hP _ _ L hkw (by omega) (by omega)
      have hsw : psW code L s2 (i + 1) = ((psW code L s2 i).1 ++ [pickV code L (psW code L s2 i).2], pickS code L (psW code L s2 i).2) := rfl
      generalize psW code L s2 i = t at *
      have hni : W - i - 1 = W - ((i + 1 : Nat) : Int) := by omega
      repeat (first | refine zc ?_ | refine zv ?_)
      refine hcl [(500, 10000)] [(10000, 500)] q2 ?_
      repeat (first | refine zcr ?_ | refine zv ?_)
      refine awp_perm _ rfl ?_
      repeat (first | refine zc ?_ | refine zv ?_)
      refine loop_n (i + 1) (by omega) ?_ ?_ (by omega)
      . rw [← hni]; exact zs
      . rw [hsw]; simp only [List.map_append]; (as_aux_lemma => kernel_rfl)
    . have hiW : i = W.toNat := by omega
      subst hiW
      repeat (first | refine zc ?_ | refine zv ?_)
      (refine zb ?_; refine u_rH [(12, 30000)] ?_ ?_)
      . rfl
      . rfl
section
variable {s o : Int} {nx ou ws : List (List Int)}
end
end Go.Proofs.YtfemhnmggobhjaaGreat
