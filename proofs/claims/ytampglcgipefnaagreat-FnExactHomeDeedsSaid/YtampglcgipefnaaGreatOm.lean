/- ToldAfter, in the reference and in the program, and its law. No condition. -/
import Derived.Test.YtampglcgipefnaaGreatOj
import Derived.Test.YtampglcgipefnaaGreatFwZd
namespace Go.Proofs.YtampglcgipefnaaGreat
open Go
attribute [local irreducible] awp awpL awpQL awpQ awpM pWalk Qt AC thenQ blockQ loopQ OpTo
set_option linter.unusedVariables false
set_option linter.unusedSimpArgs false
set_option maxHeartbeats 2000000
attribute [local irreducible] HC

/-- The marks of deeds. -/
def mkDs : Int → Nat → List (Int × Int)
  | _, 0 => []
  | k, n + 1 => (k, k + 1) :: mkDs (k + 2) n
theorem mkDs_len : ∀ (n : Nat) (k : Int), (mkDs k n).length = n
  | 0, _ => rfl
  | n + 1, k => by simp [mkDs, mkDs_len n]
theorem mkDs_snoc : ∀ (n : Nat) (k : Int), mkDs k (n + 1) = mkDs k n ++ [(k + 2 * n, k + 2 * n + 1)]
  | 0, k => by simp [mkDs]
  | n + 1, k => by
    have := mkDs_snoc n (k + 2)
    rw [mkDs, this]
    simp only [mkDs, List.cons_append]
    congr 3
    · simp; omega
theorem laws_markDeedS {ds : List (Int × Int)} {k : Int} (hk : 0 ≤ k) (hl : k + 2 * ds.length ≤ 4611686018427387904) :
    HC Tryz.prog 21 [.own 10000, .d (.int .i64 k)] [(10000, .arr 74 2 (ds.map deedD))] (.d (.int .i64 (k + 2 * ds.length))) [(10000, .arr 74 2 ((mkDs k ds.length).map deedD))] := by
  have hle : (ds.map deedD).length = ds.length := by simp
  refine hc_intro tabIs _ Tryz.func21 rfl rfl Tryz.ntmps21 rfl rfl rfl ?_ fun w0 ok0 XM XA anc => ?_
  · exact likeIn_cons rfl ⟨rfl, rfl, by simp [mkDs_len]⟩ likeIn_nil
  repeat (first | refine zc ?_ | refine zv ?_)
  refine awp_loop (fun i : Nat => i ≤ ds.length) (fun i => [(0, .own 10000), (1, .d (.int .i64 (k + 2 * i))), (5, .d (.int .i64 i))]) (fun i => [(10000, .arr 74 2 ((mkDs k i ++ ds.drop i).map deedD))]) (fun i => ds.length - i) 0 (by omega) ?_ rfl ?_
  · refine ⟨rfl, ?_, rfl, trivial⟩
    simp [lk, argsS]
  · intro i hi
    have hml := mkDs_len i k
    have hlen : ((mkDs k i ++ ds.drop i).map deedD).length = ds.length := by simp [hml]; omega
    by_cases hlt : i < ds.length
    · have hz : ((mkDs k i ++ ds.drop i).map deedD)[(i : Int).toNat]? = some (.agg [.int .i64 ds[i].1, .int .i64 ds[i].2]) := by
        rw [Int.toNat_natCast, List.getElem?_map, List.getElem?_append_right (by omega), hml, Nat.sub_self, List.getElem?_drop, Nat.add_zero, List.getElem?_eq_getElem hlt]
        rfl
      have hfin : ∀ a b : Int, (((mkDs k i ++ ds.drop i).map deedD).set (i : Int).toNat (.agg [.int .i64 a, .int .i64 ds[i].2])).set (i : Int).toNat (.agg [.int .i64 a, .int .i64 b]) = (mkDs k i ++ (a, b) :: ds.drop (i + 1)).map deedD := fun a b => by
        rw [Int.toNat_natCast, List.set_set, List.map_append, List.set_append_right _ _ (by simp [hml]), List.length_map, hml, Nat.sub_self, List.drop_eq_getElem_cons hlt, List.map_append]
        rfl
      generalize hR : (mkDs k i ++ ds.drop i).map deedD = R at *
      have hz2 : ∀ a : D, (R.set (i : Int).toNat a)[(i : Int).toNat]? = some a := fun a => by
        rw [Int.toNat_natCast, List.getElem?_set_self (by omega)]
      have hsn := mkDs_snoc i k
      have hR2 : ∀ a : D, (R.set (i : Int).toNat a).length = ds.length := fun a => by rw [List.length_set, hlen]
      repeat (first | refine zc ?_ | ((first | apply x_l | apply x_q | apply x_lr | apply x_qr); (focus (first | (apply wv_indexRef; (iterate 9 (focus (first | exact rfl | (first | assumption | omega | (simp; omega) | (simp; done) | rfl))))))); exact rfl) | (apply v_x; (iterate 2 exact rfl); (focus (intro ok0 nw hle; (first | (apply wv_indexRef; (iterate 9 (focus (first | exact rfl | (first | assumption | omega | (simp; omega) | (simp; done) | rfl)))))))); (iterate 2 exact rfl)) | refine zv ?_)
      (apply lto; (focus (apply wv_storeFld (i : Int).toNat 0; (iterate 7 exact rfl); exact hz; (all_goals (first | exact rfl | (simp; done))))))
      repeat (first | refine zc ?_ | ((first | apply x_l | apply x_q | apply x_lr | apply x_qr); (focus (first | (apply wv_indexRef; (iterate 9 (focus (first | exact rfl | (first | assumption | omega | (simp; omega) | (simp; done) | rfl))))))); exact rfl) | (apply v_x; (iterate 2 exact rfl); (focus (intro ok0 nw hle; (first | (apply wv_indexRef; (iterate 9 (focus (first | exact rfl | (first | assumption | omega | (simp; omega) | (simp; done) | rfl)))))))); (iterate 2 exact rfl)) | refine zv ?_)
      (apply lto; (focus (apply wv_storeFld (i : Int).toNat 1; (iterate 7 exact rfl); exact hz2 _; (all_goals (first | exact rfl | (simp; done))))))
      repeat (first | refine zc ?_ | refine zv ?_)
      refine loop_n (i + 1) (by omega) ?_ ?_ (by omega)
      · exact zs
      · rw [hsn, List.append_assoc]
        show [(10000, Chunk.arr 74 2 ((mkDs k i ++ (k + 2 * i, k + 2 * i + 1) :: ds.drop (i + 1)).map deedD))] = _
        rw [← hfin]
        rfl
    · have : i = ds.length := by omega
      subst this
      repeat (first | refine zc ?_ | refine zv ?_)
      (refine awp_ret ?_; (repeat (first | refine then_r ?_ | refine block_r ?_ | refine loop_r ?_)); refine u_rH [(10000, 10000)] ?_ ?_)
      · rfl
      · rw [List.drop_length, List.append_nil]; rfl

/-! ### ToldAfter -/
end Go.Proofs.YtampglcgipefnaaGreat
