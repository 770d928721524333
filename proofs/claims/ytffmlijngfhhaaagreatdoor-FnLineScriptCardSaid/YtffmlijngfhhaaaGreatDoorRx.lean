/- Texts cut into lines and read as words: the reference's l01Split, both ReadWords. No condition but bounds. -/
import Derived.Test.YtffmlijngfhhaaaGreatDoorRw
import Derived.Test.YtffmlijngfhhaaaGreatDoorTy
import Derived.Test.YtffmlijngfhhaaaGreatDoorSp
namespace Go.Proofs.YtffmlijngfhhaaaGreatDoor
open Go
attribute [local irreducible] awp awpL awpQL awpQ awpM pWalk Qt AC thenQ blockQ loopQ OpTo
set_option linter.unusedVariables false
set_option linter.unusedSimpArgs false
set_option maxHeartbeats 2000000
attribute [local irreducible] HC
theorem cut_at {l : List UInt8} {f i : Nat} (hf : f <= i) (hi : i < l.length) : l.drop f = (l.drop f).take (i - f) ++ l[i] :: l.drop (i + 1) := by
  have h1 : (l.drop f).drop (i - f) = l[i] :: l.drop (i + 1) := by
    rw [List.drop_drop, show f + (i - f) = i by omega]
    exact List.drop_eq_getElem_cons hi
  rw [<- h1, List.take_append_drop]
theorem take_drop {l : List UInt8} {f i : Nat} : (l.drop f).take (i - f) = (l.take i).drop f := by
  rw [List.drop_take]
theorem spec_l01Split {l : List UInt8} (hl : l.length <= 1048576) : AC Tryz.prog 85 [.str l, .int .u8 10] (.lst ((lns l).map .str)) := by
  refine ac_intro tabIs _ Tryz.func85 rfl rfl Tryz.ntmps85 rfl rfl fun w0 ok0 he0 => ?_
  repeat (first | refine v_w (t := 8) ?_ | refine zc ?_ | refine u_w (t := 8) ?_ | refine zv ?_)
  refine awp_loop (fun p : Nat × Nat × List (List UInt8) => p.2.1 <= p.1 /\ p.1 <= l.length /\ (∀ c ∈ (l.drop p.2.1).take (p.1 - p.2.1), c ≠ 10) /\ lns l = p.2.2 ++ lns (l.drop p.2.1) /\ p.2.2.length <= p.1) (fun p => [(0, .d (.str l)), (1, .d (.int .u8 10)), (5, .own 8), (6, .d (.int .i64 p.2.1)), (7, .d (.int .i64 p.1))]) (fun p => [(8, .arr 9 1 (p.2.2.map .str))]) (fun p => l.length - p.1) (0, 0, []) ⟨by simp, by simp, by simp, by simp, by simp⟩ ?_ rfl ?_
  . exact zs
  . rintro ⟨i, f, d⟩ ⟨hf, hi, hno, heq, hdl⟩
    simp only at hf hi hno heq hdl ⊢
    by_cases hlt : i < l.length
    . have hc : l[((i : Nat) : Int).toNat]? = some l[i] := by simp [hlt]
      by_cases h10 : l[i] = 10
      . have hd : decide (((l[i].toNat : Nat) : Int) = 10) = true := by rw [h10]; rfl
        have hcut : lns (l.drop f) = ((l.drop f).take (i - f)) :: lns (l.drop (i + 1)) := by
          conv => lhs; rw [cut_at hf hlt, h10]
          exact lns_at hno
        generalize l[i] = c at *
        repeat (first | refine zc ?_ | ((first | apply x_l | apply x_q | apply x_lr | apply x_qr); (focus (first | (apply qa_strIndex; (iterate 6 (focus (first | exact rfl | (first | assumption | omega | (simp; omega) | (simp; done) | rfl))))) | (apply qa_strSlice_lh; (iterate 8 (focus (first | exact rfl | (first | assumption | omega | (simp; omega) | (simp; done) | rfl))))))); exact rfl) | (apply v_x; (iterate 2 exact rfl); (focus (intro ok0 nw hle; (first | (apply qa_strIndex; (iterate 6 (focus (first | exact rfl | (first | assumption | omega | (simp; omega) | (simp; done) | rfl))))) | (apply qa_strSlice_lh; (iterate 8 (focus (first | exact rfl | (first | assumption | omega | (simp; omega) | (simp; done) | rfl)))))))); (iterate 2 exact rfl)) | refine zv ?_)
        refine loop_n ((i + 1, i + 1, d ++ [(l.drop f).take (i - f)]) : Nat × Nat × List (List UInt8)) ⟨Nat.le_refl _, hlt, by simp, by show lns l = (d ++ [(l.drop f).take (i - f)]) ++ lns (l.drop (i + 1)); rw [heq, hcut]; simp, by simp; omega⟩ ?_ ?_ (by simp; omega)
        . exact zs
        . exact congrArg (fun x => [(8, Chunk.arr 9 1 x)]) (List.map_append (f := D.str) (l₁ := d) (l₂ := [(l.drop f).take (i - f)]))
      . have hd : decide (((l[i].toNat : Nat) : Int) = 10) = false := decide_eq_false fun e => h10 (UInt8.toNat_inj.1 (show l[i].toNat = 10 by omega))
        have hno' : ∀ c ∈ (l.drop f).take (i + 1 - f), c ≠ 10 := by
          intro c hc'
          rw [take_drop, List.take_succ_eq_append_getElem hlt, List.drop_append_of_le_length (by simp; omega), <- take_drop, List.mem_append] at hc'
          rcases hc' with h | h
          . exact hno c h
          . simp at h; rw [h]; exact h10
        generalize l[i] = c at *
        repeat (first | refine zc ?_ | ((first | apply x_l | apply x_q | apply x_lr | apply x_qr); (focus (first | (apply qa_strIndex; (iterate 6 (focus (first | exact rfl | (first | assumption | omega | (simp; omega) | (simp; done) | rfl))))))); exact rfl) | (apply v_x; (iterate 2 exact rfl); (focus (intro ok0 nw hle; (first | (apply qa_strIndex; (iterate 6 (focus (first | exact rfl | (first | assumption | omega | (simp; omega) | (simp; done) | rfl)))))))); (iterate 2 exact rfl)) | refine zv ?_)
        refine loop_n ((i + 1, f, d) : Nat × Nat × List (List UInt8)) ⟨Nat.le_succ_of_le hf, hlt, hno', heq, Nat.le_succ_of_le hdl⟩ ?_ rfl (by simp; omega)
        exact zs
    . have hie : i = l.length := by omega
      subst hie
      rw [List.take_of_length_le (by simp)] at hno
      rw [heq, lns_no hno]
      repeat (first | refine zc ?_ | ((first | apply x_l | apply x_q | apply x_lr | apply x_qr); (focus (first | (apply qa_strSlice_l; (iterate 6 (focus (first | exact rfl | (first | assumption | omega | (simp; omega) | (simp; done) | rfl))))))); exact rfl) | (apply v_x; (iterate 2 exact rfl); (focus (intro ok0 nw hle; (first | (apply qa_strSlice_l; (iterate 6 (focus (first | exact rfl | (first | assumption | omega | (simp; omega) | (simp; done) | rfl)))))))); (iterate 2 exact rfl)) | refine zv ?_)
      refine zt ?_
      simp
end Go.Proofs.YtffmlijngfhhaaaGreatDoor
