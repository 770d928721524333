/- What the laws' package asks of numbers and machines, suites that are drawn, outputs for words. No condition. -/
import Derived.Test.YtfemhnmggobhjaaGreatKe
import Derived.Test.YtfemhnmggobhjaaGreatNh
namespace Go.Proofs.YtfemhnmggobhjaaGreat
open Go
attribute [local irreducible] awp awpL awpQL awpQ awpM pWalk Qt AC thenQ blockQ loopQ OpTo
set_option linter.unusedVariables false
set_option linter.unusedSimpArgs false
set_option maxHeartbeats 2000000
attribute [local irreducible] HC
theorem laws_f6big {code : List Int} : AC Tryz.prog 15 [u8s code] (.bool (decide ((4096 : Int) < code.length))) := by
  have hle : (List.map (D.int .u8) code).length = code.length := by simp
  unfold u8s
  rw [<- hle]
  refine ac_intro tabIs _ Tryz.func15 rfl rfl Tryz.ntmps15 rfl rfl fun w0 ok0 he0 => ?_
  repeat (first | refine zc ?_ | refine zv ?_)
  refine zt ?_
  rfl
theorem laws_f6ints {a b : List Int} (h1 : a.length <= 9223372036854775807) (h2 : b.length <= 9223372036854775807) : AC Tryz.prog 65 [ints a, ints b] (.bool (decide (a = b))) := by
  have hla : (List.map (D.int IntKind.i64) a).length = a.length := by simp
  have hlb : (List.map (D.int IntKind.i64) b).length = b.length := by simp
  by_cases hl : a.length = b.length
  . refine ac_intro tabIs _ Tryz.func65 rfl rfl Tryz.ntmps65 rfl rfl fun w0 ok0 he0 => ?_
    repeat (first | refine zc ?_ | refine zv ?_)
    refine awp_loop (fun k : Nat => k <= a.length /\ a.take k = b.take k) (fun k => [(0, .d (ints a)), (1, .d (ints b)), (5, .d (.int .i64 k))]) (fun _ => []) (fun k => a.length - k) 0 ⟨by omega, rfl⟩ ?_ rfl ?_
    . exact zs
    . rintro k ⟨hk, ht⟩
      by_cases hlt : k < a.length
      . have hlt2 : k < b.length := by omega
        have ea := el_int hlt
        have eb := el_int hlt2
        by_cases hc : a[k] = b[k]
        . have hs := eq_step hlt hlt2 ht hc
          repeat (first | refine zc ?_ | refine zv ?_)
          refine loop_n (k + 1) ⟨by omega, hs⟩ ?_ rfl (by omega)
          exact zs
        . repeat (first | refine zc ?_ | refine zv ?_)
          refine zt ?_
          have : ¬ a = b := fun e => hc (by subst e; rfl)
          simp [this]
      . have hk' : k = a.length := by omega
        subst hk'
        rw [List.take_length, hl, List.take_length] at ht
        repeat (first | refine zc ?_ | refine zv ?_)
        refine zt ?_
        simp [ht]
  . refine ac_intro tabIs _ Tryz.func65 rfl rfl Tryz.ntmps65 rfl rfl fun w0 ok0 he0 => ?_
    repeat (first | refine zc ?_ | refine zv ?_)
    refine zt ?_
    have : ¬ a = b := fun e => hl (by rw [e])
    simp [this]
theorem laws_f6rows {a b : List (List Int)} (h1 : RowsOk a) (h2 : RowsOk b) : AC Tryz.prog 21 [rows a, rows b] (.bool (decide (a = b))) := by
  have hla : (List.map ints a).length = a.length := by simp
  have hlb : (List.map ints b).length = b.length := by simp
  have h1' := h1.2
  have h2' := h2.2
  by_cases hl : a.length = b.length
  . refine ac_intro tabIs _ Tryz.func21 rfl rfl Tryz.ntmps21 rfl rfl fun w0 ok0 he0 => ?_
    repeat (first | refine zc ?_ | refine zv ?_)
    refine awp_loop (fun k : Nat => k <= a.length /\ a.take k = b.take k) (fun k => [(0, .d (rows a)), (1, .d (rows b)), (5, .d (.int .i64 k))]) (fun _ => []) (fun k => a.length - k) 0 ⟨by omega, rfl⟩ ?_ rfl ?_
    . exact zs
    . rintro k ⟨hk, ht⟩
      by_cases hlt : k < a.length
      . have hlt2 : k < b.length := by omega
        have ea := el_row hlt
        have eb := el_row hlt2
        have ba := (h1.1 _ (List.getElem_mem hlt)).2
        have bb := (h2.1 _ (List.getElem_mem hlt2)).2
        by_cases hc : a[k] = b[k]
        . have hs := eq_step hlt hlt2 ht hc
          repeat (first | refine zc ?_ | ((first | apply c_l | apply c_q | apply c_lr | apply c_qr); (iterate 2 exact rfl); (focus (first | (apply laws_f6ints; (iterate 2 (focus (first | assumption | omega | (simp; omega) | (simp; done) | rfl)))))); (iterate 2 exact rfl)) | (apply v_c; (iterate 4 exact rfl); (focus (first | (apply laws_f6ints; (iterate 2 (focus (first | assumption | omega | (simp; omega) | (simp; done) | rfl)))))); (iterate 2 exact rfl)) | refine zv ?_)
          refine loop_n (k + 1) ⟨by omega, hs⟩ ?_ rfl (by omega)
          exact zs
        . repeat (first | refine zc ?_ | ((first | apply c_l | apply c_q | apply c_lr | apply c_qr); (iterate 2 exact rfl); (focus (first | (apply laws_f6ints; (iterate 2 (focus (first | assumption | omega | (simp; omega) | (simp; done) | rfl)))))); (iterate 2 exact rfl)) | (apply v_c; (iterate 4 exact rfl); (focus (first | (apply laws_f6ints; (iterate 2 (focus (first | assumption | omega | (simp; omega) | (simp; done) | rfl)))))); (iterate 2 exact rfl)) | refine zv ?_)
          refine zt ?_
          have : ¬ a = b := fun e => hc (by subst e; rfl)
          simp [this]
      . have hk' : k = a.length := by omega
        subst hk'
        rw [List.take_length, hl, List.take_length] at ht
        repeat (first | refine zc ?_ | refine zv ?_)
        refine zt ?_
        simp [ht]
  . refine ac_intro tabIs _ Tryz.func21 rfl rfl Tryz.ntmps21 rfl rfl fun w0 ok0 he0 => ?_
    repeat (first | refine zc ?_ | refine zv ?_)
    refine zt ?_
    have : ¬ a = b := fun e => hl (by rw [e])
    simp [this]
theorem machOk_mv {s o : Int} {nx ou : List (List Int)} (m : MV s o nx ou) : machOk s o nx ou = true := by
  have h1 := m.s1
  have h2 := m.o1
  have h3 := m.n1
  have h4 := m.eq
  simp only [machOk, autoOk, rowOk, allIn, inB, Bool.and_eq_true, decide_eq_true_eq, List.all_eq_true]
  exact ⟨⟨⟨h1, by omega, by omega⟩, fun ns hn => ⟨(m.nx ns hn).1, fun v hv => by have := (m.nx ns hn).2 v hv; omega⟩⟩, h2, by omega, fun ns hn => ⟨(m.ou ns hn).1, fun v hv => by have := (m.ou ns hn).2 v hv; omega⟩⟩
theorem wordOk_of {n : Nat} {w : List Int} (h1 : w.length <= 400) (h2 : ∀ l ∈ w, 0 <= l /\ l < n) : wordOk n w = true := by
  simp only [wordOk, allIn, inB, Bool.and_eq_true, decide_eq_true_eq, List.all_eq_true]
  exact ⟨by omega, fun l hl => by have := h2 l hl; omega⟩
theorem suiteOk_su {n : Nat} {ws : List (List Int)} (h : SuOk n ws) : suiteOk n ws = true := by
  simp only [suiteOk, Bool.and_eq_true, decide_eq_true_eq, List.all_eq_true]
  exact ⟨by have := h.len; omega, fun w hw => wordOk_of (h.all w hw).1 (h.all w hw).2⟩
end Go.Proofs.YtfemhnmggobhjaaGreat
