/- The reference's texts of deeds. No condition. -/
import Derived.Test.YtffmlijngfhhaaaGreatDoorWa
import Derived.Test.YtffmlijngfhhaaaGreatDoorFwW
import Derived.Lib.ItoaMem
namespace Go.Proofs.YtffmlijngfhhaaaGreatDoor
open Go
attribute [local irreducible] awp awpL awpQL awpQ awpM pWalk Qt AC thenQ blockQ loopQ OpTo
set_option linter.unusedVariables false
set_option linter.unusedSimpArgs false
set_option maxHeartbeats 2000000
open Go.Lib (itoa decDigits)

theorem itoa_small {n : Int} (h : 0 ≤ n ∧ n < 10) : itoa n = [UInt8.ofNat (48 + n).toNat] := by
  obtain ⟨k, rfl⟩ := Int.eq_ofNat_of_zero_le h.1
  rw [Go.Lib.itoa_nonneg, decDigits, dif_pos (by omega)]
  congr 2
theorem itoa_big {n : Int} (h : 10 ≤ n) : itoa n = itoa (n / 10) ++ [UInt8.ofNat (48 + n % 10).toNat] := by
  obtain ⟨k, rfl⟩ := Int.eq_ofNat_of_zero_le (show 0 ≤ n by omega)
  have e : ((k : Int) / 10) = ((k / 10 : Nat) : Int) := by omega
  rw [Go.Lib.itoa_nonneg, e, Go.Lib.itoa_nonneg, decDigits, dif_neg (by omega)]
  congr 3
theorem itoa_len {n : Int} (h : 0 ≤ n ∧ n ≤ 999) : (itoa n).length ≤ 3 := by
  by_cases h1 : n < 10
  · rw [itoa_small ⟨h.1, h1⟩]; simp
  · rw [itoa_big (by omega), List.length_append]
    by_cases h2 : n / 10 < 10
    · rw [itoa_small (by omega)]; simp
    · rw [itoa_big (by omega), List.length_append, itoa_small (by omega)]; simp

section
variable {cx : Cx} {h : Heap} {dst : Option Nat} {ty : TypeId} {pos : String} {af : Array Edge} {gd : Option (Nat × Bool)}
theorem dd_bytes1 {S T : Nat} {x : Operand} {ss st se : TR} {f : Nat → SV} {n : Int} (hx : slotD h (opv f x) = some (.lst [.int .u8 n])) (hs : tget cx.T S = some ss) (hsl : ss.isSl = true) (ht : tget cx.T T = some st) (hst : st.isStr = true)
    (hse : tget cx.T ss.elem = some se) (hsk : se.kind = some .u8) :
    Qt cx h ⟨dst, .convert S T x, ty, pos, af, gd⟩ f (.d (.str [UInt8.ofNat n.toNat])) := qa_bytesStr (ns := [n]) hx hs ht hsl hst hse hsk
end
theorem u8_wrapD {n : Int} (h : 0 ≤ n ∧ n < 256) : IntKind.u8.wrap n = n := wrap_in (by simp [IntKind.min, IntKind.signed, IntKind.bits]; omega) (by simp [IntKind.max, IntKind.signed, IntKind.bits]; omega)

theorem spec_Decimal1 {n : Int} (h : 0 ≤ n ∧ n < 10) : AC Tryz.prog 36 [.int .i64 n] (.str (itoa n)) := by
  rw [itoa_small h]
  have hwr := u8_wrapD (n := 48 + n) (by omega)
  refine ac_intro tabIs _ Tryz.func36 rfl rfl Tryz.ntmps36 rfl rfl fun w0 ok0 he0 => ?_
  repeat (first | refine awp_seq ?_ | refine then_n ?_ | refine then_r ?_ | refine then_x ?_ | refine block_n ?_ | refine block_r ?_ | refine block_x ?_ | refine u_y ?_ | refine loop_r ?_ | refine loop_x ?_ | refine awp_region ?_ | refine awpL_nil ?_ | refine awpQL_nil ?_ | refine awp_block ?_ | refine awp_skip ?_ | refine awp_exit ?_ | refine awp_label ?_ | refine u_dT ?_ | refine u_d ?_ | ((first | apply x_l | apply x_q | apply x_lr | apply x_qr); (focus (first | (apply dd_bytes1; (iterate 7 (focus (first | exact rfl | (first | assumption | omega | (simp; omega) | (simp; done) | rfl))))))); exact rfl) | (apply v_x; (iterate 2 exact rfl); (focus (intro ok0 nw hle; (first | (apply dd_bytes1; (iterate 7 (focus (first | exact rfl | (first | assumption | omega | (simp; omega) | (simp; done) | rfl)))))))); (iterate 2 exact rfl)) | refine u_l ?_ | refine u_o ?_ | refine u_q ?_ | refine u_lr ?_ | refine u_qr ?_ | refine u_ls ?_ | refine u_qs ?_ | refine u_t ?_ | refine u_f ?_ | refine v_s ?_ | refine v_o ?_ | refine v_on ?_ | refine v_og ?_ | refine v_q ?_ | refine v_sr ?_ | refine v_k ?_ | refine m_nil ?_)
  (refine awp_ret ?_; (repeat (first | refine then_r ?_ | refine block_r ?_ | refine loop_r ?_)); apply ret_ok (.inr rfl); (focus exact rfl))
  simp [hwr]
theorem spec_DecimalS {n : Int} (h : 10 ≤ n ∧ n ≤ 999) (hr : AC Tryz.prog 36 [.int .i64 (n / 10)] (.str (itoa (n / 10)))) : AC Tryz.prog 36 [.int .i64 n] (.str (itoa n)) := by
  rw [itoa_big h.1]
  have hwr := u8_wrapD (n := 48 + n % 10) (by omega)
  have hl := itoa_len (n := n / 10) (by omega)
  generalize itoa (n / 10) = t at *
  refine ac_intro tabIs _ Tryz.func36 rfl rfl Tryz.ntmps36 rfl rfl fun w0 ok0 he0 => ?_
  repeat (first | refine awp_seq ?_ | refine then_n ?_ | refine then_r ?_ | refine then_x ?_ | refine block_n ?_ | refine block_r ?_ | refine block_x ?_ | refine u_y ?_ | refine loop_r ?_ | refine loop_x ?_ | refine awp_region ?_ | refine awpL_nil ?_ | refine awpQL_nil ?_ | refine awp_block ?_ | refine awp_skip ?_ | refine awp_exit ?_ | refine awp_label ?_ | refine u_dT ?_ | refine u_d ?_ | ((first | apply x_l | apply x_q | apply x_lr | apply x_qr); (focus (first | (apply dd_bytes1; (iterate 7 (focus (first | exact rfl | (first | assumption | omega | (simp; omega) | (simp; done) | rfl))))))); exact rfl) | ((first | apply c_l | apply c_q | apply c_lr | apply c_qr); (iterate 2 exact rfl); (focus (first | exact hr)); (iterate 2 exact rfl)) | (apply v_x; (iterate 2 exact rfl); (focus (intro ok0 nw hle; (first | (apply dd_bytes1; (iterate 7 (focus (first | exact rfl | (first | assumption | omega | (simp; omega) | (simp; done) | rfl)))))))); (iterate 2 exact rfl)) | (apply v_c; (iterate 4 exact rfl); (focus (first | exact hr)); (iterate 2 exact rfl)) | refine u_l ?_ | refine u_o ?_ | refine u_q ?_ | refine u_lr ?_ | refine u_qr ?_ | refine u_ls ?_ | refine u_qs ?_ | refine u_t ?_ | refine u_f ?_ | refine v_s ?_ | refine v_o ?_ | refine v_on ?_ | refine v_og ?_ | refine v_q ?_ | refine v_sr ?_ | refine v_k ?_ | refine m_nil ?_)
  (refine awp_ret ?_; (repeat (first | refine then_r ?_ | refine block_r ?_ | refine loop_r ?_)); apply ret_ok (.inr rfl); (focus exact rfl))
  simp [hwr]
theorem spec_Decimal {n : Int} (h : 0 ≤ n ∧ n ≤ 999) : AC Tryz.prog 36 [.int .i64 n] (.str (itoa n)) := by
  by_cases h1 : n < 10
  · exact spec_Decimal1 ⟨h.1, h1⟩
  · refine spec_DecimalS (by omega) ?_
    by_cases h2 : n / 10 < 10
    · exact spec_Decimal1 (by omega)
    · exact spec_DecimalS (by omega) (spec_Decimal1 (by omega))

def dtxt (k a : Int) : List UInt8 := if vdeed k a = true then (if dtell k = true then dword k ++ (32 :: itoa a) else dword k) else []

end Go.Proofs.YtffmlijngfhhaaaGreatDoor
