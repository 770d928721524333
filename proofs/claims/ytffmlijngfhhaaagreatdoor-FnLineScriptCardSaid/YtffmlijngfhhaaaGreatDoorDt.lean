/- The reference's texts of deeds. No condition. -/
import Derived.Test.YtffmlijngfhhaaaGreatDoorWa
import Derived.Test.YtffmlijngfhhaaaGreatDoorFwW
import Derived.Lib.ItoaMem
namespace Go.Proofs.YtffmlijngfhhaaaGreatDoor
open Go
attribute [local irreducible] awp awpL awpQL awpQ awpM pWalk Qt AC thenQ blockQ loopQ OpTo
set_option linter.unusedVariables false
set_option linter.unusedSimpArgs false
set_option maxHeartbeats 2000000
open Go.Lib (itoa decDigits)
theorem itoa_small {n : Int} (h : 0 <= n /\ n < 10) : itoa n = [UInt8.ofNat (48 + n).toNat] := by
  obtain ⟨k, rfl⟩ := Int.eq_ofNat_of_zero_le h.1
  rw [Go.Lib.itoa_nonneg, decDigits, dif_pos (by omega)]
  congr 2
theorem itoa_big {n : Int} (h : 10 <= n) : itoa n = itoa (n / 10) ++ [UInt8.ofNat (48 + n % 10).toNat] := by
  obtain ⟨k, rfl⟩ := Int.eq_ofNat_of_zero_le (show 0 <= n by omega)
  have e : ((k : Int) / 10) = ((k / 10 : Nat) : Int) := by omega
  rw [Go.Lib.itoa_nonneg, e, Go.Lib.itoa_nonneg, decDigits, dif_neg (by omega)]
  congr 3
theorem itoa_len {n : Int} (h : 0 <= n /\ n <= 999) : (itoa n).length <= 3 := by
  by_cases h1 : n < 10
  . rw [itoa_small ⟨h.1, h1⟩]; simp
  . rw [itoa_big (by omega), List.length_append]
    by_cases h2 : n / 10 < 10
    . rw [itoa_small (by omega)]; simp
    . rw [itoa_big (by omega), List.length_append, itoa_small (by omega)]; simp
section
variable {cx : Cx} {h : Heap} {dst : Option Nat} {ty : TypeId} {pos : String} {af : Array Edge} {gd : Option (Nat × Bool)}
theorem dd_bytes1 {S T : Nat} {x : Operand} {ss st se : TR} {f : Nat -> SV} {n : Int} (hx : slotD h (opv f x) = some (.lst [.int .u8 n])) (hs : tget cx.T S = some ss) (hsl : ss.isSl = true) (ht : tget cx.T T = some st) (hst : st.isStr = true)
    (hse : tget cx.T ss.elem = some se) (hsk : se.kind = some .u8) :
    Qt cx h ⟨dst, .convert S T x, ty, pos, af, gd⟩ f (.d (.str [UInt8.ofNat n.toNat])) := qa_bytesStr (ns := [n]) hx hs ht hsl hst hse hsk
end
theorem u8_wrapD {n : Int} (h : 0 <= n /\ n < 256) : IntKind.u8.wrap n = n := wrap_in (by simp [IntKind.min, IntKind.signed, IntKind.bits]; omega) (by simp [IntKind.max, IntKind.signed, IntKind.bits]; omega)
theorem spec_Decimal1 {n : Int} (h : 0 <= n /\ n < 10) : AC Tryz.prog 36 [.int .i64 n] (.str (itoa n)) := by
  rw [itoa_small h]
  have hwr := u8_wrapD (n := 48 + n) (by omega)
  refine ac_intro tabIs _ Tryz.func36 rfl rfl Tryz.ntmps36 rfl rfl fun w0 ok0 he0 => ?_
  repeat (first | refine zc ?_ | ((first | apply x_l | apply x_q | apply x_lr | apply x_qr); (focus (first | (apply dd_bytes1; (iterate 7 (focus (first | exact rfl | (first | assumption | omega | (simp; omega) | (simp; done) | rfl))))))); exact rfl) | (apply v_x; (iterate 2 exact rfl); (focus (intro ok0 nw hle; (first | (apply dd_bytes1; (iterate 7 (focus (first | exact rfl | (first | assumption | omega | (simp; omega) | (simp; done) | rfl)))))))); (iterate 2 exact rfl)) | refine zv ?_)
  refine zt ?_
  simp [hwr]
theorem spec_DecimalS {n : Int} (h : 10 <= n /\ n <= 999) (hr : AC Tryz.prog 36 [.int .i64 (n / 10)] (.str (itoa (n / 10)))) : AC Tryz.prog 36 [.int .i64 n] (.str (itoa n)) := by
  rw [itoa_big h.1]
  have hwr := u8_wrapD (n := 48 + n % 10) (by omega)
  have hl := itoa_len (n := n / 10) (by omega)
  generalize itoa (n / 10) = t at *
  refine ac_intro tabIs _ Tryz.func36 rfl rfl Tryz.ntmps36 rfl rfl fun w0 ok0 he0 => ?_
  repeat (first | refine zc ?_ | ((first | apply x_l | apply x_q | apply x_lr | apply x_qr); (focus (first | (apply dd_bytes1; (iterate 7 (focus (first | exact rfl | (first | assumption | omega | (simp; omega) | (simp; done) | rfl))))))); exact rfl) | refine zk (e := by exact hr) (n := ?_) | (apply v_x; (iterate 2 exact rfl); (focus (intro ok0 nw hle; (first | (apply dd_bytes1; (iterate 7 (focus (first | exact rfl | (first | assumption | omega | (simp; omega) | (simp; done) | rfl)))))))); (iterate 2 exact rfl)) | refine zv ?_)
  refine zt ?_
  simp [hwr]
theorem spec_Decimal {n : Int} (h : 0 <= n /\ n <= 999) : AC Tryz.prog 36 [.int .i64 n] (.str (itoa n)) := by
  by_cases h1 : n < 10
  . exact spec_Decimal1 ⟨h.1, h1⟩
  . refine spec_DecimalS (by omega) ?_
    by_cases h2 : n / 10 < 10
    . exact spec_Decimal1 (by omega)
    . exact spec_DecimalS (by omega) (spec_Decimal1 (by omega))
def dtxt (k a : Int) : List UInt8 := if vdeed k a = true then (if dtell k = true then dword k ++ (32 :: itoa a) else dword k) else []
theorem spec_DeedText {k a : Int} : AC Tryz.prog 34 [.agg [.int .i64 k, .int .i64 a]] (.str (dtxt k a)) := by
  have e1 := spec_l08Deed (k := k) (a := a)
  unfold dtxt
  cases hv : vdeed k a with
  | false =>
    rw [hv] at e1
    refine ac_intro tabIs _ Tryz.func34 rfl rfl Tryz.ntmps34 rfl rfl fun w0 ok0 he0 => ?_
    repeat (first | refine zc ?_ | refine zk (e := by exact e1) (n := ?_) | refine zv ?_)
    refine zt ?_
    rfl
  | true =>
    rw [hv] at e1
    rw [if_pos rfl]
    have hv' := hv
    simp only [vdeed, inB, Bool.and_eq_true, decide_eq_true_eq] at hv'
    have hk0 : 0 <= k := by omega
    have hx : (dtold.map D.bool)[k.toNat]? = some (.bool (dtell k)) := by
      unfold dtell
      rw [if_pos hk0, List.getD_eq_getElem?_getD]
      have : k.toNat < dtold.length := by simp [dtold]; omega
      simp [this]
    have hy : (dwords.map D.str)[k.toNat]? = some (.str (dword k)) := by
      unfold dword
      rw [if_pos hk0, List.getD_eq_getElem?_getD]
      have : k.toNat < dwords.length := by simp [dwords]; omega
      simp [this]
    have hwl : (dword k).length <= 7 := by
      have : k = 1 \/ k = 2 \/ k = 3 \/ k = 4 \/ k = 5 \/ k = 6 \/ k = 7 \/ k = 8 \/ k = 9 := by omega
      rcases this with rfl | rfl | rfl | rfl | rfl | rfl | rfl | rfl | rfl <;> decide
    have ed := spec_Decimal (n := a) (by omega)
    have hal := itoa_len (n := a) (by omega)
    have ew := spec_l08Words
    generalize dwords.map D.str = ws at *
    generalize dtold.map D.bool = ts at *
    generalize dword k = wk at *
    cases ht : dtell k with
    | true =>
      rw [ht] at hx
      rw [if_pos rfl]
      refine ac_intro tabIs _ Tryz.func34 rfl rfl Tryz.ntmps34 rfl rfl fun w0 ok0 he0 => ?_
      repeat (first | refine zc ?_ | refine zk (e := by exact e1) (n := ?_) | refine zk (e := by exact ew) (n := ?_) | refine zk (e := by exact ed) (n := ?_) | refine zv ?_)
      refine zt ?_
      simp
    | false =>
      rw [ht] at hx
      refine ac_intro tabIs _ Tryz.func34 rfl rfl Tryz.ntmps34 rfl rfl fun w0 ok0 he0 => ?_
      repeat (first | refine zc ?_ | refine zk (e := by exact e1) (n := ?_) | refine zk (e := by exact ew) (n := ?_) | refine zv ?_)
      refine zt ?_
      rfl
end Go.Proofs.YtffmlijngfhhaaaGreatDoor
