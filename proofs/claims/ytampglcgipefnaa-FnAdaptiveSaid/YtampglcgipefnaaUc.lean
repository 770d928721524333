/- ShortestFor; ActionOf. No condition. -/
import Derived.Test.YtampglcgipefnaaUb
namespace Go.Proofs.Ytampglcgipefnaa
open Go
attribute [local irreducible] awp awpL awpQL awpQ awpM pWalk Qt AC thenQ blockQ loopQ OpTo
set_option linter.unusedVariables false
set_option linter.unusedSimpArgs false
set_option maxHeartbeats 2000000
attribute [local irreducible] HC HX

theorem impl_ShortestFor1 {s : Int} {nx : List (List Int)} {l : List Int} (hs : 1 ≤ s ∧ s ≤ 10) (hl : ∀ q ∈ l, 0 ≤ q ∧ q < s) (hr : l.Pairwise (· < ·)) : AC Try.prog 42 [.ptr (ints l), .ptr (.agg [.int .i64 s, rows nx])] (.bool true) := by
  have hl10 := ris_le10 hs.2 hl hr
  have e1 := impl_isSet (l := l) (b := s) (by omega) (by omega)
  rw [risB_of (fun q hq => by have := hl q hq; omega) hr] at e1
  refine ac_intro tabIs _ Try.func42 rfl rfl Try.ntmps42 rfl rfl fun w0 ok0 => ?_
  repeat (first | refine zc ?_ | ((first | apply c_l | apply c_q | apply c_lr | apply c_qr); (iterate 2 exact rfl); (focus (first | exact e1)); (iterate 2 exact rfl)) | (apply v_c; (iterate 4 exact rfl); (focus (first | exact e1)); (iterate 2 exact rfl)) | refine zv ?_ | refine zg ?_)
  (refine awp_ret ?_; (repeat (first | refine then_r ?_ | refine block_r ?_ | refine loop_r ?_)); apply ret_ok (.inr rfl); (focus exact rfl))
  rfl
theorem impl_ShortestFor {s : Int} {nx : List (List Int)} {lp l : List Int} (hv : litOk s nx lp = true) (hl : ∀ q ∈ l, 0 ≤ q ∧ q < s) (hr : l.Pairwise (· < ·)) :
    AC Try.prog 16 [.agg [.int .i64 s, rows nx], ints l] (.tup [.nils, .int .i64 6]) ∨
    ∃ w : List Int, AC Try.prog 16 [.agg [.int .i64 s, rows nx], ints l] (.tup [ints w, .int .i64 0]) ∧ w.length ≤ 1024 ∧ (∀ x ∈ w, 0 ≤ x ∧ x < nx.length) ∧ sm (goF (nfB nx) (bitsL 0 l) w) = true := by
  have v := lv_of hv
  have hs := v.s1
  have hn := v.n1
  have hpw := pow_le (m := s.toNat) (by omega)
  have hl10 := ris_le10 hs.2 hl hr
  have hf : bitsL 0 l < 2 ^ s.toNat := bits_lt _ _ (Nat.two_pow_pos _) fun q hq => by have := hl q hq; omega
  have e3 := impl_ShortestFor1 (nx := nx) hs hl hr
  have e4 := impl_codeA (s := s) (nx := nx) (rowsOkL v) (autoOk_of hv) e3
  have e5 := impl_flockOf (l := l) (fun q hq => by have := hl q hq; omega) (by omega)
  have e6 := impl_tour v hf
  have hok : QOk (2 ^ s.toNat) nx.length (bitsL 0 l) (nfB nx) (trQ (nfB nx) nx.length (bitsL 0 l)) := lstQ_ok (fun c x hc hx => nfB_lt v hc hx) hf 1024
  have hlen := hok.len
  generalize bitsL 0 l = f at *
  generalize trQ (nfB nx) nx.length f = TQ at *
  have hN : ∀ p ∈ TQ, p.1 < 1024 := fun p hp => by have := hok.lt p hp; omega
  rcases findI_cases sm (TQ.map (·.1)) 0 with hz | ⟨j, hj, hz, hsm⟩
  · left
    have e7 := impl_first0 hN (by omega) hz
    generalize kvP TQ = kvs at *
    generalize ordU TQ = ol at *
    refine ac_intro tabIs _ Try.func16 rfl rfl Try.ntmps16 rfl rfl fun w0 ok0 => ?_
    repeat (first | refine zc ?_ | ((first | apply c_l | apply c_q | apply c_lr | apply c_qr); (iterate 2 exact rfl); (focus (first | exact e4 | exact e5 | exact e6 | exact e7)); (iterate 2 exact rfl)) | (apply v_c; (iterate 4 exact rfl); (focus (first | exact e4 | exact e5 | exact e6 | exact e7)); (iterate 2 exact rfl)) | refine zv ?_)
    (refine awp_ret ?_; (repeat (first | refine then_r ?_ | refine block_r ?_ | refine loop_r ?_)); apply ret_ok (.inr rfl); (focus exact rfl))
    rfl
  · right
    have hjl : j < TQ.length := by simpa using hj
    have hp : TQ[j]? = some TQ[j] := List.getElem?_eq_getElem hjl
    have hpm : TQ[j] ∈ TQ := List.getElem_mem hjl
    rw [Nat.zero_add] at hz
    have e7 := impl_first1 hN (by omega) hz hp hok.nd
    have hsm : sm TQ[j].1 = true := by simpa using hsm
    rw [← hok.rt _ hpm] at hsm
    refine ⟨TQ[j].2, ?_, by have := hok.wl _ hpm; omega, hok.el _ hpm, hsm⟩
    generalize TQ[j].2 = w at *
    generalize kvP TQ = kvs at *
    generalize ordU TQ = ol at *
    refine ac_intro tabIs _ Try.func16 rfl rfl Try.ntmps16 rfl rfl fun w0 ok0 => ?_
    repeat (first | refine zc ?_ | ((first | apply c_l | apply c_q | apply c_lr | apply c_qr); (iterate 2 exact rfl); (focus (first | exact e4 | exact e5 | exact e6 | exact e7)); (iterate 2 exact rfl)) | (apply v_c; (iterate 4 exact rfl); (focus (first | exact e4 | exact e5 | exact e6 | exact e7)); (iterate 2 exact rfl)) | refine zv ?_)
    (refine awp_ret ?_; (repeat (first | refine then_r ?_ | refine block_r ?_ | refine loop_r ?_)); apply ret_ok (.inr rfl); (focus exact rfl))
    rfl
end Go.Proofs.Ytampglcgipefnaa
