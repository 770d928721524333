/- Believed, in the reference and in the program. No condition. -/
import Derived.Test.YtkomkhigcdkpdaaSd
import Derived.Test.YtkomkhigcdkpdaaFwP
namespace Go.Proofs.Ytkomkhigcdkpdaa
open Go
attribute [local irreducible] awp awpL awpQL awpQ awpM pWalk Qt AC thenQ blockQ loopQ OpTo
set_option linter.unusedVariables false
set_option linter.unusedSimpArgs false
set_option maxHeartbeats 2000000
attribute [local irreducible] HC

theorem spec_l00Rises {l : List Int} {hi : Int} (hb : -1 ≤ hi ∧ hi ≤ 100) (hn : l.length ≤ 9223372036854775807) : AC Try.prog 94 [ints l, .int .i64 0, .int .i64 hi] (.bool (risB l hi)) := by
  have hle : (List.map (D.int IntKind.i64) l).length = l.length := by simp
  refine ac_intro tabIs _ Try.func94 rfl rfl Try.ntmps94 rfl rfl fun w0 ok0 => ?_
  repeat (first | refine awp_seq ?_ | refine then_n ?_ | refine then_r ?_ | refine then_x ?_ | refine block_n ?_ | refine block_r ?_ | refine block_x ?_ | refine u_y ?_ | refine loop_r ?_ | refine loop_x ?_ | refine awp_region ?_ | refine awpL_nil ?_ | refine awpQL_nil ?_ | refine awp_block ?_ | refine awp_skip ?_ | refine awp_exit ?_ | refine awp_label ?_ | refine u_dT ?_ | refine u_d ?_ | refine u_l ?_ | refine u_o ?_ | refine u_q ?_ | refine u_lr ?_ | refine u_qr ?_ | refine u_ls ?_ | refine u_qs ?_ | refine u_t ?_ | refine u_f ?_ | refine v_s ?_ | refine v_o ?_ | refine v_on ?_ | refine v_og ?_ | refine v_q ?_ | refine v_sr ?_ | refine v_k ?_ | refine m_nil ?_)
  refine awp_loop (fun k : Nat => k ≤ l.length ∧ ∀ j, j < k → risAt l hi j = true) (fun k => [(0, .d (ints l)), (1, .d (.int .i64 0)), (2, .d (.int .i64 hi)), (7, .d (.int .i64 k))]) (fun _ => []) (fun k => l.length - k) 0 ⟨by omega, by simp⟩ ?_ rfl ?_
  · ((repeat (first | exact trivial | (refine ⟨?_, ?_⟩; (focus (first | rfl | (simp [lk, argsS, args0]; done) | (simp [lk, argsS, args0]; omega)))))))
  · rintro k ⟨hk, hall⟩
    by_cases hlt : k < l.length
    · have he := el_int hlt
      have e1 : l.getD k 0 = l[k] := getD_get hlt
      have hw : AC Try.prog 60 [.int .i64 l[k], .int .i64 0, .int .i64 hi] (.bool (inB l[k] 0 hi)) := spec_l00In
      by_cases hin : inB l[k] 0 hi = true
      · rw [hin] at hw
        by_cases h0 : k = 0
        · subst h0
          have hc : risAt l hi 0 = true := by unfold risAt; rw [e1, hin]; rfl
          repeat (first | refine awp_seq ?_ | refine then_n ?_ | refine then_r ?_ | refine then_x ?_ | refine block_n ?_ | refine block_r ?_ | refine block_x ?_ | refine u_y ?_ | refine loop_r ?_ | refine loop_x ?_ | refine awp_region ?_ | refine awpL_nil ?_ | refine awpQL_nil ?_ | refine awp_block ?_ | refine awp_skip ?_ | refine awp_exit ?_ | refine awp_label ?_ | refine u_dT ?_ | refine u_d ?_ | ((first | apply c_l | apply c_q | apply c_lr | apply c_qr); (iterate 2 exact rfl); (focus (first | exact hw)); (iterate 2 exact rfl)) | (apply v_c; (iterate 4 exact rfl); (focus (first | exact hw)); (iterate 2 exact rfl)) | refine u_l ?_ | refine u_o ?_ | refine u_q ?_ | refine u_lr ?_ | refine u_qr ?_ | refine u_ls ?_ | refine u_qs ?_ | refine u_t ?_ | refine u_f ?_ | refine v_s ?_ | refine v_o ?_ | refine v_on ?_ | refine v_og ?_ | refine v_q ?_ | refine v_sr ?_ | refine v_k ?_ | refine m_nil ?_)
          refine loop_n 1 ⟨by omega, fun j hj => (by omega : j = 0) ▸ hc⟩ ?_ rfl (by omega)
          ((repeat (first | exact trivial | (refine ⟨?_, ?_⟩; (focus (first | rfl | (simp [lk, argsS, args0]; done) | (simp [lk, argsS, args0]; omega)))))))
        · have e2 : l.getD (k - 1) 0 = l[k - 1] := getD_get (by omega)
          have he2 : (List.map (D.int .i64) l)[((k : Int) - 1).toNat]? = some (.int .i64 l[k - 1]) := by
            have : ((k : Int) - 1).toNat = k - 1 := by omega
            rw [this]
            simp
          by_cases hc : l[k - 1] < l[k]
          · have hc2 : risAt l hi k = true := by unfold risAt; rw [e1, e2, hin]; simp [hc]
            repeat (first | refine awp_seq ?_ | refine then_n ?_ | refine then_r ?_ | refine then_x ?_ | refine block_n ?_ | refine block_r ?_ | refine block_x ?_ | refine u_y ?_ | refine loop_r ?_ | refine loop_x ?_ | refine awp_region ?_ | refine awpL_nil ?_ | refine awpQL_nil ?_ | refine awp_block ?_ | refine awp_skip ?_ | refine awp_exit ?_ | refine awp_label ?_ | refine u_dT ?_ | refine u_d ?_ | ((first | apply c_l | apply c_q | apply c_lr | apply c_qr); (iterate 2 exact rfl); (focus (first | exact hw)); (iterate 2 exact rfl)) | (apply v_c; (iterate 4 exact rfl); (focus (first | exact hw)); (iterate 2 exact rfl)) | refine u_l ?_ | refine u_o ?_ | refine u_q ?_ | refine u_lr ?_ | refine u_qr ?_ | refine u_ls ?_ | refine u_qs ?_ | refine u_t ?_ | refine u_f ?_ | refine v_s ?_ | refine v_o ?_ | refine v_on ?_ | refine v_og ?_ | refine v_q ?_ | refine v_sr ?_ | refine v_k ?_ | refine m_nil ?_)
            (first | apply awpL_split | apply awpQL_split); (iterate 3 (focus exact rfl))
            · intro hb1
              repeat (first | refine awp_seq ?_ | refine then_n ?_ | refine then_r ?_ | refine then_x ?_ | refine block_n ?_ | refine block_r ?_ | refine block_x ?_ | refine u_y ?_ | refine loop_r ?_ | refine loop_x ?_ | refine awp_region ?_ | refine awpL_nil ?_ | refine awpQL_nil ?_ | refine awp_block ?_ | refine awp_skip ?_ | refine awp_exit ?_ | refine awp_label ?_ | refine u_dT ?_ | refine u_d ?_ | ((first | apply c_l | apply c_q | apply c_lr | apply c_qr); (iterate 2 exact rfl); (focus (first | exact hw)); (iterate 2 exact rfl)) | (apply v_c; (iterate 4 exact rfl); (focus (first | exact hw)); (iterate 2 exact rfl)) | refine u_l ?_ | refine u_o ?_ | refine u_q ?_ | refine u_lr ?_ | refine u_qr ?_ | refine u_ls ?_ | refine u_qs ?_ | refine u_t ?_ | refine u_f ?_ | refine v_s ?_ | refine v_o ?_ | refine v_on ?_ | refine v_og ?_ | refine v_q ?_ | refine v_sr ?_ | refine v_k ?_ | refine m_nil ?_)
              refine loop_n (k + 1) ⟨by omega, fun j hj => ?_⟩ ?_ rfl (by omega)
              · by_cases hj2 : j = k
                · rw [hj2]; exact hc2
                · exact hall j (by omega)
              · ((repeat (first | exact trivial | (refine ⟨?_, ?_⟩; (focus (first | rfl | (simp [lk, argsS, args0]; done) | (simp [lk, argsS, args0]; omega)))))))
            · intro hb1
              simp at hb1
              omega
          · have hc2 : risAt l hi k = false := by unfold risAt; rw [e1, e2, hin]; simp [hc, h0]
            repeat (first | refine awp_seq ?_ | refine then_n ?_ | refine then_r ?_ | refine then_x ?_ | refine block_n ?_ | refine block_r ?_ | refine block_x ?_ | refine u_y ?_ | refine loop_r ?_ | refine loop_x ?_ | refine awp_region ?_ | refine awpL_nil ?_ | refine awpQL_nil ?_ | refine awp_block ?_ | refine awp_skip ?_ | refine awp_exit ?_ | refine awp_label ?_ | refine u_dT ?_ | refine u_d ?_ | ((first | apply c_l | apply c_q | apply c_lr | apply c_qr); (iterate 2 exact rfl); (focus (first | exact hw)); (iterate 2 exact rfl)) | (apply v_c; (iterate 4 exact rfl); (focus (first | exact hw)); (iterate 2 exact rfl)) | refine u_l ?_ | refine u_o ?_ | refine u_q ?_ | refine u_lr ?_ | refine u_qr ?_ | refine u_ls ?_ | refine u_qs ?_ | refine u_t ?_ | refine u_f ?_ | refine v_s ?_ | refine v_o ?_ | refine v_on ?_ | refine v_og ?_ | refine v_q ?_ | refine v_sr ?_ | refine v_k ?_ | refine m_nil ?_)
            (first | apply awpL_split | apply awpQL_split); (iterate 3 (focus exact rfl))
            · intro hb1
              repeat (first | refine awp_seq ?_ | refine then_n ?_ | refine then_r ?_ | refine then_x ?_ | refine block_n ?_ | refine block_r ?_ | refine block_x ?_ | refine u_y ?_ | refine loop_r ?_ | refine loop_x ?_ | refine awp_region ?_ | refine awpL_nil ?_ | refine awpQL_nil ?_ | refine awp_block ?_ | refine awp_skip ?_ | refine awp_exit ?_ | refine awp_label ?_ | refine u_dT ?_ | refine u_d ?_ | ((first | apply c_l | apply c_q | apply c_lr | apply c_qr); (iterate 2 exact rfl); (focus (first | exact hw)); (iterate 2 exact rfl)) | (apply v_c; (iterate 4 exact rfl); (focus (first | exact hw)); (iterate 2 exact rfl)) | refine u_l ?_ | refine u_o ?_ | refine u_q ?_ | refine u_lr ?_ | refine u_qr ?_ | refine u_ls ?_ | refine u_qs ?_ | refine u_t ?_ | refine u_f ?_ | refine v_s ?_ | refine v_o ?_ | refine v_on ?_ | refine v_og ?_ | refine v_q ?_ | refine v_sr ?_ | refine v_k ?_ | refine m_nil ?_)
              (refine awp_ret ?_; (repeat (first | refine then_r ?_ | refine block_r ?_ | refine loop_r ?_)); apply ret_ok (.inr rfl); (focus exact rfl))
              rw [risB_false hlt hc2]
            · intro hb1
              simp at hb1
              omega
      · have hin' : inB l[k] 0 hi = false := by simpa using hin
        rw [hin'] at hw
        have hc2 : risAt l hi k = false := by unfold risAt; rw [e1, hin']; rfl
        repeat (first | refine awp_seq ?_ | refine then_n ?_ | refine then_r ?_ | refine then_x ?_ | refine block_n ?_ | refine block_r ?_ | refine block_x ?_ | refine u_y ?_ | refine loop_r ?_ | refine loop_x ?_ | refine awp_region ?_ | refine awpL_nil ?_ | refine awpQL_nil ?_ | refine awp_block ?_ | refine awp_skip ?_ | refine awp_exit ?_ | refine awp_label ?_ | refine u_dT ?_ | refine u_d ?_ | ((first | apply c_l | apply c_q | apply c_lr | apply c_qr); (iterate 2 exact rfl); (focus (first | exact hw)); (iterate 2 exact rfl)) | (apply v_c; (iterate 4 exact rfl); (focus (first | exact hw)); (iterate 2 exact rfl)) | refine u_l ?_ | refine u_o ?_ | refine u_q ?_ | refine u_lr ?_ | refine u_qr ?_ | refine u_ls ?_ | refine u_qs ?_ | refine u_t ?_ | refine u_f ?_ | refine v_s ?_ | refine v_o ?_ | refine v_on ?_ | refine v_og ?_ | refine v_q ?_ | refine v_sr ?_ | refine v_k ?_ | refine m_nil ?_)
        (refine awp_ret ?_; (repeat (first | refine then_r ?_ | refine block_r ?_ | refine loop_r ?_)); apply ret_ok (.inr rfl); (focus exact rfl))
        rw [risB_false hlt hc2]
    · have : k = l.length := by omega
      subst this
      repeat (first | refine awp_seq ?_ | refine then_n ?_ | refine then_r ?_ | refine then_x ?_ | refine block_n ?_ | refine block_r ?_ | refine block_x ?_ | refine u_y ?_ | refine loop_r ?_ | refine loop_x ?_ | refine awp_region ?_ | refine awpL_nil ?_ | refine awpQL_nil ?_ | refine awp_block ?_ | refine awp_skip ?_ | refine awp_exit ?_ | refine awp_label ?_ | refine u_dT ?_ | refine u_d ?_ | refine u_l ?_ | refine u_o ?_ | refine u_q ?_ | refine u_lr ?_ | refine u_qr ?_ | refine u_ls ?_ | refine u_qs ?_ | refine u_t ?_ | refine u_f ?_ | refine v_s ?_ | refine v_o ?_ | refine v_on ?_ | refine v_og ?_ | refine v_q ?_ | refine v_sr ?_ | refine v_k ?_ | refine m_nil ?_)
      (refine awp_ret ?_; (repeat (first | refine then_r ?_ | refine block_r ?_ | refine loop_r ?_)); apply ret_ok (.inr rfl); (focus exact rfl))
      rw [risB_true hall]

theorem spec_l01Set {s : Int} {nx : List (List Int)} {l : List Int} (hs : 1 ≤ s ∧ s ≤ 10) (hn : l.length ≤ 9223372036854775807) : AC Try.prog 45 [.ptr (.agg [.int .i64 s, rows nx]), ints l] (.bool (risB l (s - 1))) := by
  have e1 := spec_l00Rises (l := l) (hi := s - 1) (by omega) hn
  refine ac_intro tabIs _ Try.func45 rfl rfl Try.ntmps45 rfl rfl fun w0 ok0 => ?_
  repeat (first | refine awp_seq ?_ | refine then_n ?_ | refine then_r ?_ | refine then_x ?_ | refine block_n ?_ | refine block_r ?_ | refine block_x ?_ | refine u_y ?_ | refine loop_r ?_ | refine loop_x ?_ | refine awp_region ?_ | refine awpL_nil ?_ | refine awpQL_nil ?_ | refine awp_block ?_ | refine awp_skip ?_ | refine awp_exit ?_ | refine awp_label ?_ | refine u_dT ?_ | refine u_d ?_ | ((first | apply c_l | apply c_q | apply c_lr | apply c_qr); (iterate 2 exact rfl); (focus (first | exact e1)); (iterate 2 exact rfl)) | (apply v_c; (iterate 4 exact rfl); (focus (first | exact e1)); (iterate 2 exact rfl)) | refine u_l ?_ | refine u_o ?_ | refine u_q ?_ | refine u_lr ?_ | refine u_qr ?_ | refine u_ls ?_ | refine u_qs ?_ | refine u_t ?_ | refine u_f ?_ | refine v_s ?_ | refine v_o ?_ | refine v_on ?_ | refine v_og ?_ | refine v_q ?_ | refine v_sr ?_ | refine v_k ?_ | refine m_nil ?_)
  (refine awp_ret ?_; (repeat (first | refine then_r ?_ | refine block_r ?_ | refine loop_r ?_)); apply ret_ok (.inr rfl); (focus exact rfl))
  rfl

/-- What Believed answers. -/
def belD (s : Int) (nx : List (List Int)) (lp l : List Int) (x y : Int) : List Int × Int :=
  if litOk s nx lp then (if risB l (s - 1) && (inB x 0 ((nx.length : Int) - 1) && inB y 0 3) then ((imgL nx l [x]).filter fun q => decide (lamp lp q = y), 0) else ([], 2)) else ([], 1)

theorem ris_len {s : Int} {l : List Int} (h : risB l (s - 1) = true) (hs : s ≤ 10) : l.length ≤ 10 := by
  obtain ⟨h1, h2⟩ := ris_of h
  have key : ∀ (l : List Int) (lo : Int), (∀ q ∈ l, lo ≤ q ∧ q ≤ 9) → l.Pairwise (· < ·) → (l.length : Int) ≤ max 0 (10 - lo) := by
    intro l
    induction l with
    | nil => intro lo _ _; simp; omega
    | cons x l ih =>
      intro lo hl hp
      have hp' := List.pairwise_cons.1 hp
      have hx := hl x (List.mem_cons_self ..)
      have := ih (x + 1) (fun q hq => ⟨by have := hp'.1 q hq; omega, (hl q (List.mem_cons_of_mem _ hq)).2⟩) hp'.2
      simp only [List.length_cons]
      omega
  have := key l 0 (fun q hq => ⟨(h1 q hq).1, by have := (h1 q hq).2; omega⟩) h2
  omega

/-- The bits of what is believed are its set. -/
theorem bel_eq {s x y : Int} {nx : List (List Int)} {lp l : List Int} (v : LV s nx lp) (hl : ∀ q ∈ l, 0 ≤ q ∧ q < s) (hr : l.Pairwise (· < ·)) (hx : 0 ≤ x ∧ x < nx.length) : setN (belB nx lp (bitsL 0 l) x y) = (imgL nx l [x]).filter fun q => decide (lamp lp q = y) := by
  have hs := v.s1
  have e1 : setN (bitsL 0 l) = l := setN_bits (fun q hq => by have := hl q hq; omega) hr
  obtain ⟨i1, i2⟩ := imgL_spec nx l [x]
  have e2 : setN (bitsL 0 (l.map fun q => at2 nx x q)) = imgL nx l [x] := by
    refine ris_ext (setTo_pairwise _ _) i1 fun q => ?_
    rw [step_mem v hl hx, i2, List.mem_map]
    constructor
    · rintro ⟨p, hp, rfl⟩; exact ⟨p, hp, rfl⟩
    · rintro ⟨p, hp, rfl⟩; exact ⟨p, hp, rfl⟩
  unfold belB
  rw [e1, e2]
  refine setN_bits (fun q hq => ?_) (List.Pairwise.filter _ i1)
  obtain ⟨p, hp, e⟩ := (i2 q).1 (List.mem_filter.1 hq).1
  subst e
  have := tbl_at v.nx hx (hl p hp)
  show 0 ≤ at2 nx x p ∧ at2 nx x p < 64
  omega

end Go.Proofs.Ytkomkhigcdkpdaa
