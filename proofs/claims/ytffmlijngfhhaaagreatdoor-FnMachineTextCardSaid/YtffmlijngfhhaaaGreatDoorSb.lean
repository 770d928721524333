/- Contracts of sets of states as bits. No condition. -/
import Derived.Test.YtffmlijngfhhaaaGreatDoorSa
import Derived.Test.YtffmlijngfhhaaaGreatDoorMa
import Derived.Test.YtffmlijngfhhaaaGreatDoorFwP
namespace Go.Proofs.YtffmlijngfhhaaaGreatDoor
open Go
attribute [local irreducible] awp awpL awpQL awpQ awpM pWalk Qt AC thenQ blockQ loopQ OpTo
set_option linter.unusedVariables false
set_option linter.unusedSimpArgs false
set_option maxHeartbeats 2000000
attribute [local irreducible] HC

/-! ### Plain sets -/

/-- Rising lists with the same elements are the same. -/
theorem ris_ext : ∀ {a b : List Int}, a.Pairwise (· < ·) → b.Pairwise (· < ·) → (∀ x, x ∈ a ↔ x ∈ b) → a = b
  | [], [], _, _, _ => rfl
  | [], y :: b, _, _, h => by have := (h y).2 (List.mem_cons_self ..); cases this
  | x :: a, [], _, _, h => by have := (h x).1 (List.mem_cons_self ..); cases this
  | x :: a, y :: b, ha, hb, h => by
    have ha' := List.pairwise_cons.1 ha
    have hb' := List.pairwise_cons.1 hb
    have hxy : x = y := by
      rcases List.mem_cons.1 ((h x).1 (List.mem_cons_self ..)) with e | e
      · exact e
      · rcases List.mem_cons.1 ((h y).2 (List.mem_cons_self ..)) with e' | e'
        · exact e'.symm
        · have h1 := hb'.1 x e
          have h2 := ha'.1 y e'
          omega
    subst hxy
    congr 1
    refine ris_ext ha'.2 hb'.2 fun z => ⟨fun hz => ?_, fun hz => ?_⟩
    · rcases List.mem_cons.1 ((h z).1 (List.mem_cons_of_mem _ hz)) with e | e
      · have := ha'.1 z hz; omega
      · exact e
    · rcases List.mem_cons.1 ((h z).2 (List.mem_cons_of_mem _ hz)) with e | e
      · have := hb'.1 z hz; omega
      · exact e

/-! ### Contracts -/

end Go.Proofs.YtffmlijngfhhaaaGreatDoor

/-! Contracts of what is believed of a lit automaton, in the program. No condition. -/
namespace Go.Proofs.YtffmlijngfhhaaaGreatDoor
open Go
attribute [local irreducible] awp awpL awpQL awpQ awpM pWalk Qt AC thenQ blockQ loopQ OpTo
set_option linter.unusedVariables false
set_option linter.unusedSimpArgs false
set_option maxHeartbeats 2000000
attribute [local irreducible] HC

/-- A valid lit automaton. -/
structure LV (s : Int) (nx : List (List Int)) (lp : List Int) : Prop where
  s1 : 1 ≤ s ∧ s ≤ 10
  n1 : 1 ≤ nx.length ∧ nx.length ≤ 3
  nx : Tbl s s nx
  lp : (lp.length : Int) = s
theorem lv_of {s : Int} {nx : List (List Int)} {lp : List Int} (h : litOk s nx lp = true) : LV s nx lp := by
  simp only [litOk, autoOk, inB, Bool.and_eq_true, decide_eq_true_eq] at h
  exact ⟨by omega, by omega, tbl_of h.1.2, h.2.1⟩

def risAt (l : List Int) (hi : Int) (k : Nat) : Bool := inB (l.getD k 0) 0 hi && (decide (k = 0) || decide (l.getD (k - 1) 0 < l.getD k 0))
def risB (l : List Int) (hi : Int) : Bool := (List.range l.length).all (risAt l hi)

theorem risB_false {l : List Int} {hi : Int} {k : Nat} (hk : k < l.length) (h : risAt l hi k = false) : risB l hi = false := by
  unfold risB
  rw [List.all_eq_false]
  exact ⟨k, by simpa using hk, by simp [h]⟩
theorem risB_true {l : List Int} {hi : Int} (h : ∀ k, k < l.length → risAt l hi k = true) : risB l hi = true := by
  unfold risB
  rw [List.all_eq_true]
  intro k hk
  exact h k (by simpa using hk)

theorem getD_get {l : List Int} {k : Nat} (h : k < l.length) : l.getD k 0 = l[k] := by simp [List.getD_eq_getElem?_getD, h]

theorem impl_isSet {l : List Int} {b : Int} (hb : 0 ≤ b ∧ b ≤ 100) (hn : l.length ≤ 9223372036854775807) : AC Tryz.prog 79 [ints l, .int .i64 b] (.bool (risB l (b - 1))) := by
  have hle : (List.map (D.int IntKind.i64) l).length = l.length := by simp
  refine ac_intro tabIs _ Tryz.func79 rfl rfl Tryz.ntmps79 rfl rfl fun w0 ok0 he0 => ?_
  repeat (first | refine awp_seq ?_ | refine then_n ?_ | refine then_r ?_ | refine then_x ?_ | refine block_n ?_ | refine block_r ?_ | refine block_x ?_ | refine u_y ?_ | refine loop_r ?_ | refine loop_x ?_ | refine awp_region ?_ | refine awpL_nil ?_ | refine awpQL_nil ?_ | refine awp_block ?_ | refine awp_skip ?_ | refine awp_exit ?_ | refine awp_label ?_ | refine u_dT ?_ | refine u_d ?_ | refine u_l ?_ | refine u_o ?_ | refine u_q ?_ | refine u_lr ?_ | refine u_qr ?_ | refine u_ls ?_ | refine u_qs ?_ | refine u_t ?_ | refine u_f ?_ | refine v_s ?_ | refine v_o ?_ | refine v_on ?_ | refine v_og ?_ | refine v_q ?_ | refine v_sr ?_ | refine v_k ?_ | refine m_nil ?_)
  refine awp_loop (fun k : Nat => k ≤ l.length ∧ ∀ j, j < k → risAt l (b - 1) j = true) (fun k => [(0, .d (ints l)), (1, .d (.int .i64 b)), (7, .d (ints l)), (8, .d (.int .i64 l.length)), (9, .d (.int .i64 k))]) (fun _ => []) (fun k => l.length - k) 0 ⟨by omega, by simp⟩ ?_ rfl ?_
  · ((repeat (first | exact trivial | (refine ⟨?_, ?_⟩; (focus (first | rfl | (simp [lk, argsS, args0]; done) | (simp [lk, argsS, args0]; omega)))))))
  · rintro k ⟨hk, hall⟩
    by_cases hlt : k < l.length
    · have he := el_int hlt
      have e1 : l.getD k 0 = l[k] := getD_get hlt
      have hw : AC Tryz.prog 50 [.int .i64 l[k], .int .i64 0, .int .i64 (b - 1)] (.bool (inB l[k] 0 (b - 1))) := impl_within
      by_cases hin : inB l[k] 0 (b - 1) = true
      · rw [hin] at hw
        by_cases h0 : k = 0
        · subst h0
          have hc : risAt l (b - 1) 0 = true := by unfold risAt; rw [e1, hin]; rfl
          repeat (first | refine awp_seq ?_ | refine then_n ?_ | refine then_r ?_ | refine then_x ?_ | refine block_n ?_ | refine block_r ?_ | refine block_x ?_ | refine u_y ?_ | refine loop_r ?_ | refine loop_x ?_ | refine awp_region ?_ | refine awpL_nil ?_ | refine awpQL_nil ?_ | refine awp_block ?_ | refine awp_skip ?_ | refine awp_exit ?_ | refine awp_label ?_ | refine u_dT ?_ | refine u_d ?_ | ((first | apply c_l | apply c_q | apply c_lr | apply c_qr); (iterate 2 exact rfl); (focus (first | exact hw)); (iterate 2 exact rfl)) | (apply v_c; (iterate 4 exact rfl); (focus (first | exact hw)); (iterate 2 exact rfl)) | refine u_l ?_ | refine u_o ?_ | refine u_q ?_ | refine u_lr ?_ | refine u_qr ?_ | refine u_ls ?_ | refine u_qs ?_ | refine u_t ?_ | refine u_f ?_ | refine v_s ?_ | refine v_o ?_ | refine v_on ?_ | refine v_og ?_ | refine v_q ?_ | refine v_sr ?_ | refine v_k ?_ | refine m_nil ?_)
          refine loop_n 1 ⟨by omega, fun j hj => (by omega : j = 0) ▸ hc⟩ ?_ rfl (by omega)
          ((repeat (first | exact trivial | (refine ⟨?_, ?_⟩; (focus (first | rfl | (simp [lk, argsS, args0]; done) | (simp [lk, argsS, args0]; omega)))))))
        · have e2 : l.getD (k - 1) 0 = l[k - 1] := getD_get (by omega)
          have he2 : (List.map (D.int .i64) l)[((k : Int) - 1).toNat]? = some (.int .i64 l[k - 1]) := by
            have : ((k : Int) - 1).toNat = k - 1 := by omega
            rw [this]
            simp
          by_cases hc : l[k - 1] < l[k]
          · have hc2 : risAt l (b - 1) k = true := by unfold risAt; rw [e1, e2, hin]; simp [hc]
            repeat (first | refine awp_seq ?_ | refine then_n ?_ | refine then_r ?_ | refine then_x ?_ | refine block_n ?_ | refine block_r ?_ | refine block_x ?_ | refine u_y ?_ | refine loop_r ?_ | refine loop_x ?_ | refine awp_region ?_ | refine awpL_nil ?_ | refine awpQL_nil ?_ | refine awp_block ?_ | refine awp_skip ?_ | refine awp_exit ?_ | refine awp_label ?_ | refine u_dT ?_ | refine u_d ?_ | ((first | apply c_l | apply c_q | apply c_lr | apply c_qr); (iterate 2 exact rfl); (focus (first | exact hw)); (iterate 2 exact rfl)) | (apply v_c; (iterate 4 exact rfl); (focus (first | exact hw)); (iterate 2 exact rfl)) | refine u_l ?_ | refine u_o ?_ | refine u_q ?_ | refine u_lr ?_ | refine u_qr ?_ | refine u_ls ?_ | refine u_qs ?_ | refine u_t ?_ | refine u_f ?_ | refine v_s ?_ | refine v_o ?_ | refine v_on ?_ | refine v_og ?_ | refine v_q ?_ | refine v_sr ?_ | refine v_k ?_ | refine m_nil ?_)
            (first | apply awpL_split | apply awpQL_split); (iterate 3 (focus exact rfl))
            · intro hb1
              repeat (first | refine awp_seq ?_ | refine then_n ?_ | refine then_r ?_ | refine then_x ?_ | refine block_n ?_ | refine block_r ?_ | refine block_x ?_ | refine u_y ?_ | refine loop_r ?_ | refine loop_x ?_ | refine awp_region ?_ | refine awpL_nil ?_ | refine awpQL_nil ?_ | refine awp_block ?_ | refine awp_skip ?_ | refine awp_exit ?_ | refine awp_label ?_ | refine u_dT ?_ | refine u_d ?_ | ((first | apply c_l | apply c_q | apply c_lr | apply c_qr); (iterate 2 exact rfl); (focus (first | exact hw)); (iterate 2 exact rfl)) | (apply v_c; (iterate 4 exact rfl); (focus (first | exact hw)); (iterate 2 exact rfl)) | refine u_l ?_ | refine u_o ?_ | refine u_q ?_ | refine u_lr ?_ | refine u_qr ?_ | refine u_ls ?_ | refine u_qs ?_ | refine u_t ?_ | refine u_f ?_ | refine v_s ?_ | refine v_o ?_ | refine v_on ?_ | refine v_og ?_ | refine v_q ?_ | refine v_sr ?_ | refine v_k ?_ | refine m_nil ?_)
              refine loop_n (k + 1) ⟨by omega, fun j hj => ?_⟩ ?_ rfl (by omega)
              · by_cases hj2 : j = k
                · rw [hj2]; exact hc2
                · exact hall j (by omega)
              · ((repeat (first | exact trivial | (refine ⟨?_, ?_⟩; (focus (first | rfl | (simp [lk, argsS, args0]; done) | (simp [lk, argsS, args0]; omega)))))))
            · intro hb1
              simp at hb1
              omega
          · have hc2 : risAt l (b - 1) k = false := by unfold risAt; rw [e1, e2, hin]; simp [hc, h0]
            repeat (first | refine awp_seq ?_ | refine then_n ?_ | refine then_r ?_ | refine then_x ?_ | refine block_n ?_ | refine block_r ?_ | refine block_x ?_ | refine u_y ?_ | refine loop_r ?_ | refine loop_x ?_ | refine awp_region ?_ | refine awpL_nil ?_ | refine awpQL_nil ?_ | refine awp_block ?_ | refine awp_skip ?_ | refine awp_exit ?_ | refine awp_label ?_ | refine u_dT ?_ | refine u_d ?_ | ((first | apply c_l | apply c_q | apply c_lr | apply c_qr); (iterate 2 exact rfl); (focus (first | exact hw)); (iterate 2 exact rfl)) | (apply v_c; (iterate 4 exact rfl); (focus (first | exact hw)); (iterate 2 exact rfl)) | refine u_l ?_ | refine u_o ?_ | refine u_q ?_ | refine u_lr ?_ | refine u_qr ?_ | refine u_ls ?_ | refine u_qs ?_ | refine u_t ?_ | refine u_f ?_ | refine v_s ?_ | refine v_o ?_ | refine v_on ?_ | refine v_og ?_ | refine v_q ?_ | refine v_sr ?_ | refine v_k ?_ | refine m_nil ?_)
            (first | apply awpL_split | apply awpQL_split); (iterate 3 (focus exact rfl))
            · intro hb1
              repeat (first | refine awp_seq ?_ | refine then_n ?_ | refine then_r ?_ | refine then_x ?_ | refine block_n ?_ | refine block_r ?_ | refine block_x ?_ | refine u_y ?_ | refine loop_r ?_ | refine loop_x ?_ | refine awp_region ?_ | refine awpL_nil ?_ | refine awpQL_nil ?_ | refine awp_block ?_ | refine awp_skip ?_ | refine awp_exit ?_ | refine awp_label ?_ | refine u_dT ?_ | refine u_d ?_ | ((first | apply c_l | apply c_q | apply c_lr | apply c_qr); (iterate 2 exact rfl); (focus (first | exact hw)); (iterate 2 exact rfl)) | (apply v_c; (iterate 4 exact rfl); (focus (first | exact hw)); (iterate 2 exact rfl)) | refine u_l ?_ | refine u_o ?_ | refine u_q ?_ | refine u_lr ?_ | refine u_qr ?_ | refine u_ls ?_ | refine u_qs ?_ | refine u_t ?_ | refine u_f ?_ | refine v_s ?_ | refine v_o ?_ | refine v_on ?_ | refine v_og ?_ | refine v_q ?_ | refine v_sr ?_ | refine v_k ?_ | refine m_nil ?_)
              (refine awp_ret ?_; (repeat (first | refine then_r ?_ | refine block_r ?_ | refine loop_r ?_)); apply ret_ok (.inr rfl); (focus exact rfl))
              rw [risB_false hlt hc2]
            · intro hb1
              simp at hb1
              omega
      · have hin' : inB l[k] 0 (b - 1) = false := by simpa using hin
        rw [hin'] at hw
        have hc2 : risAt l (b - 1) k = false := by unfold risAt; rw [e1, hin']; rfl
        repeat (first | refine awp_seq ?_ | refine then_n ?_ | refine then_r ?_ | refine then_x ?_ | refine block_n ?_ | refine block_r ?_ | refine block_x ?_ | refine u_y ?_ | refine loop_r ?_ | refine loop_x ?_ | refine awp_region ?_ | refine awpL_nil ?_ | refine awpQL_nil ?_ | refine awp_block ?_ | refine awp_skip ?_ | refine awp_exit ?_ | refine awp_label ?_ | refine u_dT ?_ | refine u_d ?_ | ((first | apply c_l | apply c_q | apply c_lr | apply c_qr); (iterate 2 exact rfl); (focus (first | exact hw)); (iterate 2 exact rfl)) | (apply v_c; (iterate 4 exact rfl); (focus (first | exact hw)); (iterate 2 exact rfl)) | refine u_l ?_ | refine u_o ?_ | refine u_q ?_ | refine u_lr ?_ | refine u_qr ?_ | refine u_ls ?_ | refine u_qs ?_ | refine u_t ?_ | refine u_f ?_ | refine v_s ?_ | refine v_o ?_ | refine v_on ?_ | refine v_og ?_ | refine v_q ?_ | refine v_sr ?_ | refine v_k ?_ | refine m_nil ?_)
        (refine awp_ret ?_; (repeat (first | refine then_r ?_ | refine block_r ?_ | refine loop_r ?_)); apply ret_ok (.inr rfl); (focus exact rfl))
        rw [risB_false hlt hc2]
    · have : k = l.length := by omega
      subst this
      repeat (first | refine awp_seq ?_ | refine then_n ?_ | refine then_r ?_ | refine then_x ?_ | refine block_n ?_ | refine block_r ?_ | refine block_x ?_ | refine u_y ?_ | refine loop_r ?_ | refine loop_x ?_ | refine awp_region ?_ | refine awpL_nil ?_ | refine awpQL_nil ?_ | refine awp_block ?_ | refine awp_skip ?_ | refine awp_exit ?_ | refine awp_label ?_ | refine u_dT ?_ | refine u_d ?_ | refine u_l ?_ | refine u_o ?_ | refine u_q ?_ | refine u_lr ?_ | refine u_qr ?_ | refine u_ls ?_ | refine u_qs ?_ | refine u_t ?_ | refine u_f ?_ | refine v_s ?_ | refine v_o ?_ | refine v_on ?_ | refine v_og ?_ | refine v_q ?_ | refine v_sr ?_ | refine v_k ?_ | refine m_nil ?_)
      (refine awp_ret ?_; (repeat (first | refine then_r ?_ | refine block_r ?_ | refine loop_r ?_)); apply ret_ok (.inr rfl); (focus exact rfl))
      rw [risB_true hall]
end Go.Proofs.YtffmlijngfhhaaaGreatDoor

/-! Contracts of what is believed of a lit automaton, in the reference. No condition. -/
namespace Go.Proofs.YtffmlijngfhhaaaGreatDoor
open Go
attribute [local irreducible] awp awpL awpQL awpQ awpM pWalk Qt AC thenQ blockQ loopQ OpTo
set_option linter.unusedVariables false
set_option linter.unusedSimpArgs false
set_option maxHeartbeats 2000000
attribute [local irreducible] HC

/-- A number put into a rising list. -/
def insL : List Int → Int → List Int
  | [], n => [n]
  | x :: l, n => if n ≤ x then (if n < x then n :: x :: l else x :: l) else x :: insL l n

theorem mem_insL : ∀ {l : List Int} {n y : Int}, y ∈ insL l n ↔ y = n ∨ y ∈ l
  | [], n, y => by simp [insL]
  | x :: l, n, y => by
    unfold insL
    have ih := @mem_insL l n y
    split
    · split
      · simp
      · have : n = x := by omega
        subst this
        simp
    · simp only [List.mem_cons, ih]
      constructor
      · rintro (h | h | h)
        · exact .inr (.inl h)
        · exact .inl h
        · exact .inr (.inr h)
      · rintro (h | h | h)
        · exact .inr (.inl h)
        · exact .inl h
        · exact .inr (.inr h)
theorem insL_ris : ∀ {l : List Int} {n : Int}, l.Pairwise (· < ·) → (insL l n).Pairwise (· < ·)
  | [], n, _ => by simp [insL]
  | x :: l, n, h => by
    have h' := List.pairwise_cons.1 h
    unfold insL
    split
    · split
      · refine List.pairwise_cons.2 ⟨fun y hy => ?_, h⟩
        rcases List.mem_cons.1 hy with e | e
        · omega
        · have := h'.1 y e; omega
      · exact h
    · refine List.pairwise_cons.2 ⟨fun y hy => ?_, insL_ris h'.2⟩
      rcases mem_insL.1 hy with e | e
      · omega
      · exact h'.1 y e

def imgL (nx : List (List Int)) (l w : List Int) : List Int := l.foldl (fun o q => insL o (runS nx q w)) []
theorem imgL_spec (nx : List (List Int)) (l w : List Int) : (imgL nx l w).Pairwise (· < ·) ∧ ∀ y, y ∈ imgL nx l w ↔ ∃ q ∈ l, y = runS nx q w := by
  have key : ∀ (l o : List Int), o.Pairwise (· < ·) → (l.foldl (fun o q => insL o (runS nx q w)) o).Pairwise (· < ·) ∧ ∀ y, y ∈ l.foldl (fun o q => insL o (runS nx q w)) o ↔ y ∈ o ∨ ∃ q ∈ l, y = runS nx q w := by
    intro l
    induction l with
    | nil => intro o ho; exact ⟨ho, by simp⟩
    | cons x l ih =>
      intro o ho
      obtain ⟨h1, h2⟩ := ih _ (insL_ris (n := runS nx x w) ho)
      refine ⟨h1, fun y => ?_⟩
      simp only [List.foldl_cons]
      rw [h2, mem_insL]
      constructor
      · rintro ((h | h) | ⟨q, hq, e⟩)
        · exact .inr ⟨x, List.mem_cons_self .., h⟩
        · exact .inl h
        · exact .inr ⟨q, List.mem_cons_of_mem _ hq, e⟩
      · rintro (h | ⟨q, hq, e⟩)
        · exact .inl (.inr h)
        · rcases List.mem_cons.1 hq with e2 | hq
          · subst e2; exact .inl (.inl e)
          · exact .inr ⟨q, hq, e⟩
  obtain ⟨h1, h2⟩ := key l [] List.Pairwise.nil
  exact ⟨h1, fun y => (h2 y).trans (by simp)⟩

end Go.Proofs.YtffmlijngfhhaaaGreatDoor

/-! Believed, in the reference and in the program. No condition. -/
namespace Go.Proofs.YtffmlijngfhhaaaGreatDoor
open Go
attribute [local irreducible] awp awpL awpQL awpQ awpM pWalk Qt AC thenQ blockQ loopQ OpTo
set_option linter.unusedVariables false
set_option linter.unusedSimpArgs false
set_option maxHeartbeats 2000000
attribute [local irreducible] HC

end Go.Proofs.YtffmlijngfhhaaaGreatDoor
