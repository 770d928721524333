/- The program's ReadWord and ReadSuite with rows of their own. No condition but bounds. -/
import Derived.Test.YtfondjnjdcijaaaDoorRx
import Derived.Test.YtfondjnjdcijaaaDoorTx
import Derived.Test.YtfondjnjdcijaaaDoorMa
namespace Go.Proofs.YtfondjnjdcijaaaDoor
open Go
attribute [local irreducible] awp awpL awpQL awpQ awpM pWalk Qt AC thenQ blockQ loopQ OpTo
set_option linter.unusedVariables false
set_option linter.unusedSimpArgs false
set_option maxHeartbeats 2000000
attribute [local irreducible] HC

theorem impl_ReadWordH {l : List UInt8} {w : List Int} (hl : l.length ≤ 1048576) (hs : rwS l = some w) : HC Tryd.prog 25 [.d (.str l)] [] (.tup [.own 30000, .d (.int .i64 0)]) [(30000, .arr 2 1 (w.map (.int .i64)))] := by
  have hw := rwS_eq hs
  subst hw
  obtain ⟨hx, hn⟩ := rwS_wtx hs
  have hdn : decide (l = []) = false := decide_eq_false hn
  by_cases h45 : l = [45]
  · subst h45
    have e1 := impl_WordText (w := []) (by simp)
    have hx : wtx [] = [45] := by decide
    rw [hx] at e1
    have hr : rwd [45] = [] := by decide
    rw [hr]
    refine hc_intro tabIs _ Tryd.func25 rfl rfl Tryd.ntmps25 rfl rfl rfl ?_ fun w0 ok0 XM XA anc => ?_
    · exact likeIn_nil
    repeat (first | refine v_w (t := 6) ?_ | refine awp_seq ?_ | refine then_n ?_ | refine then_r ?_ | refine then_x ?_ | refine block_n ?_ | refine block_r ?_ | refine block_x ?_ | refine u_y ?_ | refine loop_r ?_ | refine loop_x ?_ | refine awp_region ?_ | refine awpL_nil ?_ | refine awpQL_nil ?_ | refine awp_block ?_ | refine awp_skip ?_ | refine awp_exit ?_ | refine awp_label ?_ | refine u_dT ?_ | refine u_d ?_ | refine u_w (t := 6) ?_ | refine u_l ?_ | refine u_o ?_ | refine u_q ?_ | refine u_lr ?_ | refine u_qr ?_ | refine u_ls ?_ | refine u_qs ?_ | refine u_t ?_ | refine u_f ?_ | refine v_s ?_ | refine v_o ?_ | refine v_on ?_ | refine v_og ?_ | refine v_q ?_ | refine v_sr ?_ | refine v_k ?_ | refine m_nil ?_)
    refine awp_loop (fun i : Nat => i ≤ 1) (fun i => [(0, .d (.str [45])), (4, .own 6), (8, .d (.int .i64 1)), (9, .d (.int .i64 i))]) (fun i => [(6, .arr 2 1 [])]) (fun i => 1 - i) 0 (by omega) ?_ rfl ?_
    · ((repeat (first | exact trivial | (refine ⟨?_, ?_⟩; (focus (first | rfl | (simp [lk, argsS, args0]; done) | (simp [lk, argsS, args0]; omega)))))))
    · intro i hi
      by_cases hlt : i < 1
      · repeat (first | refine awp_seq ?_ | refine then_n ?_ | refine then_r ?_ | refine then_x ?_ | refine block_n ?_ | refine block_r ?_ | refine block_x ?_ | refine u_y ?_ | refine loop_r ?_ | refine loop_x ?_ | refine awp_region ?_ | refine awpL_nil ?_ | refine awpQL_nil ?_ | refine awp_block ?_ | refine awp_skip ?_ | refine awp_exit ?_ | refine awp_label ?_ | refine u_dT ?_ | refine u_d ?_ | refine u_l ?_ | refine u_o ?_ | refine u_q ?_ | refine u_lr ?_ | refine u_qr ?_ | refine u_ls ?_ | refine u_qs ?_ | refine u_t ?_ | refine u_f ?_ | refine v_s ?_ | refine v_o ?_ | refine v_on ?_ | refine v_og ?_ | refine v_q ?_ | refine v_sr ?_ | refine v_k ?_ | refine m_nil ?_)
        refine loop_n (i + 1) (by omega) ?_ rfl (by omega)
        ((repeat (first | exact trivial | (refine ⟨?_, ?_⟩; (focus (first | rfl | (simp [lk, argsS, args0]; done) | (simp [lk, argsS, args0]; omega)))))))
      · have hie : i = 1 := by omega
        subst hie
        repeat (first | refine awp_seq ?_ | refine then_n ?_ | refine then_r ?_ | refine then_x ?_ | refine block_n ?_ | refine block_r ?_ | refine block_x ?_ | refine u_y ?_ | refine loop_r ?_ | refine loop_x ?_ | refine awp_region ?_ | refine awpL_nil ?_ | refine awpQL_nil ?_ | refine awp_block ?_ | refine awp_skip ?_ | refine awp_exit ?_ | refine awp_label ?_ | refine u_dT ?_ | refine u_d ?_ | ((first | apply c_l | apply c_q | apply c_lr | apply c_qr); (iterate 2 exact rfl); (focus (first | exact e1)); (iterate 2 exact rfl)) | (apply v_c; (iterate 4 exact rfl); (focus (first | exact e1)); (iterate 2 exact rfl)) | refine u_l ?_ | refine u_o ?_ | refine u_q ?_ | refine u_lr ?_ | refine u_qr ?_ | refine u_ls ?_ | refine u_qs ?_ | refine u_t ?_ | refine u_f ?_ | refine v_s ?_ | refine v_o ?_ | refine v_on ?_ | refine v_og ?_ | refine v_q ?_ | refine v_sr ?_ | refine v_k ?_ | refine m_nil ?_ | refine u_glt ?_ | refine u_glf ?_ | refine u_gqt ?_ | refine u_gqf ?_)
        (refine awp_ret ?_; (repeat (first | refine then_r ?_ | refine block_r ?_ | refine loop_r ?_)); refine u_rH [(6, 30000)] ?_ ?_)
        · rfl
        · rfl
  · have hd45 : decide (l = [45]) = false := decide_eq_false h45
    have hrd : rwd l = l.map chI := by unfold rwd; rw [if_neg h45]
    refine hc_intro tabIs _ Tryd.func25 rfl rfl Tryd.ntmps25 rfl rfl rfl ?_ fun w0 ok0 XM XA anc => ?_
    · exact likeIn_nil
    repeat (first | refine v_w (t := 6) ?_ | refine awp_seq ?_ | refine then_n ?_ | refine then_r ?_ | refine then_x ?_ | refine block_n ?_ | refine block_r ?_ | refine block_x ?_ | refine u_y ?_ | refine loop_r ?_ | refine loop_x ?_ | refine awp_region ?_ | refine awpL_nil ?_ | refine awpQL_nil ?_ | refine awp_block ?_ | refine awp_skip ?_ | refine awp_exit ?_ | refine awp_label ?_ | refine u_dT ?_ | refine u_d ?_ | refine u_w (t := 6) ?_ | refine u_l ?_ | refine u_o ?_ | refine u_q ?_ | refine u_lr ?_ | refine u_qr ?_ | refine u_ls ?_ | refine u_qs ?_ | refine u_t ?_ | refine u_f ?_ | refine v_s ?_ | refine v_o ?_ | refine v_on ?_ | refine v_og ?_ | refine v_q ?_ | refine v_sr ?_ | refine v_k ?_ | refine m_nil ?_)
    refine awp_loop (fun i : Nat => i ≤ l.length) (fun i => [(0, .d (.str l)), (4, .own 6), (8, .d (.int .i64 l.length)), (9, .d (.int .i64 i))]) (fun i => [(6, .arr 2 1 (((l.take i).map chI).map (.int .i64)))]) (fun i => l.length - i) 0 (by omega) ?_ rfl ?_
    · ((repeat (first | exact trivial | (refine ⟨?_, ?_⟩; (focus (first | rfl | (simp [lk, argsS, args0]; done) | (simp [lk, argsS, args0]; omega)))))))
    · intro i hi
      by_cases hlt : i < l.length
      · have hc : l[((i : Nat) : Int).toNat]? = some l[i] := by simp [hlt]
        have hst := List.take_succ_eq_append_getElem hlt
        have hlt2 := UInt8.toNat_lt l[i]
        have hw2 := i64_wrapW (n := (l[i].toNat : Int)) (by omega)
        generalize l[i] = c at *
        repeat (first | refine awp_seq ?_ | refine then_n ?_ | refine then_r ?_ | refine then_x ?_ | refine block_n ?_ | refine block_r ?_ | refine block_x ?_ | refine u_y ?_ | refine loop_r ?_ | refine loop_x ?_ | refine awp_region ?_ | refine awpL_nil ?_ | refine awpQL_nil ?_ | refine awp_block ?_ | refine awp_skip ?_ | refine awp_exit ?_ | refine awp_label ?_ | refine u_dT ?_ | refine u_d ?_ | ((first | apply x_l | apply x_q | apply x_lr | apply x_qr); (focus (first | (apply qa_strIndex; (iterate 6 (focus (first | exact rfl | (first | assumption | omega | (simp; omega) | (simp; done) | rfl))))))); exact rfl) | (apply v_x; (iterate 2 exact rfl); (focus (intro ok0 nw hle; (first | (apply qa_strIndex; (iterate 6 (focus (first | exact rfl | (first | assumption | omega | (simp; omega) | (simp; done) | rfl)))))))); (iterate 2 exact rfl)) | refine u_l ?_ | refine u_o ?_ | refine u_q ?_ | refine u_lr ?_ | refine u_qr ?_ | refine u_ls ?_ | refine u_qs ?_ | refine u_t ?_ | refine u_f ?_ | refine v_s ?_ | refine v_o ?_ | refine v_on ?_ | refine v_og ?_ | refine v_q ?_ | refine v_sr ?_ | refine v_k ?_ | refine m_nil ?_ | refine u_glt ?_ | refine u_glf ?_ | refine u_gqt ?_ | refine u_gqf ?_)
        refine loop_n (i + 1) (by omega) ?_ ?_ (by omega)
        · ((repeat (first | exact trivial | (refine ⟨?_, ?_⟩; (focus (first | rfl | (simp [lk, argsS, args0]; done) | (simp [lk, argsS, args0]; omega)))))))
        · rw [hst, List.map_append, List.map_append]
          refine congrArg (fun d => [(6, Chunk.arr 2 1 ((((l.take i).map chI).map (D.int .i64)) ++ [d]))]) ?_
          simp [hw2, chI]
      · have hie : i = l.length := by omega
        subst hie
        rw [List.take_length]
        have e1 := impl_WordText (w := l.map chI) (by simpa using hl)
        rw [← hrd] at e1 ⊢
        rw [hx] at e1
        generalize rwd l = rw at *
        repeat (first | refine awp_seq ?_ | refine then_n ?_ | refine then_r ?_ | refine then_x ?_ | refine block_n ?_ | refine block_r ?_ | refine block_x ?_ | refine u_y ?_ | refine loop_r ?_ | refine loop_x ?_ | refine awp_region ?_ | refine awpL_nil ?_ | refine awpQL_nil ?_ | refine awp_block ?_ | refine awp_skip ?_ | refine awp_exit ?_ | refine awp_label ?_ | refine u_dT ?_ | refine u_d ?_ | ((first | apply c_l | apply c_q | apply c_lr | apply c_qr); (iterate 2 exact rfl); (focus (first | exact e1)); (iterate 2 exact rfl)) | (apply v_c; (iterate 4 exact rfl); (focus (first | exact e1)); (iterate 2 exact rfl)) | refine u_l ?_ | refine u_o ?_ | refine u_q ?_ | refine u_lr ?_ | refine u_qr ?_ | refine u_ls ?_ | refine u_qs ?_ | refine u_t ?_ | refine u_f ?_ | refine v_s ?_ | refine v_o ?_ | refine v_on ?_ | refine v_og ?_ | refine v_q ?_ | refine v_sr ?_ | refine v_k ?_ | refine m_nil ?_ | refine u_glt ?_ | refine u_glf ?_ | refine u_gqt ?_ | refine u_gqf ?_)
        (refine awp_ret ?_; (repeat (first | refine then_r ?_ | refine block_r ?_ | refine loop_r ?_)); refine u_rH [(6, 30000)] ?_ ?_)
        · rfl
        · rfl
/-! ### Suites, plain -/
def iniL (l : List UInt8) : List (List UInt8) := (lns l).dropLast
def lasL (l : List UInt8) : List UInt8 := (lns l).getLast (lns_ne l)
def wsS (l : List UInt8) : List (List Int) := (iniL l).map rwd
def rsOk (l : List UInt8) : Bool := decide (l.length ≤ 20000) && ((iniL l).all fun p => (rwS p).isSome) && decide ((iniL l).length ≤ 400) && decide (lasL l = [])
def rsC (l : List UInt8) : Int := if 20000 < l.length then 2 else if rsOk l then 0 else 5
def rsW (l : List UInt8) : List (List Int) := if rsOk l then wsS l else []
theorem lns_split (l : List UInt8) : lns l = iniL l ++ [lasL l] := (List.dropLast_concat_getLast (lns_ne l)).symm
theorem lns_text (l : List UInt8) : ((iniL l).flatMap fun p => p ++ [10]) ++ lasL l = l := lns_join l _ _ (lns_split l)
theorem lns_memLen {l p : List UInt8} (h : p ∈ lns l) : p.length ≤ l.length := by
  have h1 := congrArg List.length (lns_text l)
  rw [List.length_append] at h1
  rw [lns_split, List.mem_append] at h
  rcases h with h | h
  · have : p.length ≤ ((iniL l).flatMap fun p => p ++ [10]).length := by
      generalize iniL l = L at h
      clear h1
      induction L with
      | nil => cases h
      | cons q L ih =>
        simp only [List.flatMap_cons, List.length_append]
        rcases List.mem_cons.1 h with rfl | h
        · omega
        · have := ih h; omega
    omega
  · simp at h
    subst h
    omega
theorem wsS_text {l : List UInt8} (h : ∀ p ∈ iniL l, (rwS p).isSome = true) : (∀ w ∈ wsS l, wtx w ≠ []) ∧ ((wsS l).flatMap fun w => wtx w ++ [10]) = (iniL l).flatMap fun p => p ++ [10] := by
  have hp : ∀ p ∈ iniL l, wtx (rwd p) = p ∧ p ≠ [] := fun p hp => by
    obtain ⟨w, hw⟩ := Option.isSome_iff_exists.1 (h p hp)
    have := rwS_wtx hw
    rwa [rwS_eq hw] at this
  unfold wsS
  generalize iniL l = L at hp
  clear h
  induction L with
  | nil => exact ⟨fun w h => (by cases h), rfl⟩
  | cons q L ih =>
    obtain ⟨i1, i2⟩ := ih fun p h => hp p (by simp [h])
    obtain ⟨q1, q2⟩ := hp q (by simp)
    refine ⟨fun w hw => ?_, ?_⟩
    · rcases List.mem_cons.1 hw with rfl | hw
      · rw [q1]; exact q2
      · exact i1 w hw
    · simp only [List.map_cons, List.flatMap_cons] at i2 ⊢
      rw [i2, q1]
theorem stx_text {l : List UInt8} (h : ∀ p ∈ iniL l, (rwS p).isSome = true) : stx (wsS l) = l ↔ (iniL l).length ≤ 400 ∧ lasL l = [] := by
  obtain ⟨h1, h2⟩ := wsS_text h
  have h3 := lns_text l
  have h4 : (wsS l).length = (iniL l).length := by simp [wsS]
  unfold stx
  by_cases hb : (iniL l).length ≤ 400
  · rw [if_pos ⟨h1, by omega⟩, h2]
    constructor
    · intro e
      refine ⟨hb, ?_⟩
      rw [e] at h3
      have := congrArg List.length h3
      rw [List.length_append] at this
      exact List.length_eq_zero_iff.1 (by omega)
    · rintro ⟨_, e⟩
      rw [e, List.append_nil] at h3
      exact h3
  · rw [if_neg (fun e => hb (by omega))]
    constructor
    · intro e
      have h5 := List.append_eq_nil_iff.1 (h3.trans e.symm)
      cases hi : iniL l with
      | nil => rw [hi] at hb; simp at hb
      | cons p r => rw [hi] at h5; simp at h5
    · rintro ⟨e, _⟩; exact absurd e hb

theorem elsStr (L : List (List UInt8)) : elsOk 1 (L.map D.str) = true := by
  induction L with
  | nil => rfl
  | cons p L ih => simpa [elsOk, D.el, D.one, D.width] using ih
end Go.Proofs.YtfondjnjdcijaaaDoor
