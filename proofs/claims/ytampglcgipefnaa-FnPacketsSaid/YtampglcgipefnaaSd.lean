/- Contracts of what is believed of a lit automaton, in the reference. No condition. -/
import Derived.Test.YtampglcgipefnaaSc
namespace Go.Proofs.Ytampglcgipefnaa
open Go
attribute [local irreducible] awp awpL awpQL awpQ awpM pWalk Qt AC thenQ blockQ loopQ OpTo
set_option linter.unusedVariables false
set_option linter.unusedSimpArgs false
set_option maxHeartbeats 2000000
attribute [local irreducible] HC

/-- A number put into a rising list. -/
def insL : List Int → Int → List Int
  | [], n => [n]
  | x :: l, n => if n ≤ x then (if n < x then n :: x :: l else x :: l) else x :: insL l n

theorem insL_nil (n : Int) : insL [] n = [n] := rfl
theorem insL_cons (x : Int) (l : List Int) (n : Int) : insL (x :: l) n = if n ≤ x then (if n < x then n :: x :: l else x :: l) else x :: insL l n := rfl
theorem insL_length : ∀ (l : List Int) (n : Int), (insL l n).length ≤ l.length + 1
  | [], n => by simp [insL]
  | x :: l, n => by
    unfold insL
    have := insL_length l n
    split
    · split <;> simp
    · simp; omega
theorem mem_insL : ∀ {l : List Int} {n y : Int}, y ∈ insL l n ↔ y = n ∨ y ∈ l
  | [], n, y => by simp [insL]
  | x :: l, n, y => by
    unfold insL
    have ih := @mem_insL l n y
    split
    · split
      · simp
      · have : n = x := by omega
        subst this
        simp
    · simp only [List.mem_cons, ih]
      constructor
      · rintro (h | h | h)
        · exact .inr (.inl h)
        · exact .inl h
        · exact .inr (.inr h)
      · rintro (h | h | h)
        · exact .inr (.inl h)
        · exact .inl h
        · exact .inr (.inr h)
theorem insL_ris : ∀ {l : List Int} {n : Int}, l.Pairwise (· < ·) → (insL l n).Pairwise (· < ·)
  | [], n, _ => by simp [insL]
  | x :: l, n, h => by
    have h' := List.pairwise_cons.1 h
    unfold insL
    split
    · split
      · refine List.pairwise_cons.2 ⟨fun y hy => ?_, h⟩
        rcases List.mem_cons.1 hy with e | e
        · omega
        · have := h'.1 y e; omega
      · exact h
    · refine List.pairwise_cons.2 ⟨fun y hy => ?_, insL_ris h'.2⟩
      rcases mem_insL.1 hy with e | e
      · omega
      · exact h'.1 y e

theorem drop_cons {l : List Int} {k : Nat} (h : k < l.length) : l.drop k = l[k] :: l.drop (k + 1) := List.drop_eq_getElem_cons h

theorem spec_l00Put {l : List Int} {n : Int} (hn : l.length ≤ 1048576) : AC Try.prog 122 [ints l, .int .i64 n] (ints (insL l n)) := by
  have hle : (List.map (D.int IntKind.i64) l).length = l.length := by simp
  refine ac_intro tabIs _ Try.func122 rfl rfl Try.ntmps122 rfl rfl fun w0 ok0 => ?_
  repeat (first | refine v_w (t := 8) ?_ | refine awp_seq ?_ | refine then_n ?_ | refine then_r ?_ | refine then_x ?_ | refine block_n ?_ | refine block_r ?_ | refine block_x ?_ | refine u_y ?_ | refine loop_r ?_ | refine loop_x ?_ | refine awp_region ?_ | refine awpL_nil ?_ | refine awpQL_nil ?_ | refine awp_block ?_ | refine awp_skip ?_ | refine awp_exit ?_ | refine awp_label ?_ | refine u_dT ?_ | refine u_d ?_ | refine u_w (t := 8) ?_ | refine u_l ?_ | refine u_o ?_ | refine u_q ?_ | refine u_lr ?_ | refine u_qr ?_ | refine u_ls ?_ | refine u_qs ?_ | refine u_t ?_ | refine u_f ?_ | refine v_s ?_ | refine v_o ?_ | refine v_on ?_ | refine v_og ?_ | refine v_q ?_ | refine v_sr ?_ | refine v_k ?_ | refine m_nil ?_)
  refine awp_loop (fun p : Nat × Bool × List Int => p.1 ≤ l.length ∧ p.2.2.length ≤ p.1 + (if p.2.1 then 1 else 0) ∧ p.2.2 ++ (if p.2.1 then l.drop p.1 else insL (l.drop p.1) n) = insL l n)
    (fun p => [(0, .d (ints l)), (1, .d (.int .i64 n)), (5, .own 8), (6, .d (.bool p.2.1)), (7, .d (.int .i64 p.1))]) (fun p => [(8, .arr 2 1 (p.2.2.map (.int .i64)))]) (fun p => l.length - p.1) (0, false, []) ⟨by simp, by simp, by simp⟩ ?_ rfl ?_
  · ((repeat (first | exact trivial | (refine ⟨?_, ?_⟩; (focus (first | rfl | (simp [lk, argsS, args0]; done) | (simp [lk, argsS, args0]; omega)))))))
  · rintro ⟨k, done, acc⟩ ⟨hk, hac, hg⟩
    dsimp only at hk hac hg
    have hal : (List.map (D.int .i64) acc).length = acc.length := by simp
    by_cases hlt : k < l.length
    · have hx := el_int hlt
      have hd := drop_cons hlt
      cases done
      · rw [if_neg (by simp)] at hac
        rw [if_neg (by simp), hd, insL_cons] at hg
        by_cases h1 : n ≤ l[k]
        · rw [if_pos h1] at hg
          by_cases h2 : n < l[k]
          · rw [if_pos h2] at hg
            repeat (first | refine awp_seq ?_ | refine then_n ?_ | refine then_r ?_ | refine then_x ?_ | refine block_n ?_ | refine block_r ?_ | refine block_x ?_ | refine u_y ?_ | refine loop_r ?_ | refine loop_x ?_ | refine awp_region ?_ | refine awpL_nil ?_ | refine awpQL_nil ?_ | refine awp_block ?_ | refine awp_skip ?_ | refine awp_exit ?_ | refine awp_label ?_ | refine u_dT ?_ | refine u_d ?_ | refine u_l ?_ | refine u_o ?_ | refine u_q ?_ | refine u_lr ?_ | refine u_qr ?_ | refine u_ls ?_ | refine u_qs ?_ | refine u_t ?_ | refine u_f ?_ | refine v_s ?_ | refine v_o ?_ | refine v_on ?_ | refine v_og ?_ | refine v_q ?_ | refine v_sr ?_ | refine v_k ?_ | refine m_nil ?_)
            refine loop_n (k + 1, true, acc ++ [n, l[k]]) ⟨by dsimp only; omega, ?_, ?_⟩ ?_ ?_ (by dsimp only; omega)
            · simp; omega
            · dsimp only; rw [if_pos rfl]; simpa using hg
            · ((repeat (first | exact trivial | (refine ⟨?_, ?_⟩; (focus (first | rfl | (simp [lk, argsS, args0]; done) | (simp [lk, argsS, args0]; omega)))))))
            · simp [killH, keepH, memB]
          · rw [if_neg h2] at hg
            repeat (first | refine awp_seq ?_ | refine then_n ?_ | refine then_r ?_ | refine then_x ?_ | refine block_n ?_ | refine block_r ?_ | refine block_x ?_ | refine u_y ?_ | refine loop_r ?_ | refine loop_x ?_ | refine awp_region ?_ | refine awpL_nil ?_ | refine awpQL_nil ?_ | refine awp_block ?_ | refine awp_skip ?_ | refine awp_exit ?_ | refine awp_label ?_ | refine u_dT ?_ | refine u_d ?_ | refine u_l ?_ | refine u_o ?_ | refine u_q ?_ | refine u_lr ?_ | refine u_qr ?_ | refine u_ls ?_ | refine u_qs ?_ | refine u_t ?_ | refine u_f ?_ | refine v_s ?_ | refine v_o ?_ | refine v_on ?_ | refine v_og ?_ | refine v_q ?_ | refine v_sr ?_ | refine v_k ?_ | refine m_nil ?_)
            refine loop_n (k + 1, true, acc ++ [l[k]]) ⟨by dsimp only; omega, ?_, ?_⟩ ?_ ?_ (by dsimp only; omega)
            · simp; omega
            · dsimp only; rw [if_pos rfl]; simpa using hg
            · ((repeat (first | exact trivial | (refine ⟨?_, ?_⟩; (focus (first | rfl | (simp [lk, argsS, args0]; done) | (simp [lk, argsS, args0]; omega)))))))
            · simp [killH, keepH, memB]
        · rw [if_neg h1] at hg
          repeat (first | refine awp_seq ?_ | refine then_n ?_ | refine then_r ?_ | refine then_x ?_ | refine block_n ?_ | refine block_r ?_ | refine block_x ?_ | refine u_y ?_ | refine loop_r ?_ | refine loop_x ?_ | refine awp_region ?_ | refine awpL_nil ?_ | refine awpQL_nil ?_ | refine awp_block ?_ | refine awp_skip ?_ | refine awp_exit ?_ | refine awp_label ?_ | refine u_dT ?_ | refine u_d ?_ | refine u_l ?_ | refine u_o ?_ | refine u_q ?_ | refine u_lr ?_ | refine u_qr ?_ | refine u_ls ?_ | refine u_qs ?_ | refine u_t ?_ | refine u_f ?_ | refine v_s ?_ | refine v_o ?_ | refine v_on ?_ | refine v_og ?_ | refine v_q ?_ | refine v_sr ?_ | refine v_k ?_ | refine m_nil ?_)
          refine loop_n (k + 1, false, acc ++ [l[k]]) ⟨by dsimp only; omega, ?_, ?_⟩ ?_ ?_ (by dsimp only; omega)
          · simp; omega
          · dsimp only; rw [if_neg (by simp)]; simpa using hg
          · ((repeat (first | exact trivial | (refine ⟨?_, ?_⟩; (focus (first | rfl | (simp [lk, argsS, args0]; done) | (simp [lk, argsS, args0]; omega)))))))
          · simp [killH, keepH, memB]
      · rw [if_pos rfl] at hac
        rw [if_pos rfl, hd] at hg
        repeat (first | refine awp_seq ?_ | refine then_n ?_ | refine then_r ?_ | refine then_x ?_ | refine block_n ?_ | refine block_r ?_ | refine block_x ?_ | refine u_y ?_ | refine loop_r ?_ | refine loop_x ?_ | refine awp_region ?_ | refine awpL_nil ?_ | refine awpQL_nil ?_ | refine awp_block ?_ | refine awp_skip ?_ | refine awp_exit ?_ | refine awp_label ?_ | refine u_dT ?_ | refine u_d ?_ | refine u_l ?_ | refine u_o ?_ | refine u_q ?_ | refine u_lr ?_ | refine u_qr ?_ | refine u_ls ?_ | refine u_qs ?_ | refine u_t ?_ | refine u_f ?_ | refine v_s ?_ | refine v_o ?_ | refine v_on ?_ | refine v_og ?_ | refine v_q ?_ | refine v_sr ?_ | refine v_k ?_ | refine m_nil ?_)
        refine loop_n (k + 1, true, acc ++ [l[k]]) ⟨by dsimp only; omega, ?_, ?_⟩ ?_ ?_ (by dsimp only; omega)
        · simp; omega
        · dsimp only; rw [if_pos rfl]; simpa using hg
        · ((repeat (first | exact trivial | (refine ⟨?_, ?_⟩; (focus (first | rfl | (simp [lk, argsS, args0]; done) | (simp [lk, argsS, args0]; omega)))))))
        · simp [killH, keepH, memB]
    · have : k = l.length := by omega
      subst this
      rw [List.drop_length] at hg
      cases done
      · rw [if_neg (by simp)] at hac
        rw [if_neg (by simp), insL_nil] at hg
        repeat (first | refine awp_seq ?_ | refine then_n ?_ | refine then_r ?_ | refine then_x ?_ | refine block_n ?_ | refine block_r ?_ | refine block_x ?_ | refine u_y ?_ | refine loop_r ?_ | refine loop_x ?_ | refine awp_region ?_ | refine awpL_nil ?_ | refine awpQL_nil ?_ | refine awp_block ?_ | refine awp_skip ?_ | refine awp_exit ?_ | refine awp_label ?_ | refine u_dT ?_ | refine u_d ?_ | refine u_l ?_ | refine u_o ?_ | refine u_q ?_ | refine u_lr ?_ | refine u_qr ?_ | refine u_ls ?_ | refine u_qs ?_ | refine u_t ?_ | refine u_f ?_ | refine v_s ?_ | refine v_o ?_ | refine v_on ?_ | refine v_og ?_ | refine v_q ?_ | refine v_sr ?_ | refine v_k ?_ | refine m_nil ?_)
        (refine awp_ret ?_; (repeat (first | refine then_r ?_ | refine block_r ?_ | refine loop_r ?_)); apply ret_ok (.inr rfl); (focus exact rfl))
        rw [← hg]
        simp [ints]
      · rw [if_pos rfl] at hac
        rw [if_pos rfl, List.append_nil] at hg
        repeat (first | refine awp_seq ?_ | refine then_n ?_ | refine then_r ?_ | refine then_x ?_ | refine block_n ?_ | refine block_r ?_ | refine block_x ?_ | refine u_y ?_ | refine loop_r ?_ | refine loop_x ?_ | refine awp_region ?_ | refine awpL_nil ?_ | refine awpQL_nil ?_ | refine awp_block ?_ | refine awp_skip ?_ | refine awp_exit ?_ | refine awp_label ?_ | refine u_dT ?_ | refine u_d ?_ | refine u_l ?_ | refine u_o ?_ | refine u_q ?_ | refine u_lr ?_ | refine u_qr ?_ | refine u_ls ?_ | refine u_qs ?_ | refine u_t ?_ | refine u_f ?_ | refine v_s ?_ | refine v_o ?_ | refine v_on ?_ | refine v_og ?_ | refine v_q ?_ | refine v_sr ?_ | refine v_k ?_ | refine m_nil ?_)
        (refine awp_ret ?_; (repeat (first | refine then_r ?_ | refine block_r ?_ | refine loop_r ?_)); apply ret_ok (.inr rfl); (focus exact rfl))
        rw [← hg]
        rfl

theorem spec_l01To {s q0 : Int} {nx : List (List Int)} {lp w : List Int} (v : LV s nx lp) (hq0 : 0 ≤ q0 ∧ q0 < s) (hwl : w.length ≤ 400) (hwa : ∀ l ∈ w, 0 ≤ l ∧ l < nx.length) :
    AC Try.prog 123 [.ptr (.agg [.int .i64 s, rows nx]), .int .i64 q0, ints w] (.int .i64 (runS nx q0 w)) := by
  have hle : (List.map (D.int IntKind.i64) w).length = w.length := by simp
  refine ac_intro tabIs _ Try.func123 rfl rfl Try.ntmps123 rfl rfl fun w0 ok0 => ?_
  repeat (first | refine awp_seq ?_ | refine then_n ?_ | refine then_r ?_ | refine then_x ?_ | refine block_n ?_ | refine block_r ?_ | refine block_x ?_ | refine u_y ?_ | refine loop_r ?_ | refine loop_x ?_ | refine awp_region ?_ | refine awpL_nil ?_ | refine awpQL_nil ?_ | refine awp_block ?_ | refine awp_skip ?_ | refine awp_exit ?_ | refine awp_label ?_ | refine u_dT ?_ | refine u_d ?_ | refine u_l ?_ | refine u_o ?_ | refine u_q ?_ | refine u_lr ?_ | refine u_qr ?_ | refine u_ls ?_ | refine u_qs ?_ | refine u_t ?_ | refine u_f ?_ | refine v_s ?_ | refine v_o ?_ | refine v_on ?_ | refine v_og ?_ | refine v_q ?_ | refine v_sr ?_ | refine v_k ?_ | refine m_nil ?_)
  refine awp_loop (fun p : Nat × Int => p.1 ≤ w.length ∧ (0 ≤ p.2 ∧ p.2 < s) ∧ runS nx p.2 (w.drop p.1) = runS nx q0 w)
    (fun p => [(0, .d (.ptr (.agg [.int .i64 s, rows nx]))), (1, .d (.int .i64 p.2)), (2, .d (ints w)), (7, .d (.int .i64 p.1))]) (fun _ => []) (fun p => w.length - p.1) (0, q0) ⟨by simp, hq0, rfl⟩ ?_ rfl ?_
  · ((repeat (first | exact trivial | (refine ⟨?_, ?_⟩; (focus (first | rfl | (simp [lk, argsS, args0]; done) | (simp [lk, argsS, args0]; omega)))))))
  · rintro ⟨k, a⟩ ⟨hk, ha, hg⟩
    dsimp only at hk ha hg
    by_cases hlt : k < w.length
    · have hx := el_int hlt
      have hl := hwa _ (List.getElem_mem hlt)
      have r1 := el_row2 hl
      have l1 := tbl_row v.nx hl
      have q1 : (List.map (D.int .i64) (row nx w[k]))[a.toNat]? = some (.int .i64 (at2 nx w[k] a)) := el_int2 (ns := row nx w[k]) (q := a) (by omega)
      have p1 := tbl_at v.nx hl ha
      rw [drop_cons hlt] at hg
      simp only [runS] at hg
      repeat (first | refine awp_seq ?_ | refine then_n ?_ | refine then_r ?_ | refine then_x ?_ | refine block_n ?_ | refine block_r ?_ | refine block_x ?_ | refine u_y ?_ | refine loop_r ?_ | refine loop_x ?_ | refine awp_region ?_ | refine awpL_nil ?_ | refine awpQL_nil ?_ | refine awp_block ?_ | refine awp_skip ?_ | refine awp_exit ?_ | refine awp_label ?_ | refine u_dT ?_ | refine u_d ?_ | refine u_l ?_ | refine u_o ?_ | refine u_q ?_ | refine u_lr ?_ | refine u_qr ?_ | refine u_ls ?_ | refine u_qs ?_ | refine u_t ?_ | refine u_f ?_ | refine v_s ?_ | refine v_o ?_ | refine v_on ?_ | refine v_og ?_ | refine v_q ?_ | refine v_sr ?_ | refine v_k ?_ | refine m_nil ?_)
      refine loop_n (k + 1, at2 nx w[k] a) ⟨by dsimp only; omega, p1, hg⟩ ?_ rfl (by dsimp only; omega)
      ((repeat (first | exact trivial | (refine ⟨?_, ?_⟩; (focus (first | rfl | (simp [lk, argsS, args0]; done) | (simp [lk, argsS, args0]; omega)))))))
    · have : k = w.length := by omega
      subst this
      rw [List.drop_length] at hg
      simp only [runS] at hg
      repeat (first | refine awp_seq ?_ | refine then_n ?_ | refine then_r ?_ | refine then_x ?_ | refine block_n ?_ | refine block_r ?_ | refine block_x ?_ | refine u_y ?_ | refine loop_r ?_ | refine loop_x ?_ | refine awp_region ?_ | refine awpL_nil ?_ | refine awpQL_nil ?_ | refine awp_block ?_ | refine awp_skip ?_ | refine awp_exit ?_ | refine awp_label ?_ | refine u_dT ?_ | refine u_d ?_ | refine u_l ?_ | refine u_o ?_ | refine u_q ?_ | refine u_lr ?_ | refine u_qr ?_ | refine u_ls ?_ | refine u_qs ?_ | refine u_t ?_ | refine u_f ?_ | refine v_s ?_ | refine v_o ?_ | refine v_on ?_ | refine v_og ?_ | refine v_q ?_ | refine v_sr ?_ | refine v_k ?_ | refine m_nil ?_)
      (refine awp_ret ?_; (repeat (first | refine then_r ?_ | refine block_r ?_ | refine loop_r ?_)); apply ret_ok (.inr rfl); (focus exact rfl))
      rw [← hg]

def imgL (nx : List (List Int)) (l w : List Int) : List Int := l.foldl (fun o q => insL o (runS nx q w)) []
theorem imgL_take {nx : List (List Int)} {l w : List Int} {k : Nat} (hk : k < l.length) : imgL nx (l.take (k + 1)) w = insL (imgL nx (l.take k) w) (runS nx l[k] w) := by
  unfold imgL
  rw [List.take_succ_eq_append_getElem hk, List.foldl_append]
  rfl
theorem imgL_length (nx : List (List Int)) (l w : List Int) : (imgL nx l w).length ≤ l.length := by
  have : ∀ (l o : List Int), (l.foldl (fun o q => insL o (runS nx q w)) o).length ≤ o.length + l.length := by
    intro l
    induction l with
    | nil => intro o; simp
    | cons x l ih =>
      intro o
      have h1 := ih (insL o (runS nx x w))
      have h2 := insL_length o (runS nx x w)
      simp only [List.foldl_cons, List.length_cons]
      omega
  have := this l []
  simpa [imgL] using this
theorem imgL_spec (nx : List (List Int)) (l w : List Int) : (imgL nx l w).Pairwise (· < ·) ∧ ∀ y, y ∈ imgL nx l w ↔ ∃ q ∈ l, y = runS nx q w := by
  have key : ∀ (l o : List Int), o.Pairwise (· < ·) → (l.foldl (fun o q => insL o (runS nx q w)) o).Pairwise (· < ·) ∧ ∀ y, y ∈ l.foldl (fun o q => insL o (runS nx q w)) o ↔ y ∈ o ∨ ∃ q ∈ l, y = runS nx q w := by
    intro l
    induction l with
    | nil => intro o ho; exact ⟨ho, by simp⟩
    | cons x l ih =>
      intro o ho
      obtain ⟨h1, h2⟩ := ih _ (insL_ris (n := runS nx x w) ho)
      refine ⟨h1, fun y => ?_⟩
      simp only [List.foldl_cons]
      rw [h2, mem_insL]
      constructor
      · rintro ((h | h) | ⟨q, hq, e⟩)
        · exact .inr ⟨x, List.mem_cons_self .., h⟩
        · exact .inl h
        · exact .inr ⟨q, List.mem_cons_of_mem _ hq, e⟩
      · rintro (h | ⟨q, hq, e⟩)
        · exact .inl (.inr h)
        · rcases List.mem_cons.1 hq with e2 | hq
          · subst e2; exact .inl (.inl e)
          · exact .inr ⟨q, hq, e⟩
  obtain ⟨h1, h2⟩ := key l [] List.Pairwise.nil
  exact ⟨h1, fun y => (h2 y).trans (by simp)⟩

theorem spec_l01Image {s : Int} {nx : List (List Int)} {lp l w : List Int} (v : LV s nx lp) (hl : ∀ q ∈ l, 0 ≤ q ∧ q < s) (hn : l.length ≤ 1000) (hwl : w.length ≤ 400) (hwa : ∀ l ∈ w, 0 ≤ l ∧ l < nx.length) :
    AC Try.prog 116 [.ptr (.agg [.int .i64 s, rows nx]), ints l, ints w] (ints (imgL nx l w)) := by
  have hle : (List.map (D.int IntKind.i64) l).length = l.length := by simp
  refine ac_intro tabIs _ Try.func116 rfl rfl Try.ntmps116 rfl rfl fun w0 ok0 => ?_
  repeat (first | refine awp_seq ?_ | refine then_n ?_ | refine then_r ?_ | refine then_x ?_ | refine block_n ?_ | refine block_r ?_ | refine block_x ?_ | refine u_y ?_ | refine loop_r ?_ | refine loop_x ?_ | refine awp_region ?_ | refine awpL_nil ?_ | refine awpQL_nil ?_ | refine awp_block ?_ | refine awp_skip ?_ | refine awp_exit ?_ | refine awp_label ?_ | refine u_dT ?_ | refine u_d ?_ | refine u_l ?_ | refine u_o ?_ | refine u_q ?_ | refine u_lr ?_ | refine u_qr ?_ | refine u_ls ?_ | refine u_qs ?_ | refine u_t ?_ | refine u_f ?_ | refine v_s ?_ | refine v_o ?_ | refine v_on ?_ | refine v_og ?_ | refine v_q ?_ | refine v_sr ?_ | refine v_k ?_ | refine m_nil ?_)
  refine awp_loop (fun k : Nat => k ≤ l.length)
    (fun k => [(0, .d (.ptr (.agg [.int .i64 s, rows nx]))), (1, .d (ints l)), (2, .d (ints w)), (7, .d (ints (imgL nx (l.take k) w))), (8, .d (.int .i64 k))]) (fun _ => []) (fun k => l.length - k) 0 (by simp) ?_ rfl ?_
  · refine ⟨rfl, rfl, rfl, ?_, rfl, trivial⟩
    simp [lk, args0, imgL, ints]
  · intro k hk
    by_cases hlt : k < l.length
    · have hx := el_int hlt
      have e1 := spec_l01To v (hl _ (List.getElem_mem hlt)) hwl hwa
      have h3 := imgL_length nx (l.take k) w
      rw [List.length_take] at h3
      have e2 := spec_l00Put (l := imgL nx (l.take k) w) (n := runS nx l[k] w) (by omega)
      have h4 := imgL_take (nx := nx) (w := w) hlt
      generalize imgL nx (l.take k) w = o at *
      repeat (first | refine awp_seq ?_ | refine then_n ?_ | refine then_r ?_ | refine then_x ?_ | refine block_n ?_ | refine block_r ?_ | refine block_x ?_ | refine u_y ?_ | refine loop_r ?_ | refine loop_x ?_ | refine awp_region ?_ | refine awpL_nil ?_ | refine awpQL_nil ?_ | refine awp_block ?_ | refine awp_skip ?_ | refine awp_exit ?_ | refine awp_label ?_ | refine u_dT ?_ | refine u_d ?_ | ((first | apply c_l | apply c_q | apply c_lr | apply c_qr); (iterate 2 exact rfl); (focus (first | exact e1 | exact e2)); (iterate 2 exact rfl)) | (apply v_c; (iterate 4 exact rfl); (focus (first | exact e1 | exact e2)); (iterate 2 exact rfl)) | refine u_l ?_ | refine u_o ?_ | refine u_q ?_ | refine u_lr ?_ | refine u_qr ?_ | refine u_ls ?_ | refine u_qs ?_ | refine u_t ?_ | refine u_f ?_ | refine v_s ?_ | refine v_o ?_ | refine v_on ?_ | refine v_og ?_ | refine v_q ?_ | refine v_sr ?_ | refine v_k ?_ | refine m_nil ?_)
      refine loop_n (k + 1) (by omega) ?_ rfl (by omega)
      refine ⟨rfl, rfl, rfl, ?_, ?_, trivial⟩
      · rw [h4]; rfl
      · simp [lk]
    · have : k = l.length := by omega
      subst this
      repeat (first | refine awp_seq ?_ | refine then_n ?_ | refine then_r ?_ | refine then_x ?_ | refine block_n ?_ | refine block_r ?_ | refine block_x ?_ | refine u_y ?_ | refine loop_r ?_ | refine loop_x ?_ | refine awp_region ?_ | refine awpL_nil ?_ | refine awpQL_nil ?_ | refine awp_block ?_ | refine awp_skip ?_ | refine awp_exit ?_ | refine awp_label ?_ | refine u_dT ?_ | refine u_d ?_ | refine u_l ?_ | refine u_o ?_ | refine u_q ?_ | refine u_lr ?_ | refine u_qr ?_ | refine u_ls ?_ | refine u_qs ?_ | refine u_t ?_ | refine u_f ?_ | refine v_s ?_ | refine v_o ?_ | refine v_on ?_ | refine v_og ?_ | refine v_q ?_ | refine v_sr ?_ | refine v_k ?_ | refine m_nil ?_)
      (refine awp_ret ?_; (repeat (first | refine then_r ?_ | refine block_r ?_ | refine loop_r ?_)); apply ret_ok (.inr rfl); (focus exact rfl))
      rw [List.take_length]

theorem spec_l08With {s x : Int} {nx : List (List Int)} {lp l : List Int} (v : LV s nx lp) (hl : ∀ q ∈ l, 0 ≤ q ∧ q < s) (hn : l.length ≤ 1000) :
    AC Try.prog 115 [.ptr (.agg [.int .i64 s, rows nx, ints lp]), ints l, .int .i64 x] (ints (l.filter fun q => decide (lamp lp q = x))) := by
  have hle : (List.map (D.int IntKind.i64) l).length = l.length := by simp
  have hlp := v.lp
  refine ac_intro tabIs _ Try.func115 rfl rfl Try.ntmps115 rfl rfl fun w0 ok0 => ?_
  repeat (first | refine v_w (t := 9) ?_ | refine awp_seq ?_ | refine then_n ?_ | refine then_r ?_ | refine then_x ?_ | refine block_n ?_ | refine block_r ?_ | refine block_x ?_ | refine u_y ?_ | refine loop_r ?_ | refine loop_x ?_ | refine awp_region ?_ | refine awpL_nil ?_ | refine awpQL_nil ?_ | refine awp_block ?_ | refine awp_skip ?_ | refine awp_exit ?_ | refine awp_label ?_ | refine u_dT ?_ | refine u_d ?_ | refine u_w (t := 9) ?_ | refine u_l ?_ | refine u_o ?_ | refine u_q ?_ | refine u_lr ?_ | refine u_qr ?_ | refine u_ls ?_ | refine u_qs ?_ | refine u_t ?_ | refine u_f ?_ | refine v_s ?_ | refine v_o ?_ | refine v_on ?_ | refine v_og ?_ | refine v_q ?_ | refine v_sr ?_ | refine v_k ?_ | refine m_nil ?_)
  refine awp_loop (fun k : Nat => k ≤ l.length)
    (fun k => [(0, .d (.ptr (.agg [.int .i64 s, rows nx, ints lp]))), (1, .d (ints l)), (2, .d (.int .i64 x)), (7, .own 9), (8, .d (.int .i64 k))]) (fun k => [(9, .arr 2 1 (((l.take k).filter fun q => decide (lamp lp q = x)).map (.int .i64)))]) (fun k => l.length - k) 0 (by simp) ?_ rfl ?_
  · ((repeat (first | exact trivial | (refine ⟨?_, ?_⟩; (focus (first | rfl | (simp [lk, argsS, args0]; done) | (simp [lk, argsS, args0]; omega)))))))
  · intro k hk
    have hfl : ((l.take k).filter fun q => decide (lamp lp q = x)).length ≤ k := by
      have := List.length_filter_le (fun q => decide (lamp lp q = x)) (l.take k)
      rw [List.length_take] at this
      omega
    by_cases hlt : k < l.length
    · have he := el_int hlt
      have hq := hl _ (List.getElem_mem hlt)
      have q1 : (List.map (D.int .i64) lp)[l[k].toNat]? = some (.int .i64 (lamp lp l[k])) := el_int2 (ns := lp) (q := l[k]) (by omega)
      have hstep := filter_take (P := fun q => decide (lamp lp q = x)) hlt
      by_cases hc : lamp lp l[k] = x
      · rw [if_pos (by simpa using hc)] at hstep
        repeat (first | refine awp_seq ?_ | refine then_n ?_ | refine then_r ?_ | refine then_x ?_ | refine block_n ?_ | refine block_r ?_ | refine block_x ?_ | refine u_y ?_ | refine loop_r ?_ | refine loop_x ?_ | refine awp_region ?_ | refine awpL_nil ?_ | refine awpQL_nil ?_ | refine awp_block ?_ | refine awp_skip ?_ | refine awp_exit ?_ | refine awp_label ?_ | refine u_dT ?_ | refine u_d ?_ | refine u_l ?_ | refine u_o ?_ | refine u_q ?_ | refine u_lr ?_ | refine u_qr ?_ | refine u_ls ?_ | refine u_qs ?_ | refine u_t ?_ | refine u_f ?_ | refine v_s ?_ | refine v_o ?_ | refine v_on ?_ | refine v_og ?_ | refine v_q ?_ | refine v_sr ?_ | refine v_k ?_ | refine m_nil ?_)
        refine loop_n (k + 1) (by omega) ?_ ?_ (by omega)
        · ((repeat (first | exact trivial | (refine ⟨?_, ?_⟩; (focus (first | rfl | (simp [lk, argsS, args0]; done) | (simp [lk, argsS, args0]; omega)))))))
        · rw [hstep]; simp [killH, keepH, memB]
      · rw [if_neg (by simpa using hc)] at hstep
        repeat (first | refine awp_seq ?_ | refine then_n ?_ | refine then_r ?_ | refine then_x ?_ | refine block_n ?_ | refine block_r ?_ | refine block_x ?_ | refine u_y ?_ | refine loop_r ?_ | refine loop_x ?_ | refine awp_region ?_ | refine awpL_nil ?_ | refine awpQL_nil ?_ | refine awp_block ?_ | refine awp_skip ?_ | refine awp_exit ?_ | refine awp_label ?_ | refine u_dT ?_ | refine u_d ?_ | refine u_l ?_ | refine u_o ?_ | refine u_q ?_ | refine u_lr ?_ | refine u_qr ?_ | refine u_ls ?_ | refine u_qs ?_ | refine u_t ?_ | refine u_f ?_ | refine v_s ?_ | refine v_o ?_ | refine v_on ?_ | refine v_og ?_ | refine v_q ?_ | refine v_sr ?_ | refine v_k ?_ | refine m_nil ?_)
        refine loop_n (k + 1) (by omega) ?_ ?_ (by omega)
        · ((repeat (first | exact trivial | (refine ⟨?_, ?_⟩; (focus (first | rfl | (simp [lk, argsS, args0]; done) | (simp [lk, argsS, args0]; omega)))))))
        · rw [hstep]; simp
    · have : k = l.length := by omega
      subst this
      repeat (first | refine awp_seq ?_ | refine then_n ?_ | refine then_r ?_ | refine then_x ?_ | refine block_n ?_ | refine block_r ?_ | refine block_x ?_ | refine u_y ?_ | refine loop_r ?_ | refine loop_x ?_ | refine awp_region ?_ | refine awpL_nil ?_ | refine awpQL_nil ?_ | refine awp_block ?_ | refine awp_skip ?_ | refine awp_exit ?_ | refine awp_label ?_ | refine u_dT ?_ | refine u_d ?_ | refine u_l ?_ | refine u_o ?_ | refine u_q ?_ | refine u_lr ?_ | refine u_qr ?_ | refine u_ls ?_ | refine u_qs ?_ | refine u_t ?_ | refine u_f ?_ | refine v_s ?_ | refine v_o ?_ | refine v_on ?_ | refine v_og ?_ | refine v_q ?_ | refine v_sr ?_ | refine v_k ?_ | refine m_nil ?_)
      (refine awp_ret ?_; (repeat (first | refine then_r ?_ | refine block_r ?_ | refine loop_r ?_)); apply ret_ok (.inr rfl); (focus exact rfl))
      rw [List.take_length]; rfl

end Go.Proofs.Ytampglcgipefnaa
