/- Draws of lit automata. No condition. -/
import Derived.Test.YtampglcgipefnaaKa
import Derived.Test.YtampglcgipefnaaOm
namespace Go.Proofs.Ytampglcgipefnaa
open Go
attribute [local irreducible] awp awpL awpQL awpQ awpM pWalk Qt AC thenQ blockQ loopQ OpTo
set_option linter.unusedVariables false
set_option linter.unusedSimpArgs false
set_option maxHeartbeats 2000000
attribute [local irreducible] HC

def slT (n : Int) (k : Nat) : List Int := (List.range k).map fun j : Nat => ((j : Int) + 1) % n
def slY (n : Int) (k : Nat) : List Int := (List.range k).map fun j : Nat => (j : Int) % (n - 1)
theorem slT_succ {n : Int} {k : Nat} : slT n (k + 1) = slT n k ++ [((k : Int) + 1) % n] := by simp [slT, List.range_succ]
theorem slY_succ {n : Int} {k : Nat} : slY n (k + 1) = slY n k ++ [(k : Int) % (n - 1)] := by simp [slY, List.range_succ]
theorem spec_l02Slow {n : Int} (hn : 2 ≤ n ∧ n ≤ 100) : AC Try.prog 62 [.int .i64 n] (.agg [.int .i64 n, rows [slT n n.toNat, slY n n.toNat]]) := by
  refine ac_introC tabIs _ Try.func62 rfl rfl Try.ntmps62 rfl rfl fun w0 ok0 => ?_
  repeat (first | refine v_w (t := 7) ?_ | refine v_w (t := 6) ?_ | refine awp_seq ?_ | refine then_n ?_ | refine then_r ?_ | refine then_x ?_ | refine block_n ?_ | refine block_r ?_ | refine block_x ?_ | refine u_y ?_ | refine loop_r ?_ | refine loop_x ?_ | refine awp_region ?_ | refine awpL_nil ?_ | refine awpQL_nil ?_ | refine awp_block ?_ | refine awp_skip ?_ | refine awp_exit ?_ | refine awp_label ?_ | refine u_dT ?_ | refine u_d ?_ | refine u_w (t := 6) ?_ | refine u_w (t := 7) ?_ | refine u_l ?_ | refine u_o ?_ | refine u_q ?_ | refine u_lr ?_ | refine u_qr ?_ | refine u_ls ?_ | refine u_qs ?_ | refine u_t ?_ | refine u_f ?_ | refine v_s ?_ | refine v_o ?_ | refine v_on ?_ | refine v_og ?_ | refine v_q ?_ | refine v_sr ?_ | refine v_k ?_ | refine m_nil ?_)
  refine awp_loop (fun k : Nat => (k : Int) ≤ n) (fun k => [(0, .d (.int .i64 n)), (2, .ref 2 0), (3, .own 6), (4, .own 7), (5, .d (.int .i64 k))]) (fun k => [(7, .arr 2 1 ((slY n k).map (.int .i64))), (6, .arr 2 1 ((slT n k).map (.int .i64))), (2, .box [.d (.int .i64 0), .d .nils])]) (fun k => n.toNat - k) 0 (by omega) ?_ rfl ?_
  · ((repeat (first | exact trivial | (refine ⟨?_, ?_⟩; (focus (first | rfl | (simp [lk, argsS, args0]; done) | (simp [lk, argsS, args0]; omega)))))))
  · intro k hk
    have h1 : ((slY n k).map (D.int .i64)).length = k := by simp [slY]
    have h2 : ((slT n k).map (D.int .i64)).length = k := by simp [slT]
    have h3 : (slT n k).length = k := by simp [slT]
    have h4 : (slY n k).length = k := by simp [slY]
    have e1 := slT_succ (n := n) (k := k)
    have e2 := slY_succ (n := n) (k := k)
    by_cases hlt : (k : Int) < n
    · repeat (first | refine awp_seq ?_ | refine then_n ?_ | refine then_r ?_ | refine then_x ?_ | refine block_n ?_ | refine block_r ?_ | refine block_x ?_ | refine u_y ?_ | refine loop_r ?_ | refine loop_x ?_ | refine awp_region ?_ | refine awpL_nil ?_ | refine awpQL_nil ?_ | refine awp_block ?_ | refine awp_skip ?_ | refine awp_exit ?_ | refine awp_label ?_ | refine u_dT ?_ | refine u_d ?_ | refine u_l ?_ | refine u_o ?_ | refine u_q ?_ | refine u_lr ?_ | refine u_qr ?_ | refine u_ls ?_ | refine u_qs ?_ | refine u_t ?_ | refine u_f ?_ | refine v_s ?_ | refine v_o ?_ | refine v_on ?_ | refine v_og ?_ | refine v_q ?_ | refine v_sr ?_ | refine v_k ?_ | refine m_nil ?_)
      refine loop_n (k + 1) (by omega) ?_ ?_ (by omega)
      · ((repeat (first | exact trivial | (refine ⟨?_, ?_⟩; (focus (first | rfl | (simp [lk, argsS, args0]; done) | (simp [lk, argsS, args0]; omega)))))))
      · rw [e1, e2]; simp only [List.map_append]; (as_aux_lemma => kernel_rfl)
    · have : k = n.toNat := by omega
      subst this
      refine awp_freeze 7 rfl rfl ?_
      refine awp_freeze 6 rfl rfl ?_
      repeat (first | refine awp_seq ?_ | refine then_n ?_ | refine then_r ?_ | refine then_x ?_ | refine block_n ?_ | refine block_r ?_ | refine block_x ?_ | refine u_y ?_ | refine loop_r ?_ | refine loop_x ?_ | refine awp_region ?_ | refine awpL_nil ?_ | refine awpQL_nil ?_ | refine awp_block ?_ | refine awp_skip ?_ | refine awp_exit ?_ | refine awp_label ?_ | refine u_dT ?_ | refine u_d ?_ | refine u_l ?_ | refine u_o ?_ | refine u_q ?_ | refine u_lr ?_ | refine u_qr ?_ | refine u_ls ?_ | refine u_qs ?_ | refine u_t ?_ | refine u_f ?_ | refine v_s ?_ | refine v_o ?_ | refine v_on ?_ | refine v_og ?_ | refine v_q ?_ | refine v_sr ?_ | refine v_k ?_ | refine m_nil ?_)
      (refine awp_ret ?_; (repeat (first | refine then_r ?_ | refine block_r ?_ | refine loop_r ?_)); apply ret_okC (.inr rfl); (focus exact rfl))
      rfl

/-! ### A drawn automaton: the plain draws -/
/-- A drawn row, so far. -/
def rwK (code : List Int) (n kind : Int) (s : Src) : Nat → List Int × Src
  | 0 => ([], s)
  | i + 1 =>
    let r := rwK code n kind s i
    let to_ := pickV code n r.2
    let s1 := pickS code n r.2
    if kind = 0 then (r.1 ++ [((i : Int) + 1) % n], s1)
    else if kind = 1 then (r.1 ++ [if pickV code 4 s1 = 0 then to_ else (i : Int)], pickS code 4 s1)
    else if kind = 2 then (r.1 ++ [if pickV code 3 s1 = 0 then to_ else n - 1 - i], pickS code 3 s1)
    else (r.1 ++ [to_], s1)
/-- The drawn rows, so far. -/
def rwsK (code : List Int) (n : Int) (s : Src) : Nat → List (List Int) × Src
  | 0 => ([], s)
  | x + 1 =>
    let r := rwsK code n s x
    let e := rwK code n (pickV code 5 r.2) (pickS code 5 r.2) n.toNat
    (r.1 ++ [e.1], e.2)
theorem rwK_len {code : List Int} {n kind : Int} {s : Src} : ∀ i, (rwK code n kind s i).1.length = i
  | 0 => rfl
  | i + 1 => by
    have := rwK_len (code := code) (n := n) (kind := kind) (s := s) i
    unfold rwK
    dsimp only
    split
    · simp [this]
    · split
      · simp [this]
      · split <;> simp [this]
theorem rwK_el {code : List Int} {n kind : Int} {s : Src} (hb : BytesOk code) (hn : 1 ≤ n) : ∀ i : Nat, (i : Int) ≤ n → ∀ v ∈ (rwK code n kind s i).1, 0 ≤ v ∧ v < n
  | 0, _ => fun v h => by cases h
  | i + 1, hi => by
    have ih := rwK_el (kind := kind) (s := s) hb hn i (by omega)
    have hp := pick_range (s := (rwK code n kind s i).2) hb hn
    have key : ∀ x : Int, 0 ≤ x ∧ x < n → ∀ v ∈ (rwK code n kind s i).1 ++ [x], 0 ≤ v ∧ v < n := fun x hx v hv => by
      rcases List.mem_append.1 hv with h | h
      · exact ih v h
      · simp only [List.mem_singleton] at h; subst h; exact hx
    unfold rwK
    dsimp only
    split
    · exact key _ ⟨Int.emod_nonneg _ (by omega), Int.emod_lt_of_pos _ (by omega)⟩
    · split
      · refine key _ ?_
        split
        · exact hp
        · omega
      · split
        · refine key _ ?_
          split
          · exact hp
          · omega
        · exact key _ hp
theorem rwK_ok {code : List Int} {n kind : Int} {s : Src} {k : Nat} (h : SOk s k) : ∀ i, SOk (rwK code n kind s i).2 (k + 4 * i)
  | 0 => h
  | i + 1 => by
    have ih := rwK_ok (code := code) (n := n) (kind := kind) h i
    have h1 := pick_ok (code := code) (n := n) ih
    have h2 := fun n => pick_ok (code := code) (n := n) h1
    unfold rwK
    dsimp only
    split
    · exact h1.mono (by omega)
    · split
      · refine SOk.mono (h2 4) ?_; omega
      · split
        · refine SOk.mono (h2 3) ?_; omega
        · exact h1.mono (by omega)
theorem rwsK_len {code : List Int} {n : Int} {s : Src} : ∀ x, (rwsK code n s x).1.length = x
  | 0 => rfl
  | x + 1 => by have := rwsK_len (code := code) (n := n) (s := s) x; simp [rwsK, this]
theorem rwsK_ok {code : List Int} {n : Int} {s : Src} {k : Nat} (h : SOk s k) (hn : n ≤ 10) : ∀ x, SOk (rwsK code n s x).2 (k + 42 * x)
  | 0 => h
  | x + 1 => (rwK_ok (pick_ok (rwsK_ok h hn x)) n.toNat).mono (by omega)
theorem rwsK_el {code : List Int} {n : Int} {s : Src} (hb : BytesOk code) (hn : 1 ≤ n) : ∀ x, Tbl n n (rwsK code n s x).1
  | 0 => fun ns h => by cases h
  | x + 1 => fun ns h => by
    rcases List.mem_append.1 h with h | h
    · exact rwsK_el hb hn x ns h
    · simp only [List.mem_singleton] at h
      subst h
      exact ⟨by rw [rwK_len]; omega, rwK_el hb hn _ (by omega)⟩

/-- How many states: the number and the source behind it. -/
def dnN (code : List Int) (most : Int) (s : Src) : Int × Src :=
  let n0 := 1 + pickV code most s
  let s1 := pickS code most s
  if n0 < 3 then
    if pickV code 3 s1 = 0 then (n0, pickS code 3 s1)
    else (min most (3 + pickV code 3 (pickS code 3 s1)), pickS code 3 (pickS code 3 s1))
  else (n0, s1)
/-- How many letters. -/
def dnL (code : List Int) (s : Src) : Int × Src :=
  let l0 := 1 + pickV code 3 s
  let s1 := pickS code 3 s
  if l0 = 1 then (if pickV code 3 s1 = 0 then 1 else 2, pickS code 3 s1) else (l0, s1)
theorem dnN_range {code : List Int} {most : Int} {s : Src} (hb : BytesOk code) (hm : 1 ≤ most) : 1 ≤ (dnN code most s).1 ∧ (dnN code most s).1 ≤ most := by
  have h1 := pick_range (s := s) hb hm
  have h2 := pick_range (s := pickS code 3 (pickS code most s)) (n := 3) hb (by omega)
  unfold dnN
  dsimp only
  split
  · split
    · exact ⟨by dsimp only; omega, by dsimp only; omega⟩
    · exact ⟨by dsimp only; omega, by dsimp only; omega⟩
  · exact ⟨by dsimp only; omega, by dsimp only; omega⟩
theorem dnN_ok {code : List Int} {most : Int} {s : Src} {k : Nat} (h : SOk s k) : SOk (dnN code most s).2 (k + 6) := by
  have h1 := pick_ok (code := code) (n := most) h
  have h2 := fun n => pick_ok (code := code) (n := n) h1
  have h3 := fun n m => pick_ok (code := code) (n := m) (h2 n)
  unfold dnN
  dsimp only
  split
  · split
    · refine SOk.mono (h2 3) ?_; omega
    · refine SOk.mono (h3 3 3) ?_; omega
  · exact h1.mono (by omega)
theorem dnL_range {code : List Int} {s : Src} (hb : BytesOk code) : 1 ≤ (dnL code s).1 ∧ (dnL code s).1 ≤ 3 := by
  have h1 := pick_range (s := s) (n := 3) hb (by omega)
  unfold dnL
  dsimp only
  split
  · dsimp only
    split <;> omega
  · exact ⟨by dsimp only; omega, by dsimp only; omega⟩
theorem dnL_ok {code : List Int} {s : Src} {k : Nat} (h : SOk s k) : SOk (dnL code s).2 (k + 4) := by
  have h1 := pick_ok (code := code) (n := 3) h
  have h2 := fun n => pick_ok (code := code) (n := n) h1
  unfold dnL
  dsimp only
  split
  · refine SOk.mono (h2 3) ?_; omega
  · exact h1.mono (by omega)
end Go.Proofs.Ytampglcgipefnaa
