/- Contracts of the small functions: limits of numbers, words of deeds, valid deeds. No condition. -/
import Derived.Test.YtckpadnjldebaaaGreatTab
import Derived.Test.YtckpadnjldebaaaGreatFwJ
import Derived.Test.YtckpadnjldebaaaGreatFwT
namespace Go.Proofs.YtckpadnjldebaaaGreat
open Go
attribute [local irreducible] awp awpL awpQL awpQ awpM pWalk Qt AC thenQ blockQ loopQ OpTo
set_option linter.unusedVariables false
set_option linter.unusedSimpArgs false
set_option maxHeartbeats 2000000
def inB (n lo hi : Int) : Bool := decide (lo <= n) && decide (n <= hi)
theorem impl_within {n lo hi : Int} : AC Tryz.prog 110 [.int .i64 n, .int .i64 lo, .int .i64 hi] (.bool (inB n lo hi)) := by
  refine ac_intro tabIs _ Tryz.func110 rfl rfl Tryz.ntmps110 rfl rfl fun w0 ok0 he0 => ?_
  repeat' (first | refine awp_seq ?_ | refine then_n ?_ | refine then_r ?_ | refine then_x ?_ | refine block_n ?_ | refine block_r ?_ | refine block_x ?_ | refine u_y ?_ | refine loop_r ?_ | refine loop_x ?_ | refine awp_region ?_ | refine awpL_nil ?_ | refine awpQL_nil ?_ | refine awp_block ?_ | refine awp_skip ?_ | refine awp_exit ?_ | refine awp_label ?_ | refine u_dT ?_ | refine u_d ?_ | refine u_l ?_ | refine u_o ?_ | refine u_q ?_ | refine u_lr ?_ | refine u_qr ?_ | refine u_ls ?_ | refine u_qs ?_ | refine u_t ?_ | refine u_f ?_ | refine v_s ?_ | refine v_o ?_ | refine v_on ?_ | refine v_og ?_ | refine v_q ?_ | refine v_sr ?_ | refine v_k ?_ | refine m_nil ?_ | ((first | refine u_sl ?_ ?_ | refine u_sq ?_ ?_) <;> (intro hb; try (simp at hb; done))) | (refine u_c ?_ ?_ <;> (intro hc; try (simp at hc; done))) | refine awp_ret ?_ | refine u_r ?_ | refine u_rC ?_)
  all_goals (first | (simp_all [inB]; done) | (simp_all [inB]; omega))
theorem spec_l00In {n lo hi : Int} : AC Tryz.prog 174 [.int .i64 n, .int .i64 lo, .int .i64 hi] (.bool (inB n lo hi)) := by
  refine ac_intro tabIs _ Tryz.func174 rfl rfl Tryz.ntmps174 rfl rfl fun w0 ok0 he0 => ?_
  repeat' (first | refine awp_seq ?_ | refine then_n ?_ | refine then_r ?_ | refine then_x ?_ | refine block_n ?_ | refine block_r ?_ | refine block_x ?_ | refine u_y ?_ | refine loop_r ?_ | refine loop_x ?_ | refine awp_region ?_ | refine awpL_nil ?_ | refine awpQL_nil ?_ | refine awp_block ?_ | refine awp_skip ?_ | refine awp_exit ?_ | refine awp_label ?_ | refine u_dT ?_ | refine u_d ?_ | refine u_l ?_ | refine u_o ?_ | refine u_q ?_ | refine u_lr ?_ | refine u_qr ?_ | refine u_ls ?_ | refine u_qs ?_ | refine u_t ?_ | refine u_f ?_ | refine v_s ?_ | refine v_o ?_ | refine v_on ?_ | refine v_og ?_ | refine v_q ?_ | refine v_sr ?_ | refine v_k ?_ | refine m_nil ?_ | ((first | refine u_sl ?_ ?_ | refine u_sq ?_ ?_) <;> (intro hb; try (simp at hb; done))) | (refine u_c ?_ ?_ <;> (intro hc; try (simp at hc; done))) | refine awp_ret ?_ | refine u_r ?_ | refine u_rC ?_)
  all_goals (first | (simp_all [inB]; done) | (simp_all [inB]; omega))
end Go.Proofs.YtckpadnjldebaaaGreat
namespace Go.Proofs.YtckpadnjldebaaaGreat
open Go
attribute [local irreducible] awp awpL awpQL awpQ awpM pWalk Qt AC thenQ blockQ loopQ OpTo
set_option linter.unusedVariables false
set_option linter.unusedSimpArgs false
set_option maxHeartbeats 2000000
theorem el_int {ns : List Int} {k : Nat} (h : k < ns.length) : (ns.map (D.int .i64))[(k : Int).toNat]? = some (.int .i64 ns[k]) := by simp [h]
theorem el_row {nss : List (List Int)} {k : Nat} (h : k < nss.length) : (nss.map ints)[(k : Int).toNat]? = some (ints nss[k]) := by simp [h]
end Go.Proofs.YtckpadnjldebaaaGreat
namespace Go.Proofs.YtckpadnjldebaaaGreat
open Go
attribute [local irreducible] awp awpL awpQL awpQ awpM pWalk Qt AC thenQ blockQ loopQ OpTo
set_option linter.unusedVariables false
set_option linter.unusedSimpArgs false
set_option maxHeartbeats 2000000
def findI {α : Type} (p : α -> Bool) : Nat -> List α -> Int
  | _, [] => -1
  | k, x :: xs => if p x then k else findI p (k + 1) xs
theorem findI_drop {α : Type} (p : α -> Bool) (xs : List α) (k : Nat) (hk : k < xs.length) : findI p k (xs.drop k) = if p xs[k] then (k : Int) else findI p (k + 1) (xs.drop (k + 1)) := by
  rw [List.drop_eq_getElem_cons hk, findI]
theorem findI_any {α : Type} (p : α -> Bool) : ∀ (xs : List α) (k : Nat), decide (0 <= findI p k xs) = xs.any p
  | [], k => by simp [findI]
  | x :: xs, k => by
    unfold findI
    cases hx : p x
    . simp [hx, findI_any p xs (k + 1)]
    . simp [hx]
theorem indexFunc_int {xs : List Int} {g : Nat} {cap : List D} (p : Int -> Bool) (hp : ∀ x ∈ xs, AC Tryz.prog g (.int .i64 x :: cap) (.bool (p x))) (hl : xs.length <= 9223372036854775807) :
    AC Tryz.prog 263 [ints xs, .fn g cap] (.int .i64 (findI p 0 xs)) := by
  refine ac_intro tabIs _ Tryz.func263 rfl rfl Tryz.ntmps263 rfl rfl fun w0 ok0 he0 => ?_
  have hle : (List.map (D.int IntKind.i64) xs).length = xs.length := by simp
  repeat (first | refine zc ?_ | refine zv ?_)
  refine awp_loop (fun k : Nat => k <= xs.length /\ findI p k (xs.drop k) = findI p 0 xs)
    (fun k => [(0, .d (ints xs)), (1, .d (.fn g cap)), (7, .d (.int .i64 xs.length)), (8, .d (.int .i64 k))]) (fun _ => []) (fun k => xs.length - k) 0 (by simp) ?_ rfl ?_
  . exact zs
  . rintro k ⟨hk, hf⟩
    by_cases hlt : k < xs.length
    . have hx := el_int hlt
      rw [findI_drop p xs k hlt] at hf
      repeat (first | refine zc ?_ | refine zk (e := by exact hp _ (List.getElem_mem hlt)) (n := ?_) | refine zv ?_)
      cases hpx : p xs[k]
      . rw [hpx] at hf
        repeat (first | refine zc ?_ | refine zv ?_)
        refine loop_n (k + 1) ⟨by omega, by simpa using hf⟩ ?_ rfl (by omega)
        exact zs
      . rw [hpx] at hf
        repeat (first | refine zc ?_ | refine zv ?_)
        refine zt ?_
        simpa using hf
    . have : k = xs.length := by omega
      subst this
      repeat (first | refine zc ?_ | refine zv ?_)
      refine zt ?_
      simpa [findI] using hf
theorem containsFunc_int {xs : List Int} {g : Nat} {cap : List D} (p : Int -> Bool) (hp : ∀ x ∈ xs, AC Tryz.prog g (.int .i64 x :: cap) (.bool (p x))) (hl : xs.length <= 9223372036854775807) :
    AC Tryz.prog 169 [ints xs, .fn g cap] (.bool (xs.any p)) := by
  refine ac_intro tabIs _ Tryz.func169 rfl rfl Tryz.ntmps169 rfl rfl fun w0 ok0 he0 => ?_
  repeat (first | refine zc ?_ | refine zk (e := by exact indexFunc_int p hp hl) (n := ?_) | refine zv ?_)
  refine zt ?_
  rw [findI_any]
theorem indexFunc_row {xs : List (List Int)} {g : Nat} {cap : List D} (p : List Int -> Bool) (hp : ∀ x ∈ xs, AC Tryz.prog g (ints x :: cap) (.bool (p x))) (hl : xs.length <= 9223372036854775807) :
    AC Tryz.prog 122 [rows xs, .fn g cap] (.int .i64 (findI p 0 xs)) := by
  refine ac_intro tabIs _ Tryz.func122 rfl rfl Tryz.ntmps122 rfl rfl fun w0 ok0 he0 => ?_
  have hle : (List.map ints xs).length = xs.length := by simp
  repeat (first | refine zc ?_ | refine zv ?_)
  refine awp_loop (fun k : Nat => k <= xs.length /\ findI p k (xs.drop k) = findI p 0 xs)
    (fun k => [(0, .d (rows xs)), (1, .d (.fn g cap)), (7, .d (.int .i64 xs.length)), (8, .d (.int .i64 k))]) (fun _ => []) (fun k => xs.length - k) 0 (by simp) ?_ rfl ?_
  . exact zs
  . rintro k ⟨hk, hf⟩
    by_cases hlt : k < xs.length
    . have hx := el_row hlt
      rw [findI_drop p xs k hlt] at hf
      repeat (first | refine zc ?_ | refine zk (e := by exact hp _ (List.getElem_mem hlt)) (n := ?_) | refine zv ?_)
      cases hpx : p xs[k]
      . rw [hpx] at hf
        repeat (first | refine zc ?_ | refine zv ?_)
        refine loop_n (k + 1) ⟨by omega, by simpa using hf⟩ ?_ rfl (by omega)
        exact zs
      . rw [hpx] at hf
        repeat (first | refine zc ?_ | refine zv ?_)
        refine zt ?_
        simpa using hf
    . have : k = xs.length := by omega
      subst this
      repeat (first | refine zc ?_ | refine zv ?_)
      refine zt ?_
      simpa [findI] using hf
theorem containsFunc_row {xs : List (List Int)} {g : Nat} {cap : List D} (p : List Int -> Bool) (hp : ∀ x ∈ xs, AC Tryz.prog g (ints x :: cap) (.bool (p x))) (hl : xs.length <= 9223372036854775807) :
    AC Tryz.prog 165 [rows xs, .fn g cap] (.bool (xs.any p)) := by
  refine ac_intro tabIs _ Tryz.func165 rfl rfl Tryz.ntmps165 rfl rfl fun w0 ok0 he0 => ?_
  repeat (first | refine zc ?_ | refine zk (e := by exact indexFunc_row p hp hl) (n := ?_) | refine zv ?_)
  refine zt ?_
  rw [findI_any]
theorem impl_size1 {ns : List Int} : AC Tryz.prog 158 [ints ns] (.int .i64 ns.length) := by
  refine ac_intro tabIs _ Tryz.func158 rfl rfl Tryz.ntmps158 rfl rfl fun w0 ok0 he0 => ?_
  repeat' (first | refine awp_seq ?_ | refine then_n ?_ | refine then_r ?_ | refine then_x ?_ | refine block_n ?_ | refine block_r ?_ | refine block_x ?_ | refine u_y ?_ | refine loop_r ?_ | refine loop_x ?_ | refine awp_region ?_ | refine awpL_nil ?_ | refine awpQL_nil ?_ | refine awp_block ?_ | refine awp_skip ?_ | refine awp_exit ?_ | refine awp_label ?_ | refine u_dT ?_ | refine u_d ?_ | refine u_l ?_ | refine u_o ?_ | refine u_q ?_ | refine u_lr ?_ | refine u_qr ?_ | refine u_ls ?_ | refine u_qs ?_ | refine u_t ?_ | refine u_f ?_ | refine v_s ?_ | refine v_o ?_ | refine v_on ?_ | refine v_og ?_ | refine v_q ?_ | refine v_sr ?_ | refine v_k ?_ | refine m_nil ?_ | ((first | refine u_sl ?_ ?_ | refine u_sq ?_ ?_) <;> (intro hb; try (simp at hb; done))) | (refine u_c ?_ ?_ <;> (intro hc; try (simp at hc; done))) | refine awp_ret ?_ | refine u_r ?_ | refine u_rC ?_)
  simp
theorem impl_size2 {nss : List (List Int)} : AC Tryz.prog 222 [rows nss] (.int .i64 nss.length) := by
  refine ac_intro tabIs _ Tryz.func222 rfl rfl Tryz.ntmps222 rfl rfl fun w0 ok0 he0 => ?_
  repeat' (first | refine awp_seq ?_ | refine then_n ?_ | refine then_r ?_ | refine then_x ?_ | refine block_n ?_ | refine block_r ?_ | refine block_x ?_ | refine u_y ?_ | refine loop_r ?_ | refine loop_x ?_ | refine awp_region ?_ | refine awpL_nil ?_ | refine awpQL_nil ?_ | refine awp_block ?_ | refine awp_skip ?_ | refine awp_exit ?_ | refine awp_label ?_ | refine u_dT ?_ | refine u_d ?_ | refine u_l ?_ | refine u_o ?_ | refine u_q ?_ | refine u_lr ?_ | refine u_qr ?_ | refine u_ls ?_ | refine u_qs ?_ | refine u_t ?_ | refine u_f ?_ | refine v_s ?_ | refine v_o ?_ | refine v_on ?_ | refine v_og ?_ | refine v_q ?_ | refine v_sr ?_ | refine v_k ?_ | refine m_nil ?_ | ((first | refine u_sl ?_ ?_ | refine u_sq ?_ ?_) <;> (intro hb; try (simp at hb; done))) | (refine u_c ?_ ?_ <;> (intro hc; try (simp at hc; done))) | refine awp_ret ?_ | refine u_r ?_ | refine u_rC ?_)
  simp
def allIn (ns : List Int) (lo hi : Int) : Bool := ns.all fun n => inB n lo hi
theorem impl_areWithin1 {n lo hi : Int} : AC Tryz.prog 261 [.int .i64 n, .ptr (.int .i64 lo), .ptr (.int .i64 hi)] (.bool (!inB n lo hi)) := by
  refine ac_intro tabIs _ Tryz.func261 rfl rfl Tryz.ntmps261 rfl rfl fun w0 ok0 he0 => ?_
  repeat' (first | refine awp_seq ?_ | refine then_n ?_ | refine then_r ?_ | refine then_x ?_ | refine block_n ?_ | refine block_r ?_ | refine block_x ?_ | refine u_y ?_ | refine loop_r ?_ | refine loop_x ?_ | refine awp_region ?_ | refine awpL_nil ?_ | refine awpQL_nil ?_ | refine awp_block ?_ | refine awp_skip ?_ | refine awp_exit ?_ | refine awp_label ?_ | refine u_dT ?_ | refine u_d ?_ | ((first | apply c_l | apply c_q | apply c_lr | apply c_qr); (iterate 2 exact rfl); (focus (first | exact impl_within)); (iterate 2 exact rfl)) | (apply v_c; (iterate 4 exact rfl); (focus (first | exact impl_within)); (iterate 2 exact rfl)) | refine u_l ?_ | refine u_o ?_ | refine u_q ?_ | refine u_lr ?_ | refine u_qr ?_ | refine u_ls ?_ | refine u_qs ?_ | refine u_t ?_ | refine u_f ?_ | refine v_s ?_ | refine v_o ?_ | refine v_on ?_ | refine v_og ?_ | refine v_q ?_ | refine v_sr ?_ | refine v_k ?_ | refine m_nil ?_ | ((first | refine u_sl ?_ ?_ | refine u_sq ?_ ?_) <;> (intro hb; try (simp at hb; done))) | (refine u_c ?_ ?_ <;> (intro hc; try (simp at hc; done))) | refine awp_ret ?_ | refine u_r ?_ | refine u_rC ?_)
  rfl
theorem impl_areWithin {ns : List Int} {lo hi : Int} (hl : ns.length <= 9223372036854775807) : AC Tryz.prog 167 [ints ns, .int .i64 lo, .int .i64 hi] (.bool (allIn ns lo hi)) := by
  refine ac_intro tabIs _ Tryz.func167 rfl rfl Tryz.ntmps167 rfl rfl fun w0 ok0 he0 => ?_
  repeat (first | refine zc ?_ | refine zk (e := by exact containsFunc_int (fun n => !inB n lo hi) (fun _ _ => impl_areWithin1) hl) (n := ?_) | refine zv ?_)
  refine zt ?_
  simp [allIn, List.not_any_eq_all_not]
def rowOk (n hi : Int) (ns : List Int) : Bool := decide ((ns.length : Int) = n) && allIn ns 0 (hi - 1)
def autoOk (s : Int) (nx : List (List Int)) : Bool := inB s 1 10 && inB nx.length 1 3 && nx.all (rowOk s s)
theorem impl_letters {s : Int} {nx : List (List Int)} : AC Tryz.prog 203 [.agg [.int .i64 s, rows nx]] (.int .i64 nx.length) := by
  refine ac_intro tabIs _ Tryz.func203 rfl rfl Tryz.ntmps203 rfl rfl fun w0 ok0 he0 => ?_
  repeat' (first | refine awp_seq ?_ | refine then_n ?_ | refine then_r ?_ | refine then_x ?_ | refine block_n ?_ | refine block_r ?_ | refine block_x ?_ | refine u_y ?_ | refine loop_r ?_ | refine loop_x ?_ | refine awp_region ?_ | refine awpL_nil ?_ | refine awpQL_nil ?_ | refine awp_block ?_ | refine awp_skip ?_ | refine awp_exit ?_ | refine awp_label ?_ | refine u_dT ?_ | refine u_d ?_ | ((first | apply c_l | apply c_q | apply c_lr | apply c_qr); (iterate 2 exact rfl); (focus (first | exact impl_size2)); (iterate 2 exact rfl)) | (apply v_c; (iterate 4 exact rfl); (focus (first | exact impl_size2)); (iterate 2 exact rfl)) | refine u_l ?_ | refine u_o ?_ | refine u_q ?_ | refine u_lr ?_ | refine u_qr ?_ | refine u_ls ?_ | refine u_qs ?_ | refine u_t ?_ | refine u_f ?_ | refine v_s ?_ | refine v_o ?_ | refine v_on ?_ | refine v_og ?_ | refine v_q ?_ | refine v_sr ?_ | refine v_k ?_ | refine m_nil ?_ | ((first | refine u_sl ?_ ?_ | refine u_sq ?_ ?_) <;> (intro hb; try (simp at hb; done))) | (refine u_c ?_ ?_ <;> (intro hc; try (simp at hc; done))) | refine awp_ret ?_ | refine u_r ?_ | refine u_rC ?_)
  rfl
theorem impl_ValidAutomaton1 {s : Int} {nx : List (List Int)} {ns : List Int} (hs : 1 <= s /\ s <= 10) (hl : ns.length <= 9223372036854775807) : AC Tryz.prog 206 [ints ns, .ptr (.agg [.int .i64 s, rows nx])] (.bool (!rowOk s s ns)) := by
  refine ac_intro tabIs _ Tryz.func206 rfl rfl Tryz.ntmps206 rfl rfl fun w0 ok0 he0 => ?_
  repeat' (first | refine awp_seq ?_ | refine then_n ?_ | refine then_r ?_ | refine then_x ?_ | refine block_n ?_ | refine block_r ?_ | refine block_x ?_ | refine u_y ?_ | refine loop_r ?_ | refine loop_x ?_ | refine awp_region ?_ | refine awpL_nil ?_ | refine awpQL_nil ?_ | refine awp_block ?_ | refine awp_skip ?_ | refine awp_exit ?_ | refine awp_label ?_ | refine u_dT ?_ | refine u_d ?_ | ((first | apply c_l | apply c_q | apply c_lr | apply c_qr); (iterate 2 exact rfl); (focus (first | exact impl_size1 | (apply impl_areWithin; (iterate 1 (focus (first | assumption | omega | (simp; omega) | (simp; done) | rfl)))))); (iterate 2 exact rfl)) | (apply v_c; (iterate 4 exact rfl); (focus (first | exact impl_size1 | (apply impl_areWithin; (iterate 1 (focus (first | assumption | omega | (simp; omega) | (simp; done) | rfl)))))); (iterate 2 exact rfl)) | refine u_l ?_ | refine u_o ?_ | refine u_q ?_ | refine u_lr ?_ | refine u_qr ?_ | refine u_ls ?_ | refine u_qs ?_ | refine u_t ?_ | refine u_f ?_ | refine v_s ?_ | refine v_o ?_ | refine v_on ?_ | refine v_og ?_ | refine v_q ?_ | refine v_sr ?_ | refine v_k ?_ | refine m_nil ?_ | ((first | refine u_sl ?_ ?_ | refine u_sq ?_ ?_) <;> (intro hb; try (simp at hb; done))) | (refine u_c ?_ ?_ <;> (intro hc; try (simp at hc; done))) | refine awp_ret ?_ | refine u_r ?_ | refine u_rC ?_)
  all_goals simp_all [rowOk]
theorem impl_ValidAutomaton {s : Int} {nx : List (List Int)} (h : RowsOk nx) : AC Tryz.prog 94 [.agg [.int .i64 s, rows nx]] (.bool (autoOk s nx)) := by
  by_cases hs : 1 <= s /\ s <= 10
  . have hb : inB s 1 10 = true := by simpa [inB] using hs
    have hw : AC Tryz.prog 110 [.int .i64 s, .int .i64 1, .int .i64 10] (.bool true) := hb ▸ impl_within
    refine ac_intro tabIs _ Tryz.func94 rfl rfl Tryz.ntmps94 rfl rfl fun w0 ok0 he0 => ?_
    repeat' (first | refine awp_seq ?_ | refine then_n ?_ | refine then_r ?_ | refine then_x ?_ | refine block_n ?_ | refine block_r ?_ | refine block_x ?_ | refine u_y ?_ | refine loop_r ?_ | refine loop_x ?_ | refine awp_region ?_ | refine awpL_nil ?_ | refine awpQL_nil ?_ | refine awp_block ?_ | refine awp_skip ?_ | refine awp_exit ?_ | refine awp_label ?_ | refine u_dT ?_ | refine u_d ?_ | ((first | apply c_l | apply c_q | apply c_lr | apply c_qr); (iterate 2 exact rfl); (focus (first | exact hw | exact impl_within | exact impl_letters | exact containsFunc_row (fun ns => !rowOk s s ns) (fun ns hn => impl_ValidAutomaton1 hs (h.1 ns hn).2) h.2)); (iterate 2 exact rfl)) | (apply v_c; (iterate 4 exact rfl); (focus (first | exact hw | exact impl_within | exact impl_letters | exact containsFunc_row (fun ns => !rowOk s s ns) (fun ns hn => impl_ValidAutomaton1 hs (h.1 ns hn).2) h.2)); (iterate 2 exact rfl)) | refine u_l ?_ | refine u_o ?_ | refine u_q ?_ | refine u_lr ?_ | refine u_qr ?_ | refine u_ls ?_ | refine u_qs ?_ | refine u_t ?_ | refine u_f ?_ | refine v_s ?_ | refine v_o ?_ | refine v_on ?_ | refine v_og ?_ | refine v_q ?_ | refine v_sr ?_ | refine v_k ?_ | refine m_nil ?_ | ((first | refine u_sl ?_ ?_ | refine u_sq ?_ ?_) <;> (intro hb; try (simp at hb; done))) | (refine u_c ?_ ?_ <;> (intro hc; try (simp at hc; done))) | refine awp_ret ?_ | refine u_r ?_ | refine u_rC ?_)
    all_goals simp_all [autoOk, List.not_any_eq_all_not]
  . have hb : inB s 1 10 = false := by simp [inB]; omega
    have hw : AC Tryz.prog 110 [.int .i64 s, .int .i64 1, .int .i64 10] (.bool false) := hb ▸ impl_within
    refine ac_intro tabIs _ Tryz.func94 rfl rfl Tryz.ntmps94 rfl rfl fun w0 ok0 he0 => ?_
    repeat' (first | refine awp_seq ?_ | refine then_n ?_ | refine then_r ?_ | refine then_x ?_ | refine block_n ?_ | refine block_r ?_ | refine block_x ?_ | refine u_y ?_ | refine loop_r ?_ | refine loop_x ?_ | refine awp_region ?_ | refine awpL_nil ?_ | refine awpQL_nil ?_ | refine awp_block ?_ | refine awp_skip ?_ | refine awp_exit ?_ | refine awp_label ?_ | refine u_dT ?_ | refine u_d ?_ | ((first | apply c_l | apply c_q | apply c_lr | apply c_qr); (iterate 2 exact rfl); (focus (first | exact hw)); (iterate 2 exact rfl)) | (apply v_c; (iterate 4 exact rfl); (focus (first | exact hw)); (iterate 2 exact rfl)) | refine u_l ?_ | refine u_o ?_ | refine u_q ?_ | refine u_lr ?_ | refine u_qr ?_ | refine u_ls ?_ | refine u_qs ?_ | refine u_t ?_ | refine u_f ?_ | refine v_s ?_ | refine v_o ?_ | refine v_on ?_ | refine v_og ?_ | refine v_q ?_ | refine v_sr ?_ | refine v_k ?_ | refine m_nil ?_ | ((first | refine u_sl ?_ ?_ | refine u_sq ?_ ?_) <;> (intro hb; try (simp at hb; done))) | (refine u_c ?_ ?_ <;> (intro hc; try (simp at hc; done))) | refine awp_ret ?_ | refine u_r ?_ | refine u_rC ?_)
    all_goals simp_all [autoOk]
end Go.Proofs.YtckpadnjldebaaaGreat
namespace Go.Proofs.YtckpadnjldebaaaGreat
open Go
attribute [local irreducible] awp awpL awpQL awpQ awpM pWalk Qt AC thenQ blockQ loopQ OpTo
set_option linter.unusedVariables false
set_option linter.unusedSimpArgs false
set_option maxHeartbeats 2000000
theorem all_drop {α : Type} (p : α -> Bool) {xs : List α} {k : Nat} (h : k < xs.length) : (xs.drop k).all p = (p xs[k] && (xs.drop (k + 1)).all p) := by
  rw [List.drop_eq_getElem_cons h, List.all_cons]
theorem spec_l01Map {ns : List Int} {n : Int} (hn : -1048576 <= n /\ n <= 1048576) (hl : ns.length <= 9223372036854775807) : AC Tryz.prog 195 [ints ns, .int .i64 n] (.bool (rowOk n n ns)) := by
  refine ac_intro tabIs _ Tryz.func195 rfl rfl Tryz.ntmps195 rfl rfl fun w0 ok0 he0 => ?_
  have hle : (List.map (D.int IntKind.i64) ns).length = ns.length := by simp
  repeat (first | refine zc ?_ | refine zv ?_)
  refine awp_loop (fun k : Nat => k <= ns.length /\ allIn (ns.drop k) 0 (n - 1) = allIn ns 0 (n - 1))
    (fun k => [(0, .d (ints ns)), (1, .d (.int .i64 n)), (5, .d (.int .i64 k))]) (fun _ => []) (fun k => ns.length - k) 0 (by simp) ?_ rfl ?_
  . exact zs
  . rintro k ⟨hk, hf⟩
    by_cases hlt : k < ns.length
    . have hx := el_int hlt
      unfold allIn at hf
      rw [all_drop _ hlt] at hf
      cases hb : inB ns[k] 0 (n - 1)
      . have hw : AC Tryz.prog 174 [.int .i64 ns[k], .int .i64 0, .int .i64 (n - 1)] (.bool false) := hb ▸ spec_l00In
        repeat (first | refine zc ?_ | refine zk (e := by exact hw) (n := ?_) | refine zv ?_)
        refine zt ?_
        rw [hb] at hf
        simp only [Bool.false_and] at hf
        simp [rowOk, allIn, <- hf]
      . have hw : AC Tryz.prog 174 [.int .i64 ns[k], .int .i64 0, .int .i64 (n - 1)] (.bool true) := hb ▸ spec_l00In
        repeat (first | refine zc ?_ | refine zk (e := by exact hw) (n := ?_) | refine zv ?_)
        rw [hb] at hf
        refine loop_n (k + 1) ⟨by omega, by simpa [allIn] using hf⟩ ?_ rfl (by omega)
        exact zs
    . have : k = ns.length := by omega
      subst this
      repeat (first | refine zc ?_ | refine zv ?_)
      refine zt ?_
      simp [allIn] at hf
      simp [rowOk, allIn, <- hf]
      intro _; exact hf
theorem spec_l01Ok {s : Int} {nx : List (List Int)} (h : RowsOk nx) : AC Tryz.prog 82 [.ptr (.agg [.int .i64 s, rows nx])] (.bool (autoOk s nx)) := by
  by_cases hs : 1 <= s /\ s <= 10
  . have hb : inB s 1 10 = true := by simpa [inB] using hs
    have hw : AC Tryz.prog 174 [.int .i64 s, .int .i64 1, .int .i64 10] (.bool true) := hb ▸ spec_l00In
    have hle : (List.map ints nx).length = nx.length := by simp
    have h2 := h.2
    cases hc : inB nx.length 1 3
    . have hw2 : AC Tryz.prog 174 [.int .i64 nx.length, .int .i64 1, .int .i64 3] (.bool false) := hc ▸ spec_l00In
      refine ac_intro tabIs _ Tryz.func82 rfl rfl Tryz.ntmps82 rfl rfl fun w0 ok0 he0 => ?_
      repeat (first | refine zc ?_ | refine zk (e := by exact hw) (n := ?_) | refine zk (e := by exact hw2) (n := ?_) | refine zk (e := by exact by rw [hle]; exact hw2) (n := ?_) | refine zv ?_)
      refine zt ?_
      simp [autoOk, hc]
    . have hw2 : AC Tryz.prog 174 [.int .i64 nx.length, .int .i64 1, .int .i64 3] (.bool true) := hc ▸ spec_l00In
      refine ac_intro tabIs _ Tryz.func82 rfl rfl Tryz.ntmps82 rfl rfl fun w0 ok0 he0 => ?_
      repeat (first | refine zc ?_ | refine zk (e := by exact hw) (n := ?_) | refine zk (e := by exact hw2) (n := ?_) | refine zk (e := by exact by rw [hle]; exact hw2) (n := ?_) | refine zv ?_)
      refine awp_loop (fun k : Nat => k <= nx.length /\ (nx.drop k).all (rowOk s s) = nx.all (rowOk s s))
        (fun k => [(0, .d (.ptr (.agg [.int .i64 s, rows nx]))), (3, .d (.int .i64 k))]) (fun _ => []) (fun k => nx.length - k) 0 (by simp) ?_ rfl ?_
      . exact zs
      . rintro k ⟨hk, hf⟩
        by_cases hlt : k < nx.length
        . have hx := el_row hlt
          have hl : nx[k].length <= 9223372036854775807 := (h.1 _ (List.getElem_mem hlt)).2
          rw [all_drop _ hlt] at hf
          cases hr : rowOk s s nx[k]
          . have hw3 : AC Tryz.prog 195 [ints nx[k], .int .i64 s] (.bool false) := hr ▸ spec_l01Map (by omega) hl
            repeat (first | refine zc ?_ | refine zk (e := by exact hw3) (n := ?_) | refine zv ?_)
            refine zt ?_
            rw [hr] at hf
            simp only [Bool.false_and] at hf
            simp [autoOk, <- hf]
          . have hw3 : AC Tryz.prog 195 [ints nx[k], .int .i64 s] (.bool true) := hr ▸ spec_l01Map (by omega) hl
            repeat (first | refine zc ?_ | refine zk (e := by exact hw3) (n := ?_) | refine zv ?_)
            rw [hr] at hf
            refine loop_n (k + 1) ⟨by omega, by simpa using hf⟩ ?_ rfl (by omega)
            exact zs
        . have : k = nx.length := by omega
          subst this
          repeat (first | refine zc ?_ | refine zv ?_)
          refine zt ?_
          simp only [List.drop_length, List.all_nil] at hf
          simp [autoOk, <- hf, hb, hc]
  . have hb : inB s 1 10 = false := by simp [inB]; omega
    have hw : AC Tryz.prog 174 [.int .i64 s, .int .i64 1, .int .i64 10] (.bool false) := hb ▸ spec_l00In
    refine ac_intro tabIs _ Tryz.func82 rfl rfl Tryz.ntmps82 rfl rfl fun w0 ok0 he0 => ?_
    repeat (first | refine zc ?_ | refine zk (e := by exact hw) (n := ?_) | refine zv ?_)
    refine zt ?_
    simp [autoOk, hb]
end Go.Proofs.YtckpadnjldebaaaGreat
namespace Go.Proofs.YtckpadnjldebaaaGreat
open Go
attribute [local irreducible] awp awpL awpQL awpQ awpM pWalk Qt AC thenQ blockQ loopQ OpTo
set_option linter.unusedVariables false
set_option linter.unusedSimpArgs false
set_option maxHeartbeats 2000000
end Go.Proofs.YtckpadnjldebaaaGreat
namespace Go.Proofs.YtckpadnjldebaaaGreat
open Go
attribute [local irreducible] awp awpL awpQL awpQ awpM pWalk Qt AC thenQ blockQ loopQ OpTo
set_option linter.unusedVariables false
set_option linter.unusedSimpArgs false
set_option maxHeartbeats 2000000
end Go.Proofs.YtckpadnjldebaaaGreat
namespace Go.Proofs.YtckpadnjldebaaaGreat
open Go
attribute [local irreducible] awp awpL awpQL awpQ awpM pWalk Qt AC thenQ blockQ loopQ OpTo
set_option linter.unusedVariables false
set_option linter.unusedSimpArgs false
set_option maxHeartbeats 2000000
def wordOk (n : Nat) (w : List Int) : Bool := decide ((w.length : Int) <= 400) && allIn w 0 ((n : Int) - 1)
theorem impl_isWordA {s : Int} {nx : List (List Int)} {w : List Int} (h : nx.length <= 9223372036854775807) (hl : w.length <= 9223372036854775807) : AC Tryz.prog 92 [.agg [.int .i64 s, rows nx], ints w] (.bool (wordOk nx.length w)) := by
  have hle : (List.map (D.int IntKind.i64) w).length = w.length := by simp
  refine ac_intro tabIs _ Tryz.func92 rfl rfl Tryz.ntmps92 rfl rfl fun w0 ok0 he0 => ?_
  repeat' (first | refine awp_seq ?_ | refine then_n ?_ | refine then_r ?_ | refine then_x ?_ | refine block_n ?_ | refine block_r ?_ | refine block_x ?_ | refine u_y ?_ | refine loop_r ?_ | refine loop_x ?_ | refine awp_region ?_ | refine awpL_nil ?_ | refine awpQL_nil ?_ | refine awp_block ?_ | refine awp_skip ?_ | refine awp_exit ?_ | refine awp_label ?_ | refine u_dT ?_ | refine u_d ?_ | ((first | apply c_l | apply c_q | apply c_lr | apply c_qr); (iterate 2 exact rfl); (focus (first | exact impl_letters | (apply impl_areWithin; (iterate 1 (focus (first | assumption | omega | (simp; omega) | (simp; done) | rfl)))))); (iterate 2 exact rfl)) | (apply v_c; (iterate 4 exact rfl); (focus (first | exact impl_letters | (apply impl_areWithin; (iterate 1 (focus (first | assumption | omega | (simp; omega) | (simp; done) | rfl)))))); (iterate 2 exact rfl)) | refine u_l ?_ | refine u_o ?_ | refine u_q ?_ | refine u_lr ?_ | refine u_qr ?_ | refine u_ls ?_ | refine u_qs ?_ | refine u_t ?_ | refine u_f ?_ | refine v_s ?_ | refine v_o ?_ | refine v_on ?_ | refine v_og ?_ | refine v_q ?_ | refine v_sr ?_ | refine v_k ?_ | refine m_nil ?_ | ((first | refine u_sl ?_ ?_ | refine u_sq ?_ ?_) <;> (intro hb; try (simp at hb; done))) | (refine u_c ?_ ?_ <;> (intro hc; try (simp at hc; done))) | refine awp_ret ?_ | refine u_r ?_ | refine u_rC ?_)
  all_goals (simp_all [wordOk]; try (intro g; omega))
end Go.Proofs.YtckpadnjldebaaaGreat
