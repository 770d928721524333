/- Contracts of the small functions: limits of numbers, words of deeds, valid deeds. No condition. -/
import Derived.Test.YtffmlijngfhhaaaGreatDoorTab
import Derived.Test.YtffmlijngfhhaaaGreatDoorFwJ
import Derived.Test.YtffmlijngfhhaaaGreatDoorFwT
namespace Go.Proofs.YtffmlijngfhhaaaGreatDoor
open Go
attribute [local irreducible] awp awpL awpQL awpQ awpM pWalk Qt AC thenQ blockQ loopQ OpTo
set_option linter.unusedVariables false
set_option linter.unusedSimpArgs false
set_option maxHeartbeats 2000000
def inB (n lo hi : Int) : Bool := decide (lo <= n) && decide (n <= hi)
theorem impl_within {n lo hi : Int} : AC Tryz.prog 50 [.int .i64 n, .int .i64 lo, .int .i64 hi] (.bool (inB n lo hi)) := by
  refine ac_intro tabIs _ Tryz.func50 rfl rfl Tryz.ntmps50 rfl rfl fun w0 ok0 he0 => ?_
  repeat' (first | refine awp_seq ?_ | refine then_n ?_ | refine then_r ?_ | refine then_x ?_ | refine block_n ?_ | refine block_r ?_ | refine block_x ?_ | refine u_y ?_ | refine loop_r ?_ | refine loop_x ?_ | refine awp_region ?_ | refine awpL_nil ?_ | refine awpQL_nil ?_ | refine awp_block ?_ | refine awp_skip ?_ | refine awp_exit ?_ | refine awp_label ?_ | refine u_dT ?_ | refine u_d ?_ | refine u_l ?_ | refine u_o ?_ | refine u_q ?_ | refine u_lr ?_ | refine u_qr ?_ | refine u_ls ?_ | refine u_qs ?_ | refine u_t ?_ | refine u_f ?_ | refine v_s ?_ | refine v_o ?_ | refine v_on ?_ | refine v_og ?_ | refine v_q ?_ | refine v_sr ?_ | refine v_k ?_ | refine m_nil ?_ | ((first | refine u_sl ?_ ?_ | refine u_sq ?_ ?_) <;> (intro hb; try (simp at hb; done))) | (refine u_c ?_ ?_ <;> (intro hc; try (simp at hc; done))) | refine awp_ret ?_ | refine u_r ?_ | refine u_rC ?_)
  all_goals (first | (simp_all [inB]; done) | (simp_all [inB]; omega))
theorem spec_l00In {n lo hi : Int} : AC Tryz.prog 86 [.int .i64 n, .int .i64 lo, .int .i64 hi] (.bool (inB n lo hi)) := by
  refine ac_intro tabIs _ Tryz.func86 rfl rfl Tryz.ntmps86 rfl rfl fun w0 ok0 he0 => ?_
  repeat' (first | refine awp_seq ?_ | refine then_n ?_ | refine then_r ?_ | refine then_x ?_ | refine block_n ?_ | refine block_r ?_ | refine block_x ?_ | refine u_y ?_ | refine loop_r ?_ | refine loop_x ?_ | refine awp_region ?_ | refine awpL_nil ?_ | refine awpQL_nil ?_ | refine awp_block ?_ | refine awp_skip ?_ | refine awp_exit ?_ | refine awp_label ?_ | refine u_dT ?_ | refine u_d ?_ | refine u_l ?_ | refine u_o ?_ | refine u_q ?_ | refine u_lr ?_ | refine u_qr ?_ | refine u_ls ?_ | refine u_qs ?_ | refine u_t ?_ | refine u_f ?_ | refine v_s ?_ | refine v_o ?_ | refine v_on ?_ | refine v_og ?_ | refine v_q ?_ | refine v_sr ?_ | refine v_k ?_ | refine m_nil ?_ | ((first | refine u_sl ?_ ?_ | refine u_sq ?_ ?_) <;> (intro hb; try (simp at hb; done))) | (refine u_c ?_ ?_ <;> (intro hc; try (simp at hc; done))) | refine awp_ret ?_ | refine u_r ?_ | refine u_rC ?_)
  all_goals (first | (simp_all [inB]; done) | (simp_all [inB]; omega))
def dwords : List (List UInt8) := [[], [111, 114, 100, 101, 114], [112, 111, 115, 116], [114, 101, 112, 111, 114, 116], [100, 101, 108, 105, 118, 101, 114], [99, 111, 112, 121], [100, 114, 111, 112], [106, 111, 108, 116], [115, 97, 118, 101], [99, 114, 97, 115, 104]]
def dtold : List Bool := [false, true, true, false, true, true, true, true, false, false]
def dword (k : Int) : List UInt8 := if 0 <= k then dwords.getD k.toNat [] else []
def dtell (k : Int) : Bool := if 0 <= k then dtold.getD k.toNat false else false
theorem impl_deedWord {k : Int} : AC Tryz.prog 48 [.int .i64 k] (.tup [.str (dword k), .bool (dtell k)]) := by
  by_cases hk : 1 <= k /\ k <= 9
  . have : k = 1 \/ k = 2 \/ k = 3 \/ k = 4 \/ k = 5 \/ k = 6 \/ k = 7 \/ k = 8 \/ k = 9 := by omega
    clear hk
    rcases this with rfl | rfl | rfl | rfl | rfl | rfl | rfl | rfl | rfl
    all_goals
      refine ac_intro tabIs _ Tryz.func48 rfl rfl Tryz.ntmps48 rfl rfl fun w0 ok0 he0 => ?_
      repeat' (first | refine awp_seq ?_ | refine then_n ?_ | refine then_r ?_ | refine then_x ?_ | refine block_n ?_ | refine block_r ?_ | refine block_x ?_ | refine u_y ?_ | refine loop_r ?_ | refine loop_x ?_ | refine awp_region ?_ | refine awpL_nil ?_ | refine awpQL_nil ?_ | refine awp_block ?_ | refine awp_skip ?_ | refine awp_exit ?_ | refine awp_label ?_ | refine u_dT ?_ | refine u_d ?_ | refine u_l ?_ | refine u_o ?_ | refine u_q ?_ | refine u_lr ?_ | refine u_qr ?_ | refine u_ls ?_ | refine u_qs ?_ | refine u_t ?_ | refine u_f ?_ | refine v_s ?_ | refine v_o ?_ | refine v_on ?_ | refine v_og ?_ | refine v_q ?_ | refine v_sr ?_ | refine v_k ?_ | refine m_nil ?_ | ((first | refine u_sl ?_ ?_ | refine u_sq ?_ ?_) <;> (intro hb; try (simp at hb; done))) | (refine u_c ?_ ?_ <;> (intro hc; try (simp at hc; done))) | refine awp_ret ?_ | refine u_r ?_ | refine u_rC ?_)
      rfl
  . have e : dword k = [] /\ dtell k = false := by
      unfold dword dtell
      by_cases h0 : 0 <= k
      . rw [if_pos h0, if_pos h0]
        by_cases h1 : k = 0
        . subst h1; exact ⟨rfl, rfl⟩
        . have h2 : 10 <= k.toNat := by omega
          rw [List.getD_eq_getElem?_getD, List.getD_eq_getElem?_getD, List.getElem?_eq_none (by simpa [dwords] using h2), List.getElem?_eq_none (by simpa [dtold] using h2)]
          exact ⟨rfl, rfl⟩
      . rw [if_neg h0, if_neg h0]; exact ⟨rfl, rfl⟩
    have n1 : ¬ k = 1 := by omega
    have n2 : ¬ k = 2 := by omega
    have n3 : ¬ k = 3 := by omega
    have n4 : ¬ k = 4 := by omega
    have n5 : ¬ k = 5 := by omega
    have n6 : ¬ k = 6 := by omega
    have n7 : ¬ k = 7 := by omega
    have n8 : ¬ k = 8 := by omega
    have n9 : ¬ k = 9 := by omega
    clear hk
    refine ac_intro tabIs _ Tryz.func48 rfl rfl Tryz.ntmps48 rfl rfl fun w0 ok0 he0 => ?_
    repeat' (first | refine awp_seq ?_ | refine then_n ?_ | refine then_r ?_ | refine then_x ?_ | refine block_n ?_ | refine block_r ?_ | refine block_x ?_ | refine u_y ?_ | refine loop_r ?_ | refine loop_x ?_ | refine awp_region ?_ | refine awpL_nil ?_ | refine awpQL_nil ?_ | refine awp_block ?_ | refine awp_skip ?_ | refine awp_exit ?_ | refine awp_label ?_ | refine u_dT ?_ | refine u_d ?_ | refine u_l ?_ | refine u_o ?_ | refine u_q ?_ | refine u_lr ?_ | refine u_qr ?_ | refine u_ls ?_ | refine u_qs ?_ | refine u_t ?_ | refine u_f ?_ | refine v_s ?_ | refine v_o ?_ | refine v_on ?_ | refine v_og ?_ | refine v_q ?_ | refine v_sr ?_ | refine v_k ?_ | refine m_nil ?_ | ((first | refine u_sl ?_ ?_ | refine u_sq ?_ ?_) <;> (intro hb; try (simp at hb; done))) | (refine u_c ?_ ?_ <;> (intro hc; try (simp at hc; done))) | refine awp_ret ?_ | refine u_r ?_ | refine u_rC ?_)
    rw [e.1, e.2]
theorem spec_l08Words : AC Tryz.prog 103 [] (.tup [.lst (dwords.map .str), .lst (dtold.map .bool)]) := by
  refine ac_intro tabIs _ Tryz.func103 rfl rfl Tryz.ntmps103 rfl rfl fun w0 ok0 he0 => ?_
  repeat' (first | refine awp_seq ?_ | refine then_n ?_ | refine then_r ?_ | refine then_x ?_ | refine block_n ?_ | refine block_r ?_ | refine block_x ?_ | refine u_y ?_ | refine loop_r ?_ | refine loop_x ?_ | refine awp_region ?_ | refine awpL_nil ?_ | refine awpQL_nil ?_ | refine awp_block ?_ | refine awp_skip ?_ | refine awp_exit ?_ | refine awp_label ?_ | refine u_dT ?_ | refine u_d ?_ | refine u_l ?_ | refine u_o ?_ | refine u_q ?_ | refine u_lr ?_ | refine u_qr ?_ | refine u_ls ?_ | refine u_qs ?_ | refine u_t ?_ | refine u_f ?_ | refine v_s ?_ | refine v_o ?_ | refine v_on ?_ | refine v_og ?_ | refine v_q ?_ | refine v_sr ?_ | refine v_k ?_ | refine m_nil ?_ | ((first | refine u_sl ?_ ?_ | refine u_sq ?_ ?_) <;> (intro hb; try (simp at hb; done))) | (refine u_c ?_ ?_ <;> (intro hc; try (simp at hc; done))) | refine awp_ret ?_ | refine u_r ?_ | refine u_rC ?_)
  rfl
theorem dword_nil (k : Int) : decide (dword k = []) = !inB k 1 9 := by
  by_cases hk : 1 <= k /\ k <= 9
  . have : k = 1 \/ k = 2 \/ k = 3 \/ k = 4 \/ k = 5 \/ k = 6 \/ k = 7 \/ k = 8 \/ k = 9 := by omega
    rcases this with rfl | rfl | rfl | rfl | rfl | rfl | rfl | rfl | rfl <;> decide
  . have e : dword k = [] := by
      unfold dword
      by_cases h0 : 0 <= k
      . rw [if_pos h0]
        by_cases h1 : k = 0
        . subst h1; rfl
        . rw [List.getD_eq_getElem?_getD, List.getElem?_eq_none (by simp [dwords]; omega)]; rfl
      . rw [if_neg h0]
    rw [e]
    simp [inB]
    omega
def vdeed (k a : Int) : Bool := inB k 1 9 && inB a 0 999 && (dtell k || decide (a = 0))
theorem spec_l08Deed {k a : Int} : AC Tryz.prog 102 [.agg [.int .i64 k, .int .i64 a]] (.bool (vdeed k a)) := by
  by_cases h1 : inB k 1 9 = true
  . have hk : 1 <= k /\ k <= 9 := by simpa [inB] using h1
    have hx : (dtold.map D.bool)[k.toNat]? = some (.bool (dtell k)) := by
      unfold dtell
      rw [if_pos (by omega), List.getD_eq_getElem?_getD]
      have : k.toNat < dtold.length := by simp [dtold]; omega
      simp [this]
    have hk0 : 0 <= k := by omega
    refine ac_intro tabIs _ Tryz.func102 rfl rfl Tryz.ntmps102 rfl rfl fun w0 ok0 he0 => ?_
    repeat' (first | refine awp_seq ?_ | refine then_n ?_ | refine then_r ?_ | refine then_x ?_ | refine block_n ?_ | refine block_r ?_ | refine block_x ?_ | refine u_y ?_ | refine loop_r ?_ | refine loop_x ?_ | refine awp_region ?_ | refine awpL_nil ?_ | refine awpQL_nil ?_ | refine awp_block ?_ | refine awp_skip ?_ | refine awp_exit ?_ | refine awp_label ?_ | refine u_dT ?_ | refine u_d ?_ | ((first | apply c_l | apply c_q | apply c_lr | apply c_qr); (iterate 2 exact rfl); (focus (first | exact spec_l00In | exact spec_l08Words)); (iterate 2 exact rfl)) | (apply v_c; (iterate 4 exact rfl); (focus (first | exact spec_l00In | exact spec_l08Words)); (iterate 2 exact rfl)) | refine u_l ?_ | refine u_o ?_ | refine u_q ?_ | refine u_lr ?_ | refine u_qr ?_ | refine u_ls ?_ | refine u_qs ?_ | refine u_t ?_ | refine u_f ?_ | refine v_s ?_ | refine v_o ?_ | refine v_on ?_ | refine v_og ?_ | refine v_q ?_ | refine v_sr ?_ | refine v_k ?_ | refine m_nil ?_ | ((first | refine u_sl ?_ ?_ | refine u_sq ?_ ?_) <;> (intro hb; try (simp at hb; done))) | (refine u_c ?_ ?_ <;> (intro hc; try (simp at hc; done))) | refine awp_ret ?_ | refine u_r ?_ | refine u_rC ?_)
    all_goals simp_all [vdeed]
  . have h1' : inB k 1 9 = false := by simpa using h1
    refine ac_intro tabIs _ Tryz.func102 rfl rfl Tryz.ntmps102 rfl rfl fun w0 ok0 he0 => ?_
    repeat' (first | refine awp_seq ?_ | refine then_n ?_ | refine then_r ?_ | refine then_x ?_ | refine block_n ?_ | refine block_r ?_ | refine block_x ?_ | refine u_y ?_ | refine loop_r ?_ | refine loop_x ?_ | refine awp_region ?_ | refine awpL_nil ?_ | refine awpQL_nil ?_ | refine awp_block ?_ | refine awp_skip ?_ | refine awp_exit ?_ | refine awp_label ?_ | refine u_dT ?_ | refine u_d ?_ | ((first | apply c_l | apply c_q | apply c_lr | apply c_qr); (iterate 2 exact rfl); (focus (first | exact spec_l00In | exact spec_l08Words)); (iterate 2 exact rfl)) | (apply v_c; (iterate 4 exact rfl); (focus (first | exact spec_l00In | exact spec_l08Words)); (iterate 2 exact rfl)) | refine u_l ?_ | refine u_o ?_ | refine u_q ?_ | refine u_lr ?_ | refine u_qr ?_ | refine u_ls ?_ | refine u_qs ?_ | refine u_t ?_ | refine u_f ?_ | refine v_s ?_ | refine v_o ?_ | refine v_on ?_ | refine v_og ?_ | refine v_q ?_ | refine v_sr ?_ | refine v_k ?_ | refine m_nil ?_ | ((first | refine u_sl ?_ ?_ | refine u_sq ?_ ?_) <;> (intro hb; try (simp at hb; done))) | (refine u_c ?_ ?_ <;> (intro hc; try (simp at hc; done))) | refine awp_ret ?_ | refine u_r ?_ | refine u_rC ?_)
    all_goals simp_all [vdeed]
theorem impl_ValidDeed {k a : Int} : AC Tryz.prog 15 [.agg [.int .i64 k, .int .i64 a]] (.bool (vdeed k a)) := by
  have e := dword_nil k
  refine ac_intro tabIs _ Tryz.func15 rfl rfl Tryz.ntmps15 rfl rfl fun w0 ok0 he0 => ?_
  repeat' (first | refine awp_seq ?_ | refine then_n ?_ | refine then_r ?_ | refine then_x ?_ | refine block_n ?_ | refine block_r ?_ | refine block_x ?_ | refine u_y ?_ | refine loop_r ?_ | refine loop_x ?_ | refine awp_region ?_ | refine awpL_nil ?_ | refine awpQL_nil ?_ | refine awp_block ?_ | refine awp_skip ?_ | refine awp_exit ?_ | refine awp_label ?_ | refine u_dT ?_ | refine u_d ?_ | ((first | apply c_l | apply c_q | apply c_lr | apply c_qr); (iterate 2 exact rfl); (focus (first | exact impl_deedWord | exact impl_within)); (iterate 2 exact rfl)) | (apply v_c; (iterate 4 exact rfl); (focus (first | exact impl_deedWord | exact impl_within)); (iterate 2 exact rfl)) | refine u_l ?_ | refine u_o ?_ | refine u_q ?_ | refine u_lr ?_ | refine u_qr ?_ | refine u_ls ?_ | refine u_qs ?_ | refine u_t ?_ | refine u_f ?_ | refine v_s ?_ | refine v_o ?_ | refine v_on ?_ | refine v_og ?_ | refine v_q ?_ | refine v_sr ?_ | refine v_k ?_ | refine m_nil ?_ | ((first | refine u_sl ?_ ?_ | refine u_sq ?_ ?_) <;> (intro hb; try (simp at hb; done))) | (refine u_c ?_ ?_ <;> (intro hc; try (simp at hc; done))) | refine awp_ret ?_ | refine u_r ?_ | refine u_rC ?_)
  all_goals (rw [e] at *; simp_all [vdeed])
end Go.Proofs.YtffmlijngfhhaaaGreatDoor
namespace Go.Proofs.YtffmlijngfhhaaaGreatDoor
open Go
attribute [local irreducible] awp awpL awpQL awpQ awpM pWalk Qt AC thenQ blockQ loopQ OpTo
set_option linter.unusedVariables false
set_option linter.unusedSimpArgs false
set_option maxHeartbeats 2000000
theorem el_int {ns : List Int} {k : Nat} (h : k < ns.length) : (ns.map (D.int .i64))[(k : Int).toNat]? = some (.int .i64 ns[k]) := by simp [h]
theorem el_row {nss : List (List Int)} {k : Nat} (h : k < nss.length) : (nss.map ints)[(k : Int).toNat]? = some (ints nss[k]) := by simp [h]
end Go.Proofs.YtffmlijngfhhaaaGreatDoor
namespace Go.Proofs.YtffmlijngfhhaaaGreatDoor
open Go
attribute [local irreducible] awp awpL awpQL awpQ awpM pWalk Qt AC thenQ blockQ loopQ OpTo
set_option linter.unusedVariables false
set_option linter.unusedSimpArgs false
set_option maxHeartbeats 2000000
def findI {α : Type} (p : α -> Bool) : Nat -> List α -> Int
  | _, [] => -1
  | k, x :: xs => if p x then k else findI p (k + 1) xs
theorem findI_drop {α : Type} (p : α -> Bool) (xs : List α) (k : Nat) (hk : k < xs.length) : findI p k (xs.drop k) = if p xs[k] then (k : Int) else findI p (k + 1) (xs.drop (k + 1)) := by
  rw [List.drop_eq_getElem_cons hk, findI]
theorem findI_any {α : Type} (p : α -> Bool) : ∀ (xs : List α) (k : Nat), decide (0 <= findI p k xs) = xs.any p
  | [], k => by simp [findI]
  | x :: xs, k => by
    unfold findI
    cases hx : p x
    . simp [hx, findI_any p xs (k + 1)]
    . simp [hx]
theorem indexFunc_int {xs : List Int} {g : Nat} {cap : List D} (p : Int -> Bool) (hp : ∀ x ∈ xs, AC Tryz.prog g (.int .i64 x :: cap) (.bool (p x))) (hl : xs.length <= 9223372036854775807) :
    AC Tryz.prog 164 [ints xs, .fn g cap] (.int .i64 (findI p 0 xs)) := by
  refine ac_intro tabIs _ Tryz.func164 rfl rfl Tryz.ntmps164 rfl rfl fun w0 ok0 he0 => ?_
  have hle : (List.map (D.int IntKind.i64) xs).length = xs.length := by simp
  repeat (first | refine zc ?_ | refine zv ?_)
  refine awp_loop (fun k : Nat => k <= xs.length /\ findI p k (xs.drop k) = findI p 0 xs)
    (fun k => [(0, .d (ints xs)), (1, .d (.fn g cap)), (7, .d (.int .i64 xs.length)), (8, .d (.int .i64 k))]) (fun _ => []) (fun k => xs.length - k) 0 (by simp) ?_ rfl ?_
  . exact zs
  . rintro k ⟨hk, hf⟩
    by_cases hlt : k < xs.length
    . have hx := el_int hlt
      rw [findI_drop p xs k hlt] at hf
      repeat (first | refine zc ?_ | refine zk (e := by exact hp _ (List.getElem_mem hlt)) (n := ?_) | refine zv ?_)
      cases hpx : p xs[k]
      . rw [hpx] at hf
        repeat (first | refine zc ?_ | refine zv ?_)
        refine loop_n (k + 1) ⟨by omega, by simpa using hf⟩ ?_ rfl (by omega)
        exact zs
      . rw [hpx] at hf
        repeat (first | refine zc ?_ | refine zv ?_)
        refine zt ?_
        simpa using hf
    . have : k = xs.length := by omega
      subst this
      repeat (first | refine zc ?_ | refine zv ?_)
      refine zt ?_
      simpa [findI] using hf
theorem containsFunc_int {xs : List Int} {g : Nat} {cap : List D} (p : Int -> Bool) (hp : ∀ x ∈ xs, AC Tryz.prog g (.int .i64 x :: cap) (.bool (p x))) (hl : xs.length <= 9223372036854775807) :
    AC Tryz.prog 129 [ints xs, .fn g cap] (.bool (xs.any p)) := by
  refine ac_intro tabIs _ Tryz.func129 rfl rfl Tryz.ntmps129 rfl rfl fun w0 ok0 he0 => ?_
  repeat (first | refine zc ?_ | refine zk (e := by exact indexFunc_int p hp hl) (n := ?_) | refine zv ?_)
  refine zt ?_
  rw [findI_any]
theorem indexFunc_row {xs : List (List Int)} {g : Nat} {cap : List D} (p : List Int -> Bool) (hp : ∀ x ∈ xs, AC Tryz.prog g (ints x :: cap) (.bool (p x))) (hl : xs.length <= 9223372036854775807) :
    AC Tryz.prog 128 [rows xs, .fn g cap] (.int .i64 (findI p 0 xs)) := by
  refine ac_intro tabIs _ Tryz.func128 rfl rfl Tryz.ntmps128 rfl rfl fun w0 ok0 he0 => ?_
  have hle : (List.map ints xs).length = xs.length := by simp
  repeat (first | refine zc ?_ | refine zv ?_)
  refine awp_loop (fun k : Nat => k <= xs.length /\ findI p k (xs.drop k) = findI p 0 xs)
    (fun k => [(0, .d (rows xs)), (1, .d (.fn g cap)), (7, .d (.int .i64 xs.length)), (8, .d (.int .i64 k))]) (fun _ => []) (fun k => xs.length - k) 0 (by simp) ?_ rfl ?_
  . exact zs
  . rintro k ⟨hk, hf⟩
    by_cases hlt : k < xs.length
    . have hx := el_row hlt
      rw [findI_drop p xs k hlt] at hf
      repeat (first | refine zc ?_ | refine zk (e := by exact hp _ (List.getElem_mem hlt)) (n := ?_) | refine zv ?_)
      cases hpx : p xs[k]
      . rw [hpx] at hf
        repeat (first | refine zc ?_ | refine zv ?_)
        refine loop_n (k + 1) ⟨by omega, by simpa using hf⟩ ?_ rfl (by omega)
        exact zs
      . rw [hpx] at hf
        repeat (first | refine zc ?_ | refine zv ?_)
        refine zt ?_
        simpa using hf
    . have : k = xs.length := by omega
      subst this
      repeat (first | refine zc ?_ | refine zv ?_)
      refine zt ?_
      simpa [findI] using hf
theorem containsFunc_row {xs : List (List Int)} {g : Nat} {cap : List D} (p : List Int -> Bool) (hp : ∀ x ∈ xs, AC Tryz.prog g (ints x :: cap) (.bool (p x))) (hl : xs.length <= 9223372036854775807) :
    AC Tryz.prog 71 [rows xs, .fn g cap] (.bool (xs.any p)) := by
  refine ac_intro tabIs _ Tryz.func71 rfl rfl Tryz.ntmps71 rfl rfl fun w0 ok0 he0 => ?_
  repeat (first | refine zc ?_ | refine zk (e := by exact indexFunc_row p hp hl) (n := ?_) | refine zv ?_)
  refine zt ?_
  rw [findI_any]
theorem impl_size1 {ns : List Int} : AC Tryz.prog 73 [ints ns] (.int .i64 ns.length) := by
  refine ac_intro tabIs _ Tryz.func73 rfl rfl Tryz.ntmps73 rfl rfl fun w0 ok0 he0 => ?_
  repeat' (first | refine awp_seq ?_ | refine then_n ?_ | refine then_r ?_ | refine then_x ?_ | refine block_n ?_ | refine block_r ?_ | refine block_x ?_ | refine u_y ?_ | refine loop_r ?_ | refine loop_x ?_ | refine awp_region ?_ | refine awpL_nil ?_ | refine awpQL_nil ?_ | refine awp_block ?_ | refine awp_skip ?_ | refine awp_exit ?_ | refine awp_label ?_ | refine u_dT ?_ | refine u_d ?_ | refine u_l ?_ | refine u_o ?_ | refine u_q ?_ | refine u_lr ?_ | refine u_qr ?_ | refine u_ls ?_ | refine u_qs ?_ | refine u_t ?_ | refine u_f ?_ | refine v_s ?_ | refine v_o ?_ | refine v_on ?_ | refine v_og ?_ | refine v_q ?_ | refine v_sr ?_ | refine v_k ?_ | refine m_nil ?_ | ((first | refine u_sl ?_ ?_ | refine u_sq ?_ ?_) <;> (intro hb; try (simp at hb; done))) | (refine u_c ?_ ?_ <;> (intro hc; try (simp at hc; done))) | refine awp_ret ?_ | refine u_r ?_ | refine u_rC ?_)
  simp
theorem impl_size2 {nss : List (List Int)} : AC Tryz.prog 57 [rows nss] (.int .i64 nss.length) := by
  refine ac_intro tabIs _ Tryz.func57 rfl rfl Tryz.ntmps57 rfl rfl fun w0 ok0 he0 => ?_
  repeat' (first | refine awp_seq ?_ | refine then_n ?_ | refine then_r ?_ | refine then_x ?_ | refine block_n ?_ | refine block_r ?_ | refine block_x ?_ | refine u_y ?_ | refine loop_r ?_ | refine loop_x ?_ | refine awp_region ?_ | refine awpL_nil ?_ | refine awpQL_nil ?_ | refine awp_block ?_ | refine awp_skip ?_ | refine awp_exit ?_ | refine awp_label ?_ | refine u_dT ?_ | refine u_d ?_ | refine u_l ?_ | refine u_o ?_ | refine u_q ?_ | refine u_lr ?_ | refine u_qr ?_ | refine u_ls ?_ | refine u_qs ?_ | refine u_t ?_ | refine u_f ?_ | refine v_s ?_ | refine v_o ?_ | refine v_on ?_ | refine v_og ?_ | refine v_q ?_ | refine v_sr ?_ | refine v_k ?_ | refine m_nil ?_ | ((first | refine u_sl ?_ ?_ | refine u_sq ?_ ?_) <;> (intro hb; try (simp at hb; done))) | (refine u_c ?_ ?_ <;> (intro hc; try (simp at hc; done))) | refine awp_ret ?_ | refine u_r ?_ | refine u_rC ?_)
  simp
def allIn (ns : List Int) (lo hi : Int) : Bool := ns.all fun n => inB n lo hi
theorem impl_areWithin1 {n lo hi : Int} : AC Tryz.prog 130 [.int .i64 n, .ptr (.int .i64 lo), .ptr (.int .i64 hi)] (.bool (!inB n lo hi)) := by
  refine ac_intro tabIs _ Tryz.func130 rfl rfl Tryz.ntmps130 rfl rfl fun w0 ok0 he0 => ?_
  repeat' (first | refine awp_seq ?_ | refine then_n ?_ | refine then_r ?_ | refine then_x ?_ | refine block_n ?_ | refine block_r ?_ | refine block_x ?_ | refine u_y ?_ | refine loop_r ?_ | refine loop_x ?_ | refine awp_region ?_ | refine awpL_nil ?_ | refine awpQL_nil ?_ | refine awp_block ?_ | refine awp_skip ?_ | refine awp_exit ?_ | refine awp_label ?_ | refine u_dT ?_ | refine u_d ?_ | ((first | apply c_l | apply c_q | apply c_lr | apply c_qr); (iterate 2 exact rfl); (focus (first | exact impl_within)); (iterate 2 exact rfl)) | (apply v_c; (iterate 4 exact rfl); (focus (first | exact impl_within)); (iterate 2 exact rfl)) | refine u_l ?_ | refine u_o ?_ | refine u_q ?_ | refine u_lr ?_ | refine u_qr ?_ | refine u_ls ?_ | refine u_qs ?_ | refine u_t ?_ | refine u_f ?_ | refine v_s ?_ | refine v_o ?_ | refine v_on ?_ | refine v_og ?_ | refine v_q ?_ | refine v_sr ?_ | refine v_k ?_ | refine m_nil ?_ | ((first | refine u_sl ?_ ?_ | refine u_sq ?_ ?_) <;> (intro hb; try (simp at hb; done))) | (refine u_c ?_ ?_ <;> (intro hc; try (simp at hc; done))) | refine awp_ret ?_ | refine u_r ?_ | refine u_rC ?_)
  rfl
theorem impl_areWithin {ns : List Int} {lo hi : Int} (hl : ns.length <= 9223372036854775807) : AC Tryz.prog 74 [ints ns, .int .i64 lo, .int .i64 hi] (.bool (allIn ns lo hi)) := by
  refine ac_intro tabIs _ Tryz.func74 rfl rfl Tryz.ntmps74 rfl rfl fun w0 ok0 he0 => ?_
  repeat (first | refine zc ?_ | refine zk (e := by exact containsFunc_int (fun n => !inB n lo hi) (fun _ _ => impl_areWithin1) hl) (n := ?_) | refine zv ?_)
  refine zt ?_
  simp [allIn, List.not_any_eq_all_not]
def rowOk (n hi : Int) (ns : List Int) : Bool := decide ((ns.length : Int) = n) && allIn ns 0 (hi - 1)
def autoOk (s : Int) (nx : List (List Int)) : Bool := inB s 1 10 && inB nx.length 1 3 && nx.all (rowOk s s)
theorem impl_letters {s : Int} {nx : List (List Int)} : AC Tryz.prog 111 [.agg [.int .i64 s, rows nx]] (.int .i64 nx.length) := by
  refine ac_intro tabIs _ Tryz.func111 rfl rfl Tryz.ntmps111 rfl rfl fun w0 ok0 he0 => ?_
  repeat' (first | refine awp_seq ?_ | refine then_n ?_ | refine then_r ?_ | refine then_x ?_ | refine block_n ?_ | refine block_r ?_ | refine block_x ?_ | refine u_y ?_ | refine loop_r ?_ | refine loop_x ?_ | refine awp_region ?_ | refine awpL_nil ?_ | refine awpQL_nil ?_ | refine awp_block ?_ | refine awp_skip ?_ | refine awp_exit ?_ | refine awp_label ?_ | refine u_dT ?_ | refine u_d ?_ | ((first | apply c_l | apply c_q | apply c_lr | apply c_qr); (iterate 2 exact rfl); (focus (first | exact impl_size2)); (iterate 2 exact rfl)) | (apply v_c; (iterate 4 exact rfl); (focus (first | exact impl_size2)); (iterate 2 exact rfl)) | refine u_l ?_ | refine u_o ?_ | refine u_q ?_ | refine u_lr ?_ | refine u_qr ?_ | refine u_ls ?_ | refine u_qs ?_ | refine u_t ?_ | refine u_f ?_ | refine v_s ?_ | refine v_o ?_ | refine v_on ?_ | refine v_og ?_ | refine v_q ?_ | refine v_sr ?_ | refine v_k ?_ | refine m_nil ?_ | ((first | refine u_sl ?_ ?_ | refine u_sq ?_ ?_) <;> (intro hb; try (simp at hb; done))) | (refine u_c ?_ ?_ <;> (intro hc; try (simp at hc; done))) | refine awp_ret ?_ | refine u_r ?_ | refine u_rC ?_)
  rfl
theorem impl_ValidAutomaton1 {s : Int} {nx : List (List Int)} {ns : List Int} (hs : 1 <= s /\ s <= 10) (hl : ns.length <= 9223372036854775807) : AC Tryz.prog 127 [ints ns, .ptr (.agg [.int .i64 s, rows nx])] (.bool (!rowOk s s ns)) := by
  refine ac_intro tabIs _ Tryz.func127 rfl rfl Tryz.ntmps127 rfl rfl fun w0 ok0 he0 => ?_
  repeat' (first | refine awp_seq ?_ | refine then_n ?_ | refine then_r ?_ | refine then_x ?_ | refine block_n ?_ | refine block_r ?_ | refine block_x ?_ | refine u_y ?_ | refine loop_r ?_ | refine loop_x ?_ | refine awp_region ?_ | refine awpL_nil ?_ | refine awpQL_nil ?_ | refine awp_block ?_ | refine awp_skip ?_ | refine awp_exit ?_ | refine awp_label ?_ | refine u_dT ?_ | refine u_d ?_ | ((first | apply c_l | apply c_q | apply c_lr | apply c_qr); (iterate 2 exact rfl); (focus (first | exact impl_size1 | (apply impl_areWithin; (iterate 1 (focus (first | assumption | omega | (simp; omega) | (simp; done) | rfl)))))); (iterate 2 exact rfl)) | (apply v_c; (iterate 4 exact rfl); (focus (first | exact impl_size1 | (apply impl_areWithin; (iterate 1 (focus (first | assumption | omega | (simp; omega) | (simp; done) | rfl)))))); (iterate 2 exact rfl)) | refine u_l ?_ | refine u_o ?_ | refine u_q ?_ | refine u_lr ?_ | refine u_qr ?_ | refine u_ls ?_ | refine u_qs ?_ | refine u_t ?_ | refine u_f ?_ | refine v_s ?_ | refine v_o ?_ | refine v_on ?_ | refine v_og ?_ | refine v_q ?_ | refine v_sr ?_ | refine v_k ?_ | refine m_nil ?_ | ((first | refine u_sl ?_ ?_ | refine u_sq ?_ ?_) <;> (intro hb; try (simp at hb; done))) | (refine u_c ?_ ?_ <;> (intro hc; try (simp at hc; done))) | refine awp_ret ?_ | refine u_r ?_ | refine u_rC ?_)
  all_goals simp_all [rowOk]
theorem impl_ValidAutomaton {s : Int} {nx : List (List Int)} (h : RowsOk nx) : AC Tryz.prog 69 [.agg [.int .i64 s, rows nx]] (.bool (autoOk s nx)) := by
  by_cases hs : 1 <= s /\ s <= 10
  . have hb : inB s 1 10 = true := by simpa [inB] using hs
    have hw : AC Tryz.prog 50 [.int .i64 s, .int .i64 1, .int .i64 10] (.bool true) := hb ▸ impl_within
    refine ac_intro tabIs _ Tryz.func69 rfl rfl Tryz.ntmps69 rfl rfl fun w0 ok0 he0 => ?_
    repeat' (first | refine awp_seq ?_ | refine then_n ?_ | refine then_r ?_ | refine then_x ?_ | refine block_n ?_ | refine block_r ?_ | refine block_x ?_ | refine u_y ?_ | refine loop_r ?_ | refine loop_x ?_ | refine awp_region ?_ | refine awpL_nil ?_ | refine awpQL_nil ?_ | refine awp_block ?_ | refine awp_skip ?_ | refine awp_exit ?_ | refine awp_label ?_ | refine u_dT ?_ | refine u_d ?_ | ((first | apply c_l | apply c_q | apply c_lr | apply c_qr); (iterate 2 exact rfl); (focus (first | exact hw | exact impl_within | exact impl_letters | exact containsFunc_row (fun ns => !rowOk s s ns) (fun ns hn => impl_ValidAutomaton1 hs (h.1 ns hn).2) h.2)); (iterate 2 exact rfl)) | (apply v_c; (iterate 4 exact rfl); (focus (first | exact hw | exact impl_within | exact impl_letters | exact containsFunc_row (fun ns => !rowOk s s ns) (fun ns hn => impl_ValidAutomaton1 hs (h.1 ns hn).2) h.2)); (iterate 2 exact rfl)) | refine u_l ?_ | refine u_o ?_ | refine u_q ?_ | refine u_lr ?_ | refine u_qr ?_ | refine u_ls ?_ | refine u_qs ?_ | refine u_t ?_ | refine u_f ?_ | refine v_s ?_ | refine v_o ?_ | refine v_on ?_ | refine v_og ?_ | refine v_q ?_ | refine v_sr ?_ | refine v_k ?_ | refine m_nil ?_ | ((first | refine u_sl ?_ ?_ | refine u_sq ?_ ?_) <;> (intro hb; try (simp at hb; done))) | (refine u_c ?_ ?_ <;> (intro hc; try (simp at hc; done))) | refine awp_ret ?_ | refine u_r ?_ | refine u_rC ?_)
    all_goals simp_all [autoOk, List.not_any_eq_all_not]
  . have hb : inB s 1 10 = false := by simp [inB]; omega
    have hw : AC Tryz.prog 50 [.int .i64 s, .int .i64 1, .int .i64 10] (.bool false) := hb ▸ impl_within
    refine ac_intro tabIs _ Tryz.func69 rfl rfl Tryz.ntmps69 rfl rfl fun w0 ok0 he0 => ?_
    repeat' (first | refine awp_seq ?_ | refine then_n ?_ | refine then_r ?_ | refine then_x ?_ | refine block_n ?_ | refine block_r ?_ | refine block_x ?_ | refine u_y ?_ | refine loop_r ?_ | refine loop_x ?_ | refine awp_region ?_ | refine awpL_nil ?_ | refine awpQL_nil ?_ | refine awp_block ?_ | refine awp_skip ?_ | refine awp_exit ?_ | refine awp_label ?_ | refine u_dT ?_ | refine u_d ?_ | ((first | apply c_l | apply c_q | apply c_lr | apply c_qr); (iterate 2 exact rfl); (focus (first | exact hw)); (iterate 2 exact rfl)) | (apply v_c; (iterate 4 exact rfl); (focus (first | exact hw)); (iterate 2 exact rfl)) | refine u_l ?_ | refine u_o ?_ | refine u_q ?_ | refine u_lr ?_ | refine u_qr ?_ | refine u_ls ?_ | refine u_qs ?_ | refine u_t ?_ | refine u_f ?_ | refine v_s ?_ | refine v_o ?_ | refine v_on ?_ | refine v_og ?_ | refine v_q ?_ | refine v_sr ?_ | refine v_k ?_ | refine m_nil ?_ | ((first | refine u_sl ?_ ?_ | refine u_sq ?_ ?_) <;> (intro hb; try (simp at hb; done))) | (refine u_c ?_ ?_ <;> (intro hc; try (simp at hc; done))) | refine awp_ret ?_ | refine u_r ?_ | refine u_rC ?_)
    all_goals simp_all [autoOk]
def litOk (s : Int) (nx : List (List Int)) (lp : List Int) : Bool := autoOk s nx && (decide ((lp.length : Int) = s) && allIn lp 0 3)
theorem impl_ValidLit {s : Int} {nx : List (List Int)} {lp : List Int} (h : RowsOk nx) (h2 : lp.length <= 9223372036854775807) : AC Tryz.prog 97 [.agg [.int .i64 s, rows nx, ints lp]] (.bool (litOk s nx lp)) := by
  refine ac_intro tabIs _ Tryz.func97 rfl rfl Tryz.ntmps97 rfl rfl fun w0 ok0 he0 => ?_
  repeat' (first | refine awp_seq ?_ | refine then_n ?_ | refine then_r ?_ | refine then_x ?_ | refine block_n ?_ | refine block_r ?_ | refine block_x ?_ | refine u_y ?_ | refine loop_r ?_ | refine loop_x ?_ | refine awp_region ?_ | refine awpL_nil ?_ | refine awpQL_nil ?_ | refine awp_block ?_ | refine awp_skip ?_ | refine awp_exit ?_ | refine awp_label ?_ | refine u_dT ?_ | refine u_d ?_ | ((first | apply c_l | apply c_q | apply c_lr | apply c_qr); (iterate 2 exact rfl); (focus (first | (apply impl_ValidAutomaton; (iterate 1 (focus (first | assumption | omega | (simp; omega) | (simp; done) | rfl)))) | exact impl_size1 | (apply impl_areWithin; (iterate 1 (focus (first | assumption | omega | (simp; omega) | (simp; done) | rfl)))))); (iterate 2 exact rfl)) | (apply v_c; (iterate 4 exact rfl); (focus (first | (apply impl_ValidAutomaton; (iterate 1 (focus (first | assumption | omega | (simp; omega) | (simp; done) | rfl)))) | exact impl_size1 | (apply impl_areWithin; (iterate 1 (focus (first | assumption | omega | (simp; omega) | (simp; done) | rfl)))))); (iterate 2 exact rfl)) | refine u_l ?_ | refine u_o ?_ | refine u_q ?_ | refine u_lr ?_ | refine u_qr ?_ | refine u_ls ?_ | refine u_qs ?_ | refine u_t ?_ | refine u_f ?_ | refine v_s ?_ | refine v_o ?_ | refine v_on ?_ | refine v_og ?_ | refine v_q ?_ | refine v_sr ?_ | refine v_k ?_ | refine m_nil ?_ | ((first | refine u_sl ?_ ?_ | refine u_sq ?_ ?_) <;> (intro hb; try (simp at hb; done))) | (refine u_c ?_ ?_ <;> (intro hc; try (simp at hc; done))) | refine awp_ret ?_ | refine u_r ?_ | refine u_rC ?_)
  all_goals simp_all [litOk]
end Go.Proofs.YtffmlijngfhhaaaGreatDoor
namespace Go.Proofs.YtffmlijngfhhaaaGreatDoor
open Go
attribute [local irreducible] awp awpL awpQL awpQ awpM pWalk Qt AC thenQ blockQ loopQ OpTo
set_option linter.unusedVariables false
set_option linter.unusedSimpArgs false
set_option maxHeartbeats 2000000
theorem all_drop {α : Type} (p : α -> Bool) {xs : List α} {k : Nat} (h : k < xs.length) : (xs.drop k).all p = (p xs[k] && (xs.drop (k + 1)).all p) := by
  rw [List.drop_eq_getElem_cons h, List.all_cons]
theorem spec_l01Map {ns : List Int} {n : Int} (hn : -1048576 <= n /\ n <= 1048576) (hl : ns.length <= 9223372036854775807) : AC Tryz.prog 163 [ints ns, .int .i64 n] (.bool (rowOk n n ns)) := by
  refine ac_intro tabIs _ Tryz.func163 rfl rfl Tryz.ntmps163 rfl rfl fun w0 ok0 he0 => ?_
  have hle : (List.map (D.int IntKind.i64) ns).length = ns.length := by simp
  repeat (first | refine zc ?_ | refine zv ?_)
  refine awp_loop (fun k : Nat => k <= ns.length /\ allIn (ns.drop k) 0 (n - 1) = allIn ns 0 (n - 1))
    (fun k => [(0, .d (ints ns)), (1, .d (.int .i64 n)), (5, .d (.int .i64 k))]) (fun _ => []) (fun k => ns.length - k) 0 (by simp) ?_ rfl ?_
  . exact zs
  . rintro k ⟨hk, hf⟩
    by_cases hlt : k < ns.length
    . have hx := el_int hlt
      unfold allIn at hf
      rw [all_drop _ hlt] at hf
      cases hb : inB ns[k] 0 (n - 1)
      . have hw : AC Tryz.prog 86 [.int .i64 ns[k], .int .i64 0, .int .i64 (n - 1)] (.bool false) := hb ▸ spec_l00In
        repeat (first | refine zc ?_ | refine zk (e := by exact hw) (n := ?_) | refine zv ?_)
        refine zt ?_
        rw [hb] at hf
        simp only [Bool.false_and] at hf
        simp [rowOk, allIn, <- hf]
      . have hw : AC Tryz.prog 86 [.int .i64 ns[k], .int .i64 0, .int .i64 (n - 1)] (.bool true) := hb ▸ spec_l00In
        repeat (first | refine zc ?_ | refine zk (e := by exact hw) (n := ?_) | refine zv ?_)
        rw [hb] at hf
        refine loop_n (k + 1) ⟨by omega, by simpa [allIn] using hf⟩ ?_ rfl (by omega)
        exact zs
    . have : k = ns.length := by omega
      subst this
      repeat (first | refine zc ?_ | refine zv ?_)
      refine zt ?_
      simp [allIn] at hf
      simp [rowOk, allIn, <- hf]
      intro _; exact hf
theorem spec_l01Ok {s : Int} {nx : List (List Int)} (h : RowsOk nx) : AC Tryz.prog 124 [.ptr (.agg [.int .i64 s, rows nx])] (.bool (autoOk s nx)) := by
  by_cases hs : 1 <= s /\ s <= 10
  . have hb : inB s 1 10 = true := by simpa [inB] using hs
    have hw : AC Tryz.prog 86 [.int .i64 s, .int .i64 1, .int .i64 10] (.bool true) := hb ▸ spec_l00In
    have hle : (List.map ints nx).length = nx.length := by simp
    have h2 := h.2
    cases hc : inB nx.length 1 3
    . have hw2 : AC Tryz.prog 86 [.int .i64 nx.length, .int .i64 1, .int .i64 3] (.bool false) := hc ▸ spec_l00In
      refine ac_intro tabIs _ Tryz.func124 rfl rfl Tryz.ntmps124 rfl rfl fun w0 ok0 he0 => ?_
      repeat (first | refine zc ?_ | refine zk (e := by exact hw) (n := ?_) | refine zk (e := by exact hw2) (n := ?_) | refine zk (e := by exact by rw [hle]; exact hw2) (n := ?_) | refine zv ?_)
      refine zt ?_
      simp [autoOk, hc]
    . have hw2 : AC Tryz.prog 86 [.int .i64 nx.length, .int .i64 1, .int .i64 3] (.bool true) := hc ▸ spec_l00In
      refine ac_intro tabIs _ Tryz.func124 rfl rfl Tryz.ntmps124 rfl rfl fun w0 ok0 he0 => ?_
      repeat (first | refine zc ?_ | refine zk (e := by exact hw) (n := ?_) | refine zk (e := by exact hw2) (n := ?_) | refine zk (e := by exact by rw [hle]; exact hw2) (n := ?_) | refine zv ?_)
      refine awp_loop (fun k : Nat => k <= nx.length /\ (nx.drop k).all (rowOk s s) = nx.all (rowOk s s))
        (fun k => [(0, .d (.ptr (.agg [.int .i64 s, rows nx]))), (3, .d (.int .i64 k))]) (fun _ => []) (fun k => nx.length - k) 0 (by simp) ?_ rfl ?_
      . exact zs
      . rintro k ⟨hk, hf⟩
        by_cases hlt : k < nx.length
        . have hx := el_row hlt
          have hl : nx[k].length <= 9223372036854775807 := (h.1 _ (List.getElem_mem hlt)).2
          rw [all_drop _ hlt] at hf
          cases hr : rowOk s s nx[k]
          . have hw3 : AC Tryz.prog 163 [ints nx[k], .int .i64 s] (.bool false) := hr ▸ spec_l01Map (by omega) hl
            repeat (first | refine zc ?_ | refine zk (e := by exact hw3) (n := ?_) | refine zv ?_)
            refine zt ?_
            rw [hr] at hf
            simp only [Bool.false_and] at hf
            simp [autoOk, <- hf]
          . have hw3 : AC Tryz.prog 163 [ints nx[k], .int .i64 s] (.bool true) := hr ▸ spec_l01Map (by omega) hl
            repeat (first | refine zc ?_ | refine zk (e := by exact hw3) (n := ?_) | refine zv ?_)
            rw [hr] at hf
            refine loop_n (k + 1) ⟨by omega, by simpa using hf⟩ ?_ rfl (by omega)
            exact zs
        . have : k = nx.length := by omega
          subst this
          repeat (first | refine zc ?_ | refine zv ?_)
          refine zt ?_
          simp only [List.drop_length, List.all_nil] at hf
          simp [autoOk, <- hf, hb, hc]
  . have hb : inB s 1 10 = false := by simp [inB]; omega
    have hw : AC Tryz.prog 86 [.int .i64 s, .int .i64 1, .int .i64 10] (.bool false) := hb ▸ spec_l00In
    refine ac_intro tabIs _ Tryz.func124 rfl rfl Tryz.ntmps124 rfl rfl fun w0 ok0 he0 => ?_
    repeat (first | refine zc ?_ | refine zk (e := by exact hw) (n := ?_) | refine zv ?_)
    refine zt ?_
    simp [autoOk, hb]
theorem spec_l08Ok {s : Int} {nx : List (List Int)} {lp : List Int} (h : RowsOk nx) (h2 : lp.length <= 9223372036854775807) : AC Tryz.prog 84 [.ptr (.agg [.int .i64 s, rows nx, ints lp])] (.bool (litOk s nx lp)) := by
  have hle : (List.map (D.int IntKind.i64) lp).length = lp.length := by simp
  cases ha : autoOk s nx
  . have hw : AC Tryz.prog 124 [.ptr (.agg [.int .i64 s, rows nx])] (.bool false) := ha ▸ spec_l01Ok h
    refine ac_intro tabIs _ Tryz.func84 rfl rfl Tryz.ntmps84 rfl rfl fun w0 ok0 he0 => ?_
    repeat (first | refine zc ?_ | refine zk (e := by exact hw) (n := ?_) | refine zv ?_)
    refine zt ?_
    simp [litOk, ha]
  . have hw : AC Tryz.prog 124 [.ptr (.agg [.int .i64 s, rows nx])] (.bool true) := ha ▸ spec_l01Ok h
    by_cases hs : (lp.length : Int) = s
    . have hs' : ((List.map (D.int IntKind.i64) lp).length : Int) = s := by rw [hle]; exact hs
      refine ac_intro tabIs _ Tryz.func84 rfl rfl Tryz.ntmps84 rfl rfl fun w0 ok0 he0 => ?_
      repeat (first | refine zc ?_ | refine zk (e := by exact hw) (n := ?_) | refine zv ?_)
      refine awp_loop (fun k : Nat => k <= lp.length /\ allIn (lp.drop k) 0 3 = allIn lp 0 3)
        (fun k => [(0, .d (.ptr (.agg [.int .i64 s, rows nx, ints lp]))), (3, .d (.int .i64 k))]) (fun _ => []) (fun k => lp.length - k) 0 (by simp) ?_ rfl ?_
      . exact zs
      . rintro k ⟨hk, hf⟩
        by_cases hlt : k < lp.length
        . have hx := el_int hlt
          unfold allIn at hf
          rw [all_drop _ hlt] at hf
          cases hb : inB lp[k] 0 3
          . have hw2 : AC Tryz.prog 86 [.int .i64 lp[k], .int .i64 0, .int .i64 3] (.bool false) := hb ▸ spec_l00In
            repeat (first | refine zc ?_ | refine zk (e := by exact hw2) (n := ?_) | refine zv ?_)
            refine zt ?_
            rw [hb] at hf
            simp only [Bool.false_and] at hf
            simp [litOk, allIn, <- hf]
          . have hw2 : AC Tryz.prog 86 [.int .i64 lp[k], .int .i64 0, .int .i64 3] (.bool true) := hb ▸ spec_l00In
            repeat (first | refine zc ?_ | refine zk (e := by exact hw2) (n := ?_) | refine zv ?_)
            rw [hb] at hf
            refine loop_n (k + 1) ⟨by omega, by simpa [allIn] using hf⟩ ?_ rfl (by omega)
            exact zs
        . have : k = lp.length := by omega
          subst this
          repeat (first | refine zc ?_ | refine zv ?_)
          refine zt ?_
          simp [allIn] at hf
          simp [litOk, allIn, ha, hs]
          exact hf
    . have hs' : ¬ ((List.map (D.int IntKind.i64) lp).length : Int) = s := by rw [hle]; exact hs
      refine ac_intro tabIs _ Tryz.func84 rfl rfl Tryz.ntmps84 rfl rfl fun w0 ok0 he0 => ?_
      repeat (first | refine zc ?_ | refine zk (e := by exact hw) (n := ?_) | refine zv ?_)
      refine zt ?_
      simp [litOk, hs]
end Go.Proofs.YtffmlijngfhhaaaGreatDoor
namespace Go.Proofs.YtffmlijngfhhaaaGreatDoor
open Go
attribute [local irreducible] awp awpL awpQL awpQ awpM pWalk Qt AC thenQ blockQ loopQ OpTo
set_option linter.unusedVariables false
set_option linter.unusedSimpArgs false
set_option maxHeartbeats 2000000
end Go.Proofs.YtffmlijngfhhaaaGreatDoor
namespace Go.Proofs.YtffmlijngfhhaaaGreatDoor
open Go
attribute [local irreducible] awp awpL awpQL awpQ awpM pWalk Qt AC thenQ blockQ loopQ OpTo
set_option linter.unusedVariables false
set_option linter.unusedSimpArgs false
set_option maxHeartbeats 2000000
end Go.Proofs.YtffmlijngfhhaaaGreatDoor
namespace Go.Proofs.YtffmlijngfhhaaaGreatDoor
open Go
attribute [local irreducible] awp awpL awpQL awpQ awpM pWalk Qt AC thenQ blockQ loopQ OpTo
set_option linter.unusedVariables false
set_option linter.unusedSimpArgs false
set_option maxHeartbeats 2000000
end Go.Proofs.YtffmlijngfhhaaaGreatDoor
