/- The reference's source of draws. No condition. -/
import Derived.Test.YtffmlijngfhhaaaGreatDoorSa
import Derived.Test.YtffmlijngfhhaaaGreatDoorMa
import Derived.Laws.Bits64
import Derived.Test.YtffmlijngfhhaaaGreatDoorFwS
namespace Go.Proofs.YtffmlijngfhhaaaGreatDoor
open Go
attribute [local irreducible] awp awpL awpQL awpQ awpM pWalk Qt AC thenQ blockQ loopQ OpTo
set_option linter.unusedVariables false
set_option linter.unusedSimpArgs false
set_option maxHeartbeats 2000000
attribute [local irreducible] HC
open Go.RowKit (Below)

theorem u64_range (n : Int) : 0 ≤ IntKind.u64.wrap n ∧ IntKind.u64.wrap n < 18446744073709551616 := by
  rw [IntKind.wrap_u64]
  exact ⟨Int.emod_nonneg _ (by omega), Int.emod_lt_of_pos _ (by omega)⟩

section
variable {cx : Cx} {h : Heap} {s : Nat → SV} {dst : Option Nat} {ty : Nat} {pos : String} {af : Array Edge} {gd : Option (Nat × Bool)}
/-- A number that fits is turned to another kind. -/
theorem qk_conv {S T : Nat} {x : Operand} {ts tt : TR} {k k' : IntKind} {n : Int} (ht : tget cx.T T = some tt) (hk : tt.kind = some k) (hs : tget cx.T S = some ts) (hx : opv s x = .d (.int k' n)) (hn : 0 ≤ n ∧ n ≤ 255) (hku : k = .u64 ∨ k = .i64) :
    Qt cx h ⟨dst, .convert S T x, ty, pos, af, gd⟩ s (.d (.int k n)) := qt_ev (by
  simp only [ev, ht, hk, hs, hx]
  rcases hku with rfl | rfl
  · rw [wrap_in (by simp [IntKind.min, IntKind.signed]; omega) (by simp [IntKind.max, IntKind.signed, IntKind.bits]; omega)]
  · rw [wrap_in (by simp [IntKind.min, IntKind.signed, IntKind.bits]; omega) (by simp [IntKind.max, IntKind.signed, IntKind.bits]; omega)])
end

structure BytesOk (code : List Int) : Prop where
  el : ∀ b ∈ code, 0 ≤ b ∧ b ≤ 255
  len : code.length ≤ 9223372036854775807
def u8s (code : List Int) : D := .lst (code.map (.int .u8))
structure Src where
  pos : Nat
  sd : Int
def byteAt (code : List Int) (s : Src) : Int := code.getD s.pos 0
def nextS (code : List Int) (s : Src) : Src := ⟨s.pos + 1, IntKind.u64.wrap (IntKind.u64.wrap (IntKind.u64.wrap (s.sd * 6364136223846793005) + byteAt code s) + 1442695040888963407)⟩
def nextV (code : List Int) (s : Src) : Int := if s.pos + 1 ≤ code.length then byteAt code s else band (bshr (nextS code s).sd 40) 255
def pickS (code : List Int) (n : Int) (s : Src) : Src := if n ≤ 1 then s else if 200 < n then nextS code (nextS code s) else nextS code s
def pickV (code : List Int) (n : Int) (s : Src) : Int := if n ≤ 1 then 0 else if 200 < n then (nextV code s * 256 + nextV code (nextS code s)) % n else nextV code s % n
/-- A source that has not been asked too often. -/
structure SOk (s : Src) (k : Nat) : Prop where
  p : s.pos ≤ k
  r : 0 ≤ s.sd ∧ s.sd < 18446744073709551616
def srcB (code : List Int) (s : Src) : Chunk := .box [.d (u8s code), .d (.int .i64 s.pos), .d (.int .u64 s.sd)]

theorem byte_range {code : List Int} {s : Src} (hb : BytesOk code) : 0 ≤ byteAt code s ∧ byteAt code s ≤ 255 := by
  unfold byteAt
  rw [List.getD_eq_getElem?_getD]
  by_cases h : s.pos < code.length
  · rw [List.getElem?_eq_getElem h]
    exact hb.el _ (List.getElem_mem h)
  · rw [List.getElem?_eq_none (by omega)]
    simp
theorem next_range {code : List Int} {s : Src} (hb : BytesOk code) : 0 ≤ nextV code s ∧ nextV code s ≤ 255 := by
  unfold nextV
  split
  · exact byte_range hb
  · unfold band
    have : (bshr (nextS code s).sd 40).toNat &&& (255 : Int).toNat ≤ 255 := Nat.and_le_right
    generalize (bshr (nextS code s).sd 40).toNat &&& (255 : Int).toNat = u at *
    omega
theorem next_ok {code : List Int} {s : Src} {k : Nat} (h : SOk s k) : SOk (nextS code s) (k + 1) := ⟨by have := h.p; show s.pos + 1 ≤ _; omega, u64_range _⟩
theorem SOk.mono {s : Src} {k k' : Nat} (h : SOk s k) (hk : k ≤ k') : SOk s k' := ⟨Nat.le_trans h.p hk, h.r⟩
theorem pick_ok {code : List Int} {n : Int} {s : Src} {k : Nat} (h : SOk s k) : SOk (pickS code n s) (k + 2) := by
  unfold pickS
  split
  · exact h.mono (by omega)
  · split
    · exact next_ok (next_ok h)
    · exact (next_ok h).mono (by omega)
theorem pick_range {code : List Int} {n : Int} {s : Src} (hb : BytesOk code) (hn : 1 ≤ n) : 0 ≤ pickV code n s ∧ pickV code n s < n := by
  unfold pickV
  split
  · omega
  · split
    · exact ⟨Int.emod_nonneg _ (by omega), Int.emod_lt_of_pos _ (by omega)⟩
    · exact ⟨Int.emod_nonneg _ (by omega), Int.emod_lt_of_pos _ (by omega)⟩

theorem spec_next {code : List Int} {s : Src} {k : Nat} (hb : BytesOk code) (h : SOk s k) (hk : k ≤ 1000000000) :
    HC Tryz.prog 122 [.ref 10000 0] [(10000, srcB code s)] (.d (.int .i64 (nextV code s))) [(10000, srcB code (nextS code s))] := by
  have hlen := hb.len
  have hle : (List.map (D.int .u8) code).length = code.length := by simp
  have hp := h.p
  have hbr := byte_range (s := s) hb
  have hn := next_ok (code := code) h
  have hnr := hn.r
  have hbs : 0 ≤ bshr (nextS code s).sd 40 ∧ bshr (nextS code s).sd 40 < 18446744073709551616 := by
    unfold bshr
    have : (nextS code s).sd.toNat >>> (40 : Int).toNat ≤ (nextS code s).sd.toNat := Nat.shiftRight_le _ _
    generalize (nextS code s).sd.toNat >>> (40 : Int).toNat = u at *
    omega
  have hbd : 0 ≤ band (bshr (nextS code s).sd 40) 255 ∧ band (bshr (nextS code s).sd 40) 255 ≤ 255 := by
    unfold band
    have : (bshr (nextS code s).sd 40).toNat &&& (255 : Int).toNat ≤ 255 := Nat.and_le_right
    generalize (bshr (nextS code s).sd 40).toNat &&& (255 : Int).toNat = u at *
    omega
  have hku1 : IntKind.u64 = .u64 ∨ IntKind.u64 = .i64 := .inl rfl
  have hku2 : IntKind.i64 = .u64 ∨ IntKind.i64 = .i64 := .inr rfl
  have hsd : (nextS code s).sd = IntKind.u64.wrap (IntKind.u64.wrap (IntKind.u64.wrap (s.sd * 6364136223846793005) + byteAt code s) + 1442695040888963407) := rfl
  unfold nextV
  by_cases hlt : s.pos < code.length
  · rw [if_pos (by omega)]
    have hx : (List.map (D.int .u8) code)[(s.pos : Int).toNat]? = some (.int .u8 (byteAt code s)) := by
      unfold byteAt
      rw [List.getD_eq_getElem?_getD]
      simp [hlt]
    unfold srcB u8s
    refine hc_intro tabIs _ Tryz.func122 rfl rfl Tryz.ntmps122 rfl rfl rfl ?_ fun w0 ok0 XM XA anc he0 hX0 => ?_
    · exact likeIn_cons rfl rfl likeIn_nil
    repeat (first | refine awp_seq ?_ | refine then_n ?_ | refine then_r ?_ | refine then_x ?_ | refine block_n ?_ | refine block_r ?_ | refine block_x ?_ | refine u_y ?_ | refine loop_r ?_ | refine loop_x ?_ | refine awp_region ?_ | refine awpL_nil ?_ | refine awpQL_nil ?_ | refine awp_block ?_ | refine awp_skip ?_ | refine awp_exit ?_ | refine awp_label ?_ | refine u_dT ?_ | refine u_d ?_ | ((first | apply x_l | apply x_q | apply x_lr | apply x_qr); (focus (first | (apply qk_conv; (iterate 6 (focus (first | exact rfl | (first | assumption | omega | (simp; omega) | (simp; done) | rfl))))))); exact rfl) | (apply v_x; (iterate 2 exact rfl); (focus (intro ok0 nw hle; (first | (apply qk_conv; (iterate 6 (focus (first | exact rfl | (first | assumption | omega | (simp; omega) | (simp; done) | rfl)))))))); (iterate 2 exact rfl)) | refine u_l ?_ | refine u_o ?_ | refine u_q ?_ | refine u_lr ?_ | refine u_qr ?_ | refine u_ls ?_ | refine u_qs ?_ | refine u_t ?_ | refine u_f ?_ | refine v_s ?_ | refine v_o ?_ | refine v_on ?_ | refine v_og ?_ | refine v_q ?_ | refine v_sr ?_ | refine v_k ?_ | refine m_nil ?_)
    (refine awp_ret ?_; (repeat (first | refine then_r ?_ | refine block_r ?_ | refine loop_r ?_)); refine u_rH [(10000, 10000)] ?_ ?_)
    · rfl
    · rfl
  · rw [if_neg (by omega)]
    have hx : byteAt code s = 0 := by
      unfold byteAt
      rw [List.getD_eq_getElem?_getD, List.getElem?_eq_none (by omega)]
      rfl
    rw [hx] at hsd
    rw [hsd] at hbs hbd
    unfold srcB u8s
    rw [hsd]
    refine hc_intro tabIs _ Tryz.func122 rfl rfl Tryz.ntmps122 rfl rfl rfl ?_ fun w0 ok0 XM XA anc he0 hX0 => ?_
    · exact likeIn_cons rfl rfl likeIn_nil
    repeat (first | refine awp_seq ?_ | refine then_n ?_ | refine then_r ?_ | refine then_x ?_ | refine block_n ?_ | refine block_r ?_ | refine block_x ?_ | refine u_y ?_ | refine loop_r ?_ | refine loop_x ?_ | refine awp_region ?_ | refine awpL_nil ?_ | refine awpQL_nil ?_ | refine awp_block ?_ | refine awp_skip ?_ | refine awp_exit ?_ | refine awp_label ?_ | refine u_dT ?_ | refine u_d ?_ | ((first | apply x_l | apply x_q | apply x_lr | apply x_qr); (focus (first | (apply qk_conv; (iterate 6 (focus (first | exact rfl | (first | assumption | omega | (simp; omega) | (simp; done) | rfl))))) | (apply qb_shr; (iterate 4 (focus (first | exact rfl | (first | assumption | omega | (simp; omega) | (simp; done) | rfl))))) | (apply qb_and; (iterate 4 (focus (first | exact rfl | (first | assumption | omega | (simp; omega) | (simp; done) | rfl))))))); exact rfl) | (apply v_x; (iterate 2 exact rfl); (focus (intro ok0 nw hle; (first | (apply qk_conv; (iterate 6 (focus (first | exact rfl | (first | assumption | omega | (simp; omega) | (simp; done) | rfl))))) | (apply qb_shr; (iterate 4 (focus (first | exact rfl | (first | assumption | omega | (simp; omega) | (simp; done) | rfl))))) | (apply qb_and; (iterate 4 (focus (first | exact rfl | (first | assumption | omega | (simp; omega) | (simp; done) | rfl)))))))); (iterate 2 exact rfl)) | refine u_l ?_ | refine u_o ?_ | refine u_q ?_ | refine u_lr ?_ | refine u_qr ?_ | refine u_ls ?_ | refine u_qs ?_ | refine u_t ?_ | refine u_f ?_ | refine v_s ?_ | refine v_o ?_ | refine v_on ?_ | refine v_og ?_ | refine v_q ?_ | refine v_sr ?_ | refine v_k ?_ | refine m_nil ?_)
    (refine awp_ret ?_; (repeat (first | refine then_r ?_ | refine block_r ?_ | refine loop_r ?_)); refine u_rH [(10000, 10000)] ?_ ?_)
    · rfl
    · rfl

theorem spec_pick {code : List Int} {s : Src} {k : Nat} {n : Int} (hb : BytesOk code) (h : SOk s k) (hk : k ≤ 999999990) (hn : n ≤ 9223372036854775807) :
    HC Tryz.prog 58 [.ref 10000 0, .d (.int .i64 n)] [(10000, srcB code s)] (.d (.int .i64 (pickV code n s))) [(10000, srcB code (pickS code n s))] := by
  have c1 := spec_next hb h (by omega)
  have c2 := spec_next hb (next_ok (code := code) h) (by omega)
  have r1 := next_range (s := s) hb
  have r2 := next_range (s := nextS code s) hb
  unfold pickV pickS
  by_cases h1 : n ≤ 1
  · rw [if_pos h1, if_pos h1]
    unfold srcB at *
    refine hc_intro tabIs _ Tryz.func58 rfl rfl Tryz.ntmps58 rfl rfl rfl ?_ fun w0 ok0 XM XA anc he0 hX0 => ?_
    · exact likeIn_cons rfl rfl likeIn_nil
    repeat (first | refine awp_seq ?_ | refine then_n ?_ | refine then_r ?_ | refine then_x ?_ | refine block_n ?_ | refine block_r ?_ | refine block_x ?_ | refine u_y ?_ | refine loop_r ?_ | refine loop_x ?_ | refine awp_region ?_ | refine awpL_nil ?_ | refine awpQL_nil ?_ | refine awp_block ?_ | refine awp_skip ?_ | refine awp_exit ?_ | refine awp_label ?_ | refine u_dT ?_ | refine u_d ?_ | refine u_l ?_ | refine u_o ?_ | refine u_q ?_ | refine u_lr ?_ | refine u_qr ?_ | refine u_ls ?_ | refine u_qs ?_ | refine u_t ?_ | refine u_f ?_ | refine v_s ?_ | refine v_o ?_ | refine v_on ?_ | refine v_og ?_ | refine v_q ?_ | refine v_sr ?_ | refine v_k ?_ | refine m_nil ?_)
    (refine awp_ret ?_; (repeat (first | refine then_r ?_ | refine block_r ?_ | refine loop_r ?_)); refine u_rH [(10000, 10000)] ?_ ?_)
    · rfl
    · rfl
  · rw [if_neg h1, if_neg h1]
    by_cases h2 : 200 < n
    · rw [if_pos h2, if_pos h2]
      unfold srcB at *
      refine hc_intro tabIs _ Tryz.func58 rfl rfl Tryz.ntmps58 rfl rfl rfl ?_ fun w0 ok0 XM XA anc he0 hX0 => ?_
      · exact likeIn_cons rfl rfl likeIn_nil
      repeat (first | refine awp_seq ?_ | refine then_n ?_ | refine then_r ?_ | refine then_x ?_ | refine block_n ?_ | refine block_r ?_ | refine block_x ?_ | refine u_y ?_ | refine loop_r ?_ | refine loop_x ?_ | refine awp_region ?_ | refine awpL_nil ?_ | refine awpQL_nil ?_ | refine awp_block ?_ | refine awp_skip ?_ | refine awp_exit ?_ | refine awp_label ?_ | refine u_dT ?_ | refine u_d ?_ | refine u_l ?_ | refine u_o ?_ | refine u_q ?_ | refine u_lr ?_ | refine u_qr ?_ | refine u_ls ?_ | refine u_qs ?_ | refine u_t ?_ | refine u_f ?_ | refine v_s ?_ | refine v_o ?_ | refine v_on ?_ | refine v_og ?_ | refine v_q ?_ | refine v_sr ?_ | refine v_k ?_ | refine m_nil ?_)
      refine hcl [(10000, 10000)] [(10000, 10000)] c1 ?_
      repeat (first | refine awp_seq ?_ | refine then_n ?_ | refine then_r ?_ | refine then_x ?_ | refine block_n ?_ | refine block_r ?_ | refine block_x ?_ | refine u_y ?_ | refine loop_r ?_ | refine loop_x ?_ | refine awp_region ?_ | refine awpL_nil ?_ | refine awpQL_nil ?_ | refine awp_block ?_ | refine awp_skip ?_ | refine awp_exit ?_ | refine awp_label ?_ | refine u_dT ?_ | refine u_d ?_ | refine u_l ?_ | refine u_o ?_ | refine u_q ?_ | refine u_lr ?_ | refine u_qr ?_ | refine u_ls ?_ | refine u_qs ?_ | refine u_t ?_ | refine u_f ?_ | refine v_s ?_ | refine v_o ?_ | refine v_on ?_ | refine v_og ?_ | refine v_q ?_ | refine v_sr ?_ | refine v_k ?_ | refine m_nil ?_)
      refine hcl [(10000, 10000)] [(10000, 10000)] c2 ?_
      repeat (first | refine awp_seq ?_ | refine then_n ?_ | refine then_r ?_ | refine then_x ?_ | refine block_n ?_ | refine block_r ?_ | refine block_x ?_ | refine u_y ?_ | refine loop_r ?_ | refine loop_x ?_ | refine awp_region ?_ | refine awpL_nil ?_ | refine awpQL_nil ?_ | refine awp_block ?_ | refine awp_skip ?_ | refine awp_exit ?_ | refine awp_label ?_ | refine u_dT ?_ | refine u_d ?_ | refine u_l ?_ | refine u_o ?_ | refine u_q ?_ | refine u_lr ?_ | refine u_qr ?_ | refine u_ls ?_ | refine u_qs ?_ | refine u_t ?_ | refine u_f ?_ | refine v_s ?_ | refine v_o ?_ | refine v_on ?_ | refine v_og ?_ | refine v_q ?_ | refine v_sr ?_ | refine v_k ?_ | refine m_nil ?_)
      (refine awp_ret ?_; (repeat (first | refine then_r ?_ | refine block_r ?_ | refine loop_r ?_)); refine u_rH [(10000, 10000)] ?_ ?_)
      · rfl
      · rfl
    · rw [if_neg h2, if_neg h2]
      unfold srcB at *
      refine hc_intro tabIs _ Tryz.func58 rfl rfl Tryz.ntmps58 rfl rfl rfl ?_ fun w0 ok0 XM XA anc he0 hX0 => ?_
      · exact likeIn_cons rfl rfl likeIn_nil
      repeat (first | refine awp_seq ?_ | refine then_n ?_ | refine then_r ?_ | refine then_x ?_ | refine block_n ?_ | refine block_r ?_ | refine block_x ?_ | refine u_y ?_ | refine loop_r ?_ | refine loop_x ?_ | refine awp_region ?_ | refine awpL_nil ?_ | refine awpQL_nil ?_ | refine awp_block ?_ | refine awp_skip ?_ | refine awp_exit ?_ | refine awp_label ?_ | refine u_dT ?_ | refine u_d ?_ | refine u_l ?_ | refine u_o ?_ | refine u_q ?_ | refine u_lr ?_ | refine u_qr ?_ | refine u_ls ?_ | refine u_qs ?_ | refine u_t ?_ | refine u_f ?_ | refine v_s ?_ | refine v_o ?_ | refine v_on ?_ | refine v_og ?_ | refine v_q ?_ | refine v_sr ?_ | refine v_k ?_ | refine m_nil ?_)
      refine hcl [(10000, 10000)] [(10000, 10000)] c1 ?_
      repeat (first | refine awp_seq ?_ | refine then_n ?_ | refine then_r ?_ | refine then_x ?_ | refine block_n ?_ | refine block_r ?_ | refine block_x ?_ | refine u_y ?_ | refine loop_r ?_ | refine loop_x ?_ | refine awp_region ?_ | refine awpL_nil ?_ | refine awpQL_nil ?_ | refine awp_block ?_ | refine awp_skip ?_ | refine awp_exit ?_ | refine awp_label ?_ | refine u_dT ?_ | refine u_d ?_ | refine u_l ?_ | refine u_o ?_ | refine u_q ?_ | refine u_lr ?_ | refine u_qr ?_ | refine u_ls ?_ | refine u_qs ?_ | refine u_t ?_ | refine u_f ?_ | refine v_s ?_ | refine v_o ?_ | refine v_on ?_ | refine v_og ?_ | refine v_q ?_ | refine v_sr ?_ | refine v_k ?_ | refine m_nil ?_)
      (refine awp_ret ?_; (repeat (first | refine then_r ?_ | refine block_r ?_ | refine loop_r ?_)); refine u_rH [(10000, 10000)] ?_ ?_)
      · rfl
      · rfl

theorem spec_one {code : List Int} {s : Src} {k : Nat} {n : Int} (hb : BytesOk code) (h : SOk s k) (hk : k ≤ 999999990) (hn : n ≤ 9223372036854775807) :
    HC Tryz.prog 51 [.ref 10000 0, .d (.int .i64 n)] [(10000, srcB code s)] (.d (.bool (decide (pickV code n s = 0)))) [(10000, srcB code (pickS code n s))] := by
  have c1 := spec_pick hb h hk hn
  unfold srcB at *
  refine hc_intro tabIs _ Tryz.func51 rfl rfl Tryz.ntmps51 rfl rfl rfl ?_ fun w0 ok0 XM XA anc he0 hX0 => ?_
  · exact likeIn_cons rfl rfl likeIn_nil
  repeat (first | refine awp_seq ?_ | refine then_n ?_ | refine then_r ?_ | refine then_x ?_ | refine block_n ?_ | refine block_r ?_ | refine block_x ?_ | refine u_y ?_ | refine loop_r ?_ | refine loop_x ?_ | refine awp_region ?_ | refine awpL_nil ?_ | refine awpQL_nil ?_ | refine awp_block ?_ | refine awp_skip ?_ | refine awp_exit ?_ | refine awp_label ?_ | refine u_dT ?_ | refine u_d ?_ | refine u_l ?_ | refine u_o ?_ | refine u_q ?_ | refine u_lr ?_ | refine u_qr ?_ | refine u_ls ?_ | refine u_qs ?_ | refine u_t ?_ | refine u_f ?_ | refine v_s ?_ | refine v_o ?_ | refine v_on ?_ | refine v_og ?_ | refine v_q ?_ | refine v_sr ?_ | refine v_k ?_ | refine m_nil ?_)
  refine hcl [(10000, 10000)] [(10000, 10000)] c1 ?_
  repeat (first | refine awp_seq ?_ | refine then_n ?_ | refine then_r ?_ | refine then_x ?_ | refine block_n ?_ | refine block_r ?_ | refine block_x ?_ | refine u_y ?_ | refine loop_r ?_ | refine loop_x ?_ | refine awp_region ?_ | refine awpL_nil ?_ | refine awpQL_nil ?_ | refine awp_block ?_ | refine awp_skip ?_ | refine awp_exit ?_ | refine awp_label ?_ | refine u_dT ?_ | refine u_d ?_ | refine u_l ?_ | refine u_o ?_ | refine u_q ?_ | refine u_lr ?_ | refine u_qr ?_ | refine u_ls ?_ | refine u_qs ?_ | refine u_t ?_ | refine u_f ?_ | refine v_s ?_ | refine v_o ?_ | refine v_on ?_ | refine v_og ?_ | refine v_q ?_ | refine v_sr ?_ | refine v_k ?_ | refine m_nil ?_)
  (refine awp_ret ?_; (repeat (first | refine then_r ?_ | refine block_r ?_ | refine loop_r ?_)); refine u_rH [(10000, 10000)] ?_ ?_)
  · rfl
  · rfl

theorem spec_From {code : List Int} : HC Tryz.prog 38 [.d (u8s code)] [] (.ref 30000 0) [(30000, srcB code ⟨0, 0⟩)] := by
  unfold srcB u8s
  refine hc_intro tabIs _ Tryz.func38 rfl rfl Tryz.ntmps38 rfl rfl rfl ?_ fun w0 ok0 XM XA anc he0 hX0 => ?_
  · exact likeIn_nil
  repeat (first | refine v_w (t := 5) ?_ | refine awp_seq ?_ | refine then_n ?_ | refine then_r ?_ | refine then_x ?_ | refine block_n ?_ | refine block_r ?_ | refine block_x ?_ | refine u_y ?_ | refine loop_r ?_ | refine loop_x ?_ | refine awp_region ?_ | refine awpL_nil ?_ | refine awpQL_nil ?_ | refine awp_block ?_ | refine awp_skip ?_ | refine awp_exit ?_ | refine awp_label ?_ | refine u_dT ?_ | refine u_d ?_ | refine u_w (t := 5) ?_ | refine u_l ?_ | refine u_o ?_ | refine u_q ?_ | refine u_lr ?_ | refine u_qr ?_ | refine u_ls ?_ | refine u_qs ?_ | refine u_t ?_ | refine u_f ?_ | refine v_s ?_ | refine v_o ?_ | refine v_on ?_ | refine v_og ?_ | refine v_q ?_ | refine v_sr ?_ | refine v_k ?_ | refine m_nil ?_)
  (refine awp_ret ?_; (repeat (first | refine then_r ?_ | refine block_r ?_ | refine loop_r ?_)); refine u_rH [(5, 30000)] ?_ ?_)
  · rfl
  · rfl

theorem spec_P6Pick {code : List Int} {n : Int} (hb : BytesOk code) (hn : n ≤ 9223372036854775807) : AC Tryz.prog 21 [u8s code, .int .i64 n] (.int .i64 (pickV code n ⟨0, 0⟩)) := by
  have c0 := spec_From (code := code)
  have c1 := spec_pick (n := n) hb (s := ⟨0, 0⟩) (k := 0) ⟨Nat.le_refl _, by simp⟩ (by omega) hn
  unfold srcB u8s at *
  refine ac_intro tabIs _ Tryz.func21 rfl rfl Tryz.ntmps21 rfl rfl fun w0 ok0 he0 => ?_
  repeat (first | refine awp_seq ?_ | refine then_n ?_ | refine then_r ?_ | refine then_x ?_ | refine block_n ?_ | refine block_r ?_ | refine block_x ?_ | refine u_y ?_ | refine loop_r ?_ | refine loop_x ?_ | refine awp_region ?_ | refine awpL_nil ?_ | refine awpQL_nil ?_ | refine awp_block ?_ | refine awp_skip ?_ | refine awp_exit ?_ | refine awp_label ?_ | refine u_dT ?_ | refine u_d ?_ | refine u_l ?_ | refine u_o ?_ | refine u_q ?_ | refine u_lr ?_ | refine u_qr ?_ | refine u_ls ?_ | refine u_qs ?_ | refine u_t ?_ | refine u_f ?_ | refine v_s ?_ | refine v_o ?_ | refine v_on ?_ | refine v_og ?_ | refine v_q ?_ | refine v_sr ?_ | refine v_k ?_ | refine m_nil ?_)
  refine hcl [] [(30000, 500)] c0 ?_
  repeat (first | refine awp_seq ?_ | refine then_n ?_ | refine then_r ?_ | refine then_x ?_ | refine block_n ?_ | refine block_r ?_ | refine block_x ?_ | refine u_y ?_ | refine loop_r ?_ | refine loop_x ?_ | refine awp_region ?_ | refine awpL_nil ?_ | refine awpQL_nil ?_ | refine awp_block ?_ | refine awp_skip ?_ | refine awp_exit ?_ | refine awp_label ?_ | refine u_dT ?_ | refine u_d ?_ | refine u_l ?_ | refine u_o ?_ | refine u_q ?_ | refine u_lr ?_ | refine u_qr ?_ | refine u_ls ?_ | refine u_qs ?_ | refine u_t ?_ | refine u_f ?_ | refine v_s ?_ | refine v_o ?_ | refine v_on ?_ | refine v_og ?_ | refine v_q ?_ | refine v_sr ?_ | refine v_k ?_ | refine m_nil ?_)
  refine hcl [(500, 10000)] [(10000, 500)] c1 ?_
  repeat (first | refine awp_seq ?_ | refine then_n ?_ | refine then_r ?_ | refine then_x ?_ | refine block_n ?_ | refine block_r ?_ | refine block_x ?_ | refine u_y ?_ | refine loop_r ?_ | refine loop_x ?_ | refine awp_region ?_ | refine awpL_nil ?_ | refine awpQL_nil ?_ | refine awp_block ?_ | refine awp_skip ?_ | refine awp_exit ?_ | refine awp_label ?_ | refine u_dT ?_ | refine u_d ?_ | refine u_l ?_ | refine u_o ?_ | refine u_q ?_ | refine u_lr ?_ | refine u_qr ?_ | refine u_ls ?_ | refine u_qs ?_ | refine u_t ?_ | refine u_f ?_ | refine v_s ?_ | refine v_o ?_ | refine v_on ?_ | refine v_og ?_ | refine v_q ?_ | refine v_sr ?_ | refine v_k ?_ | refine m_nil ?_)
  (refine awp_ret ?_; (repeat (first | refine then_r ?_ | refine block_r ?_ | refine loop_r ?_)); apply ret_ok (.inr rfl); (focus exact rfl))
  rfl
end Go.Proofs.YtffmlijngfhhaaaGreatDoor

/-! The reference's draw of a machine. No condition. -/
namespace Go.Proofs.YtffmlijngfhhaaaGreatDoor
open Go
attribute [local irreducible] awp awpL awpQL awpQ awpM pWalk Qt AC thenQ blockQ loopQ OpTo
set_option linter.unusedVariables false
set_option linter.unusedSimpArgs false
set_option maxHeartbeats 2000000
attribute [local irreducible] HC

theorem spec_among {code l : List Int} {s : Src} {k : Nat} (hb : BytesOk code) (h : SOk s k) (hk : k ≤ 999999990) (h1 : 1 ≤ l.length) (h2 : l.length ≤ 1000) :
    HC Tryz.prog 107 [.ref 10000 0, .d (ints l)] [(10000, srcB code s)] (.d (.int .i64 (l.getD (pickV code l.length s).toNat 0))) [(10000, srcB code (pickS code l.length s))] := by
  have c1 := spec_pick (n := (l.length : Int)) hb h hk (by omega)
  have hr := pick_range (s := s) (n := (l.length : Int)) hb (by omega)
  have hle : (List.map (D.int .i64) l).length = l.length := by simp
  have hx : (List.map (D.int .i64) l)[(pickV code l.length s).toNat]? = some (.int .i64 (l.getD (pickV code l.length s).toNat 0)) := el_int2 (ns := l) (q := pickV code l.length s) (by omega)
  rw [← hle] at c1 hx hr
  rw [← hle]
  unfold srcB at *
  refine hc_intro tabIs _ Tryz.func107 rfl rfl Tryz.ntmps107 rfl rfl rfl ?_ fun w0 ok0 XM XA anc he0 hX0 => ?_
  · exact likeIn_cons rfl rfl likeIn_nil
  repeat (first | refine awp_seq ?_ | refine then_n ?_ | refine then_r ?_ | refine then_x ?_ | refine block_n ?_ | refine block_r ?_ | refine block_x ?_ | refine u_y ?_ | refine loop_r ?_ | refine loop_x ?_ | refine awp_region ?_ | refine awpL_nil ?_ | refine awpQL_nil ?_ | refine awp_block ?_ | refine awp_skip ?_ | refine awp_exit ?_ | refine awp_label ?_ | refine u_dT ?_ | refine u_d ?_ | refine u_l ?_ | refine u_o ?_ | refine u_q ?_ | refine u_lr ?_ | refine u_qr ?_ | refine u_ls ?_ | refine u_qs ?_ | refine u_t ?_ | refine u_f ?_ | refine v_s ?_ | refine v_o ?_ | refine v_on ?_ | refine v_og ?_ | refine v_q ?_ | refine v_sr ?_ | refine v_k ?_ | refine m_nil ?_)
  refine hcl [(10000, 10000)] [(10000, 10000)] c1 ?_
  repeat (first | refine awp_seq ?_ | refine then_n ?_ | refine then_r ?_ | refine then_x ?_ | refine block_n ?_ | refine block_r ?_ | refine block_x ?_ | refine u_y ?_ | refine loop_r ?_ | refine loop_x ?_ | refine awp_region ?_ | refine awpL_nil ?_ | refine awpQL_nil ?_ | refine awp_block ?_ | refine awp_skip ?_ | refine awp_exit ?_ | refine awp_label ?_ | refine u_dT ?_ | refine u_d ?_ | refine u_l ?_ | refine u_o ?_ | refine u_q ?_ | refine u_lr ?_ | refine u_qr ?_ | refine u_ls ?_ | refine u_qs ?_ | refine u_t ?_ | refine u_f ?_ | refine v_s ?_ | refine v_o ?_ | refine v_on ?_ | refine v_og ?_ | refine v_q ?_ | refine v_sr ?_ | refine v_k ?_ | refine m_nil ?_)
  (refine awp_ret ?_; (repeat (first | refine then_r ?_ | refine block_r ?_ | refine loop_r ?_)); refine u_rH [(10000, 10000)] ?_ ?_)
  · rfl
  · rfl

/-! ### What is drawn -/
def rowSt (code : List Int) (S O : Int) (s : Src) : Nat → List Int × List Int × Src
  | 0 => ([], [], s)
  | x + 1 => ((rowSt code S O s x).1 ++ [pickV code S (rowSt code S O s x).2.2], (rowSt code S O s x).2.1 ++ [pickV code O (pickS code S (rowSt code S O s x).2.2)], pickS code O (pickS code S (rowSt code S O s x).2.2))
def cycL (S : Int) : List Int := (List.range S.toNat).map fun y : Nat => ((y : Int) + 1) % S
def rowE (code : List Int) (S O : Int) (s : Src) : List Int × List Int × Src :=
  (if pickV code 3 (rowSt code S O s S.toNat).2.2 = 0 then cycL S else (rowSt code S O s S.toNat).1, (rowSt code S O s S.toNat).2.1, pickS code 3 (rowSt code S O s S.toNat).2.2)
def ltSt (code : List Int) (S O : Int) (s : Src) : Nat → List (List Int) × List (List Int) × Src
  | 0 => ([], [], s)
  | k + 1 => ((ltSt code S O s k).1 ++ [(rowE code S O (ltSt code S O s k).2.2).1], (ltSt code S O s k).2.1 ++ [(rowE code S O (ltSt code S O s k).2.2).2.1], (rowE code S O (ltSt code S O s k).2.2).2.2)
def drO (code : List Int) (s : Src) : Int := if pickV code 6 s = 0 then [1, 3].getD (pickV code 2 (pickS code 6 s)).toNat 0 else 2
def drs3 (code : List Int) (s : Src) : Src := if pickV code 6 s = 0 then pickS code 2 (pickS code 6 s) else pickS code 6 s
def drL (code : List Int) (s : Src) : Int := if pickV code 8 (pickS code 2 s) = 0 then 3 else 1 + pickV code 2 s
def drs5 (code : List Int) (s : Src) : Src := pickS code 8 (pickS code 2 s)
/-- The number of states, of outputs and of letters, and the source behind them. -/
def drS (code : List Int) (most : Int) (s : Src) : Int := 1 + pickV code most s
def drM (code : List Int) (most : Int) (s : Src) : List (List Int) × List (List Int) × Src := ltSt code (drS code most s) (drO code (pickS code most s)) (drs5 code (drs3 code (pickS code most s))) (drL code (drs3 code (pickS code most s))).toNat

theorem rowSt_len {code : List Int} {S O : Int} {s : Src} : ∀ x, (rowSt code S O s x).1.length = x ∧ (rowSt code S O s x).2.1.length = x
  | 0 => ⟨rfl, rfl⟩
  | x + 1 => by have := rowSt_len (code := code) (S := S) (O := O) (s := s) x; simp [rowSt, this.1, this.2]
theorem rowSt_el {code : List Int} {S O : Int} {s : Src} (hb : BytesOk code) (hS : 1 ≤ S) (hO : 1 ≤ O) : ∀ x, (∀ v ∈ (rowSt code S O s x).1, 0 ≤ v ∧ v < S) ∧ ∀ v ∈ (rowSt code S O s x).2.1, 0 ≤ v ∧ v < O
  | 0 => ⟨(fun v h => by cases h), (fun v h => by cases h)⟩
  | x + 1 => by
    obtain ⟨h1, h2⟩ := rowSt_el (s := s) hb hS hO x
    refine ⟨fun v hv => ?_, fun v hv => ?_⟩
    · rcases List.mem_append.1 hv with h | h
      · exact h1 v h
      · simp only [List.mem_singleton] at h; subst h; exact pick_range hb hS
    · rcases List.mem_append.1 hv with h | h
      · exact h2 v h
      · simp only [List.mem_singleton] at h; subst h; exact pick_range hb hO
theorem rowSt_ok {code : List Int} {S O : Int} {s : Src} {k : Nat} (h : SOk s k) : ∀ x, SOk (rowSt code S O s x).2.2 (k + 4 * x)
  | 0 => h
  | x + 1 => (pick_ok (pick_ok (rowSt_ok h x))).mono (by omega)
theorem rowE_ok {code : List Int} {S O : Int} {s : Src} {k : Nat} (h : SOk s k) (hS : 1 ≤ S ∧ S ≤ 10) : SOk (rowE code S O s).2.2 (k + 42) := by
  show SOk (pickS code 3 (rowSt code S O s S.toNat).2.2) _
  exact (pick_ok (rowSt_ok h S.toNat)).mono (by omega)
theorem ltSt_ok {code : List Int} {S O : Int} {s : Src} {k : Nat} (h : SOk s k) (hS : 1 ≤ S ∧ S ≤ 10) : ∀ x, SOk (ltSt code S O s x).2.2 (k + 42 * x)
  | 0 => h
  | x + 1 => (rowE_ok (ltSt_ok h hS x) hS).mono (by omega)
theorem ltSt_len {code : List Int} {S O : Int} {s : Src} : ∀ x, (ltSt code S O s x).1.length = x ∧ (ltSt code S O s x).2.1.length = x
  | 0 => ⟨rfl, rfl⟩
  | x + 1 => by have := ltSt_len (code := code) (S := S) (O := O) (s := s) x; simp [ltSt, this.1, this.2]
theorem cycL_ok {S : Int} (hS : 1 ≤ S) : ((cycL S).length : Int) = S ∧ ∀ v ∈ cycL S, 0 ≤ v ∧ v < S := by
  refine ⟨by simp [cycL]; omega, fun v hv => ?_⟩
  obtain ⟨y, _, rfl⟩ := List.mem_map.1 hv
  exact ⟨Int.emod_nonneg _ (by omega), Int.emod_lt_of_pos _ (by omega)⟩
theorem rowE_el {code : List Int} {S O : Int} {s : Src} (hb : BytesOk code) (hS : 1 ≤ S) (hO : 1 ≤ O) : (((rowE code S O s).1.length : Int) = S ∧ ∀ v ∈ (rowE code S O s).1, 0 ≤ v ∧ v < S) ∧ ((rowE code S O s).2.1.length : Int) = S ∧ ∀ v ∈ (rowE code S O s).2.1, 0 ≤ v ∧ v < O := by
  have hl := rowSt_len (code := code) (S := S) (O := O) (s := s) S.toNat
  have he := rowSt_el (s := s) hb hS hO S.toNat
  refine ⟨?_, by rw [show (rowE code S O s).2.1 = (rowSt code S O s S.toNat).2.1 from rfl, hl.2]; omega, he.2⟩
  unfold rowE
  split
  · exact cycL_ok hS
  · exact ⟨by rw [hl.1]; omega, he.1⟩
theorem ltSt_el {code : List Int} {S O : Int} {s : Src} (hb : BytesOk code) (hS : 1 ≤ S) (hO : 1 ≤ O) : ∀ x, Tbl S S (ltSt code S O s x).1 ∧ Tbl S O (ltSt code S O s x).2.1
  | 0 => ⟨(fun ns h => by cases h), (fun ns h => by cases h)⟩
  | x + 1 => by
    obtain ⟨h1, h2⟩ := ltSt_el (s := s) hb hS hO x
    obtain ⟨r1, r2⟩ := rowE_el (s := (ltSt code S O s x).2.2) hb hS hO
    refine ⟨fun ns h => ?_, fun ns h => ?_⟩
    · rcases List.mem_append.1 h with h | h
      · exact h1 ns h
      · simp only [List.mem_singleton] at h; subst h; exact r1
    · rcases List.mem_append.1 h with h | h
      · exact h2 ns h
      · simp only [List.mem_singleton] at h; subst h; exact r2
theorem drO_range {code : List Int} {s : Src} (hb : BytesOk code) : 1 ≤ drO code s ∧ drO code s ≤ 3 := by
  unfold drO
  split
  · have := pick_range (s := pickS code 6 s) (n := 2) hb (by omega)
    have h : (pickV code 2 (pickS code 6 s)).toNat = 0 ∨ (pickV code 2 (pickS code 6 s)).toNat = 1 := by omega
    rcases h with h | h <;> rw [h] <;> simp
  · omega
theorem drL_range {code : List Int} {s : Src} (hb : BytesOk code) : 1 ≤ drL code s ∧ drL code s ≤ 3 := by
  unfold drL
  split
  · omega
  · have := pick_range (s := s) (n := 2) hb (by omega)
    omega
theorem drS_range {code : List Int} {most : Int} {s : Src} (hb : BytesOk code) (hm : 1 ≤ most ∧ most ≤ 9) : 1 ≤ drS code most s ∧ drS code most s ≤ most := by
  have := pick_range (s := s) (n := most) hb hm.1
  unfold drS
  omega
theorem drM_ok {code : List Int} {most : Int} {s : Src} {k : Nat} (hb : BytesOk code) (hm : 1 ≤ most ∧ most ≤ 9) (h : SOk s k) : SOk (drM code most s).2.2 (k + 200) := by
  have h1 : SOk (drs3 code (pickS code most s)) (k + 6) := by
    unfold drs3
    split
    · exact pick_ok (pick_ok (pick_ok h))
    · exact (pick_ok (pick_ok h)).mono (by omega)
  have hL := drL_range (s := drs3 code (pickS code most s)) hb
  have hS := drS_range (s := s) hb hm
  exact (ltSt_ok (pick_ok (pick_ok h1)) ⟨hS.1, by omega⟩ _).mono (by omega)
theorem mv_draw {code : List Int} {most : Int} {s : Src} (hb : BytesOk code) (hm : 1 ≤ most ∧ most ≤ 9) : MV (drS code most s) (drO code (pickS code most s)) (drM code most s).1 (drM code most s).2.1 := by
  have hS := drS_range (s := s) hb hm
  have hO := drO_range (s := pickS code most s) hb
  have hL := drL_range (s := drs3 code (pickS code most s)) hb
  have hl := ltSt_len (code := code) (S := drS code most s) (O := drO code (pickS code most s)) (s := drs5 code (drs3 code (pickS code most s))) (drL code (drs3 code (pickS code most s))).toNat
  have he := ltSt_el (S := drS code most s) (O := drO code (pickS code most s)) (s := drs5 code (drs3 code (pickS code most s))) hb hS.1 hO.1 (drL code (drs3 code (pickS code most s))).toNat
  exact ⟨by omega, hO, by show 1 ≤ (drM code most s).1.length ∧ (drM code most s).1.length ≤ 3; unfold drM; rw [hl.1]; omega, by show (drM code most s).2.1.length = (drM code most s).1.length; unfold drM; rw [hl.1, hl.2], he.1, he.2⟩

end Go.Proofs.YtffmlijngfhhaaaGreatDoor
