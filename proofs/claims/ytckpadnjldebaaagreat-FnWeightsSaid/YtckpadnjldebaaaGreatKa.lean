/- The reference's source of draws. No condition. -/
import Derived.Test.YtckpadnjldebaaaGreatSa
import Derived.Test.YtckpadnjldebaaaGreatMa
import Derived.Laws.Bits64
import Derived.Test.YtckpadnjldebaaaGreatFwS
namespace Go.Proofs.YtckpadnjldebaaaGreat
open Go
attribute [local irreducible] awp awpL awpQL awpQ awpM pWalk Qt AC thenQ blockQ loopQ OpTo
set_option linter.unusedVariables false
set_option linter.unusedSimpArgs false
set_option maxHeartbeats 2000000
attribute [local irreducible] HC
open Go.RowKit (Below)
theorem u64_range (n : Int) : 0 <= IntKind.u64.wrap n /\ IntKind.u64.wrap n < 18446744073709551616 := by
  rw [IntKind.wrap_u64]
  exact ⟨Int.emod_nonneg _ (by omega), Int.emod_lt_of_pos _ (by omega)⟩
section
variable {cx : Cx} {h : Heap} {s : Nat -> SV} {dst : Option Nat} {ty : Nat} {pos : String} {af : Array Edge} {gd : Option (Nat × Bool)}
theorem qk_conv {S T : Nat} {x : Operand} {ts tt : TR} {k k' : IntKind} {n : Int} (ht : tget cx.T T = some tt) (hk : tt.kind = some k) (hs : tget cx.T S = some ts) (hx : opv s x = .d (.int k' n)) (hn : 0 <= n /\ n <= 255) (hku : k = .u64 \/ k = .i64) :
    Qt cx h ⟨dst, .convert S T x, ty, pos, af, gd⟩ s (.d (.int k n)) := qt_ev (by
  simp only [ev, ht, hk, hs, hx]
  rcases hku with rfl | rfl
  . rw [wrap_in (by simp [IntKind.min, IntKind.signed]; omega) (by simp [IntKind.max, IntKind.signed, IntKind.bits]; omega)]
  . rw [wrap_in (by simp [IntKind.min, IntKind.signed, IntKind.bits]; omega) (by simp [IntKind.max, IntKind.signed, IntKind.bits]; omega)])
end
structure BytesOk (code : List Int) : Prop where
  el : ∀ b ∈ code, 0 <= b /\ b <= 255
  len : code.length <= 9223372036854775807
def u8s (code : List Int) : D := .lst (code.map (.int .u8))
structure Src where
  pos : Nat
  sd : Int
def byteAt (code : List Int) (s : Src) : Int := code.getD s.pos 0
def nextS (code : List Int) (s : Src) : Src := ⟨s.pos + 1, IntKind.u64.wrap (IntKind.u64.wrap (IntKind.u64.wrap (s.sd * 6364136223846793005) + byteAt code s) + 1442695040888963407)⟩
def nextV (code : List Int) (s : Src) : Int := if s.pos + 1 <= code.length then byteAt code s else band (bshr (nextS code s).sd 40) 255
def pickS (code : List Int) (n : Int) (s : Src) : Src := if n <= 1 then s else if 200 < n then nextS code (nextS code s) else nextS code s
def pickV (code : List Int) (n : Int) (s : Src) : Int := if n <= 1 then 0 else if 200 < n then (nextV code s * 256 + nextV code (nextS code s)) % n else nextV code s % n
structure SOk (s : Src) (k : Nat) : Prop where
  p : s.pos <= k
  r : 0 <= s.sd /\ s.sd < 18446744073709551616
def srcB (code : List Int) (s : Src) : Chunk := .box [.d (u8s code), .d (.int .i64 s.pos), .d (.int .u64 s.sd)]
theorem byte_range {code : List Int} {s : Src} (hb : BytesOk code) : 0 <= byteAt code s /\ byteAt code s <= 255 := by
  unfold byteAt
  rw [List.getD_eq_getElem?_getD]
  by_cases h : s.pos < code.length
  . rw [List.getElem?_eq_getElem h]
    exact hb.el _ (List.getElem_mem h)
  . rw [List.getElem?_eq_none (by omega)]
    simp
theorem next_range {code : List Int} {s : Src} (hb : BytesOk code) : 0 <= nextV code s /\ nextV code s <= 255 := by
  unfold nextV
  split
  . exact byte_range hb
  . unfold band
    have : (bshr (nextS code s).sd 40).toNat &&& (255 : Int).toNat <= 255 := Nat.and_le_right
    generalize (bshr (nextS code s).sd 40).toNat &&& (255 : Int).toNat = u at *
    omega
theorem next_ok {code : List Int} {s : Src} {k : Nat} (h : SOk s k) : SOk (nextS code s) (k + 1) := ⟨by have := h.p; show s.pos + 1 <= _; omega, u64_range _⟩
theorem SOk.mono {s : Src} {k k' : Nat} (h : SOk s k) (hk : k <= k') : SOk s k' := ⟨Nat.le_trans h.p hk, h.r⟩
theorem pick_ok {code : List Int} {n : Int} {s : Src} {k : Nat} (h : SOk s k) : SOk (pickS code n s) (k + 2) := by
  unfold pickS
  split
  . exact h.mono (by omega)
  . split
    . exact next_ok (next_ok h)
    . exact (next_ok h).mono (by omega)
theorem pick_range {code : List Int} {n : Int} {s : Src} (hb : BytesOk code) (hn : 1 <= n) : 0 <= pickV code n s /\ pickV code n s < n := by
  unfold pickV
  split
  . omega
  . split
    . exact ⟨Int.emod_nonneg _ (by omega), Int.emod_lt_of_pos _ (by omega)⟩
    . exact ⟨Int.emod_nonneg _ (by omega), Int.emod_lt_of_pos _ (by omega)⟩
theorem spec_next {code : List Int} {s : Src} {k : Nat} (hb : BytesOk code) (h : SOk s k) (hk : k <= 1000000000) :
    HC Tryz.prog 163 [.ref 10000 0] [(10000, srcB code s)] (.d (.int .i64 (nextV code s))) [(10000, srcB code (nextS code s))] := by
  have hlen := hb.len
  have hle : (List.map (D.int .u8) code).length = code.length := by simp
  have hp := h.p
  have hbr := byte_range (s := s) hb
  have hn := next_ok (code := code) h
  have hnr := hn.r
  have hbs : 0 <= bshr (nextS code s).sd 40 /\ bshr (nextS code s).sd 40 < 18446744073709551616 := by
    unfold bshr
    have : (nextS code s).sd.toNat >>> (40 : Int).toNat <= (nextS code s).sd.toNat := Nat.shiftRight_le _ _
    generalize (nextS code s).sd.toNat >>> (40 : Int).toNat = u at *
    omega
  have hbd : 0 <= band (bshr (nextS code s).sd 40) 255 /\ band (bshr (nextS code s).sd 40) 255 <= 255 := by
    unfold band
    have : (bshr (nextS code s).sd 40).toNat &&& (255 : Int).toNat <= 255 := Nat.and_le_right
    generalize (bshr (nextS code s).sd 40).toNat &&& (255 : Int).toNat = u at *
    omega
  have hku1 : IntKind.u64 = .u64 \/ IntKind.u64 = .i64 := .inl rfl
  have hku2 : IntKind.i64 = .u64 \/ IntKind.i64 = .i64 := .inr rfl
  have hsd : (nextS code s).sd = IntKind.u64.wrap (IntKind.u64.wrap (IntKind.u64.wrap (s.sd * 6364136223846793005) + byteAt code s) + 1442695040888963407) := rfl
  unfold nextV
  by_cases hlt : s.pos < code.length
  . rw [if_pos (by omega)]
    have hx : (List.map (D.int .u8) code)[(s.pos : Int).toNat]? = some (.int .u8 (byteAt code s)) := by
      unfold byteAt
      rw [List.getD_eq_getElem?_getD]
      simp [hlt]
    unfold srcB u8s
    refine hc_intro tabIs _ Tryz.func163 rfl rfl Tryz.ntmps163 rfl rfl rfl ?_ fun w0 ok0 XM XA anc he0 hX0 => ?_
    . exact likeIn_cons rfl rfl likeIn_nil
    repeat (first | refine zc ?_ | ((first | apply x_l | apply x_q | apply x_lr | apply x_qr); (focus (first | (apply qk_conv; (iterate 6 (focus (first | exact rfl | (first | assumption | omega | (simp; omega) | (simp; done) | rfl))))))); exact rfl) | (apply v_x; (iterate 2 exact rfl); (focus (intro ok0 nw hle; (first | (apply qk_conv; (iterate 6 (focus (first | exact rfl | (first | assumption | omega | (simp; omega) | (simp; done) | rfl)))))))); (iterate 2 exact rfl)) | refine zv ?_)
    (refine zb ?_; refine u_rH [(10000, 10000)] ?_ ?_)
    . rfl
    . rfl
  . rw [if_neg (by omega)]
    have hx : byteAt code s = 0 := by
      unfold byteAt
      rw [List.getD_eq_getElem?_getD, List.getElem?_eq_none (by omega)]
      rfl
    rw [hx] at hsd
    rw [hsd] at hbs hbd
    unfold srcB u8s
    rw [hsd]
    refine hc_intro tabIs _ Tryz.func163 rfl rfl Tryz.ntmps163 rfl rfl rfl ?_ fun w0 ok0 XM XA anc he0 hX0 => ?_
    . exact likeIn_cons rfl rfl likeIn_nil
    repeat (first | refine zc ?_ | ((first | apply x_l | apply x_q | apply x_lr | apply x_qr); (focus (first | (apply qk_conv; (iterate 6 (focus (first | exact rfl | (first | assumption | omega | (simp; omega) | (simp; done) | rfl))))) | (apply qb_shr; (iterate 4 (focus (first | exact rfl | (first | assumption | omega | (simp; omega) | (simp; done) | rfl))))) | (apply qb_and; (iterate 4 (focus (first | exact rfl | (first | assumption | omega | (simp; omega) | (simp; done) | rfl))))))); exact rfl) | (apply v_x; (iterate 2 exact rfl); (focus (intro ok0 nw hle; (first | (apply qk_conv; (iterate 6 (focus (first | exact rfl | (first | assumption | omega | (simp; omega) | (simp; done) | rfl))))) | (apply qb_shr; (iterate 4 (focus (first | exact rfl | (first | assumption | omega | (simp; omega) | (simp; done) | rfl))))) | (apply qb_and; (iterate 4 (focus (first | exact rfl | (first | assumption | omega | (simp; omega) | (simp; done) | rfl)))))))); (iterate 2 exact rfl)) | refine zv ?_)
    (refine zb ?_; refine u_rH [(10000, 10000)] ?_ ?_)
    . rfl
    . rfl
theorem spec_pick {code : List Int} {s : Src} {k : Nat} {n : Int} (hb : BytesOk code) (h : SOk s k) (hk : k <= 999999990) (hn : n <= 9223372036854775807) :
    HC Tryz.prog 56 [.ref 10000 0, .d (.int .i64 n)] [(10000, srcB code s)] (.d (.int .i64 (pickV code n s))) [(10000, srcB code (pickS code n s))] := by
  have c1 := spec_next hb h (by omega)
  have c2 := spec_next hb (next_ok (code := code) h) (by omega)
  have r1 := next_range (s := s) hb
  have r2 := next_range (s := nextS code s) hb
  unfold pickV pickS
  by_cases h1 : n <= 1
  . rw [if_pos h1, if_pos h1]
    unfold srcB at *
    refine hc_intro tabIs _ Tryz.func56 rfl rfl Tryz.ntmps56 rfl rfl rfl ?_ fun w0 ok0 XM XA anc he0 hX0 => ?_
    . exact likeIn_cons rfl rfl likeIn_nil
    repeat (first | refine zc ?_ | refine zv ?_)
    (refine zb ?_; refine u_rH [(10000, 10000)] ?_ ?_)
    . rfl
    . rfl
  . rw [if_neg h1, if_neg h1]
    by_cases h2 : 200 < n
    . rw [if_pos h2, if_pos h2]
      unfold srcB at *
      refine hc_intro tabIs _ Tryz.func56 rfl rfl Tryz.ntmps56 rfl rfl rfl ?_ fun w0 ok0 XM XA anc he0 hX0 => ?_
      . exact likeIn_cons rfl rfl likeIn_nil
      repeat (first | refine zc ?_ | refine zv ?_)
      refine hcl [(10000, 10000)] [(10000, 10000)] c1 ?_
      repeat (first | refine zc ?_ | refine zv ?_)
      refine hcl [(10000, 10000)] [(10000, 10000)] c2 ?_
      repeat (first | refine zc ?_ | refine zv ?_)
      (refine zb ?_; refine u_rH [(10000, 10000)] ?_ ?_)
      . rfl
      . rfl
    . rw [if_neg h2, if_neg h2]
      unfold srcB at *
      refine hc_intro tabIs _ Tryz.func56 rfl rfl Tryz.ntmps56 rfl rfl rfl ?_ fun w0 ok0 XM XA anc he0 hX0 => ?_
      . exact likeIn_cons rfl rfl likeIn_nil
      repeat (first | refine zc ?_ | refine zv ?_)
      refine hcl [(10000, 10000)] [(10000, 10000)] c1 ?_
      repeat (first | refine zc ?_ | refine zv ?_)
      (refine zb ?_; refine u_rH [(10000, 10000)] ?_ ?_)
      . rfl
      . rfl
theorem spec_one {code : List Int} {s : Src} {k : Nat} {n : Int} (hb : BytesOk code) (h : SOk s k) (hk : k <= 999999990) (hn : n <= 9223372036854775807) :
    HC Tryz.prog 53 [.ref 10000 0, .d (.int .i64 n)] [(10000, srcB code s)] (.d (.bool (decide (pickV code n s = 0)))) [(10000, srcB code (pickS code n s))] := by
  have c1 := spec_pick hb h hk hn
  unfold srcB at *
  refine hc_intro tabIs _ Tryz.func53 rfl rfl Tryz.ntmps53 rfl rfl rfl ?_ fun w0 ok0 XM XA anc he0 hX0 => ?_
  . exact likeIn_cons rfl rfl likeIn_nil
  repeat (first | refine zc ?_ | refine zv ?_)
  refine hcl [(10000, 10000)] [(10000, 10000)] c1 ?_
  repeat (first | refine zc ?_ | refine zv ?_)
  (refine zb ?_; refine u_rH [(10000, 10000)] ?_ ?_)
  . rfl
  . rfl
theorem spec_From {code : List Int} : HC Tryz.prog 52 [.d (u8s code)] [] (.ref 30000 0) [(30000, srcB code ⟨0, 0⟩)] := by
  unfold srcB u8s
  refine hc_intro tabIs _ Tryz.func52 rfl rfl Tryz.ntmps52 rfl rfl rfl ?_ fun w0 ok0 XM XA anc he0 hX0 => ?_
  . exact likeIn_nil
  repeat (first | refine v_w (t := 5) ?_ | refine zc ?_ | refine u_w (t := 5) ?_ | refine zv ?_)
  (refine zb ?_; refine u_rH [(5, 30000)] ?_ ?_)
  . rfl
  . rfl
end Go.Proofs.YtckpadnjldebaaaGreat
namespace Go.Proofs.YtckpadnjldebaaaGreat
open Go
attribute [local irreducible] awp awpL awpQL awpQ awpM pWalk Qt AC thenQ blockQ loopQ OpTo
set_option linter.unusedVariables false
set_option linter.unusedSimpArgs false
set_option maxHeartbeats 2000000
attribute [local irreducible] HC
theorem spec_among {code l : List Int} {s : Src} {k : Nat} (hb : BytesOk code) (h : SOk s k) (hk : k <= 999999990) (h1 : 1 <= l.length) (h2 : l.length <= 1000) :
    HC Tryz.prog 162 [.ref 10000 0, .d (ints l)] [(10000, srcB code s)] (.d (.int .i64 (l.getD (pickV code l.length s).toNat 0))) [(10000, srcB code (pickS code l.length s))] := by
  have c1 := spec_pick (n := (l.length : Int)) hb h hk (by omega)
  have hr := pick_range (s := s) (n := (l.length : Int)) hb (by omega)
  have hle : (List.map (D.int .i64) l).length = l.length := by simp
  have hx : (List.map (D.int .i64) l)[(pickV code l.length s).toNat]? = some (.int .i64 (l.getD (pickV code l.length s).toNat 0)) := el_int2 (ns := l) (q := pickV code l.length s) (by omega)
  rw [<- hle] at c1 hx hr
  rw [<- hle]
  unfold srcB at *
  refine hc_intro tabIs _ Tryz.func162 rfl rfl Tryz.ntmps162 rfl rfl rfl ?_ fun w0 ok0 XM XA anc he0 hX0 => ?_
  . exact likeIn_cons rfl rfl likeIn_nil
  repeat (first | refine zc ?_ | refine zv ?_)
  refine hcl [(10000, 10000)] [(10000, 10000)] c1 ?_
  repeat (first | refine zc ?_ | refine zv ?_)
  (refine zb ?_; refine u_rH [(10000, 10000)] ?_ ?_)
  . rfl
  . rfl
end Go.Proofs.YtckpadnjldebaaaGreat
