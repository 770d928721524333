/- Drawn automata that may be bent. No condition. -/
import Derived.Test.YtckpadnjldebaaaGreatGy
import Derived.Test.YtckpadnjldebaaaGreatUb
import Derived.Test.YtckpadnjldebaaaGreatGv
namespace Go.Proofs.YtckpadnjldebaaaGreat
open Go
attribute [local irreducible] awp awpL awpQL awpQ awpM pWalk Qt AC thenQ blockQ loopQ OpTo
set_option linter.unusedVariables false
set_option linter.unusedSimpArgs false
set_option maxHeartbeats 2000000
attribute [local irreducible] HC HX
open Go.RowKit (Below)
inductive Dw where
  | ok (n : Int) (nx : List (List Int)) (s : Src)
  | no (n : Int) (nx : List (List Int)) (s : Src)
def dwG (k : Nat) : Dw -> Prop
  | .ok n nx s => AOk n nx 10 /\ SOk s k
  | .no n nx s => autoOk n nx = false /\ RowsOk nx /\ SOk s k
def dwR : Dw -> SV
  | .ok n _ _ => .agg [.d (.int .i64 n), .own 30000]
  | .no n nx _ => .d (.agg [.int .i64 n, rows nx])
def dwH (code : List Int) : Dw -> Heap
  | .ok _ nx s => [(10000, .box [.d (u8s code), .d (.int .i64 s.pos), .d (.int .u64 s.sd)]), (30000, .rows 29 2 1 (rws nx) none)]
  | .no _ _ s => [(10000, .box [.d (u8s code), .d (.int .i64 s.pos), .d (.int .u64 s.sd)]), (30000, .rows 29 2 1 [] none)]
theorem rowsOk_tblD {n : Int} {nx : List (List Int)} (h : Tbl n n nx) (hn : n <= 100) (hl : nx.length <= 100) : RowsOk nx := ⟨fun ns hns => ⟨fun x hx => by
  have := (h ns hns).2 x hx
  unfold I64
  omega, by have := (h ns hns).1; omega⟩, by omega⟩
theorem autoOk_get {n : Int} {nx : List (List Int)} (h : autoOk n nx = true) : (1 <= n /\ n <= 10) /\ (1 <= nx.length /\ nx.length <= 3) /\ Tbl n n nx := by
  simp only [autoOk, inB, Bool.and_eq_true, decide_eq_true_eq] at h
  exact ⟨by omega, by omega, tbl_of h.2⟩
theorem not_auto {n : Int} {nx : List (List Int)} (h : ¬ ((1 <= n /\ n <= 10) /\ (1 <= nx.length /\ nx.length <= 3) /\ Tbl n n nx)) : autoOk n nx = false := by
  cases e : autoOk n nx with
  | false => rfl
  | true => exact absurd (autoOk_get e) h
section
variable {cx : Cx} {h : Heap} {s : Nat -> SV} {dst : Option Nat} {ty : Nat} {pos : String} {af : Array Edge} {gd : Option (Nat × Bool)}
attribute [local semireducible] Qt in
theorem qa_sliceRowb {T : Nat} {x lo : Operand} {ts te : TR} {f : Nat -> SV} {b e sz : Nat} {xs : List D} {k : IntKind} {n : Int} (hx : opv f x = .d (.rowb b e sz xs)) (hl : opv f lo = .d (.int k n))
    (ht : tget cx.T T = some ts) (hsl : ts.isSl = true) (hte : tget cx.T ts.elem = some te) (hsz : Nat.beq sz te.size = true) (h0 : 0 <= n) (hn : n <= xs.length) :
    Qt cx h ⟨dst, .slice T x (some lo) none none, ty, pos, af, gd⟩ f (.d (.lst (xs.drop n.toNat))) := by
  intro s₁ hs σ a w hr K Q hK
  have h1 := rep_eval hr x
  have h2 := rep_eval hr lo
  rw [show opv s₁ x = opv f x from by cases x <;> first | rfl | exact hs _ (by simp [Op.operands]), hx] at h1
  rw [show opv s₁ lo = opv f lo from by cases lo <;> first | rfl | exact hs _ (by simp [Op.operands]), hl] at h2
  have h2' := RepD.int_inv h2
  obtain ⟨d, i, hdd, hi', -, -, -, hs', -⟩ := tr_facts (tget_ok cx.tab ht)
  obtain ⟨d', i', hdd', hi2, -, hz, -⟩ := tr_facts (tget_ok cx.tab hte)
  have := hs' hsl
  subst this
  have hsz' := Nat.eq_of_beq_eq_true hsz
  have hE : cx.P.elem T = ts.elem := by simp [Program.elem, hdd]
  have hd2 : cx.P.underlying T = some (.slice (cx.P.elem T)) := by rw [hE]; exact hdd
  have h1 : RepD (okf cx σ h) w (a.eval x) (.rowb b e sz xs) := h1
  generalize hax : a.eval x = vx at h1
  cases h1 with
  | rowb _ cap m cells _ _ vs _ k1 k2 k3 k4 k5 k6 k7 k8 k9 k10 =>
    have run : (execOp a.eval ⟨dst, .slice T x (some lo) none none, ty, pos, af, gd⟩).run cx.P w = .ok (.value (sliced (some ⟨b, 0, none⟩) n.toNat m cap te.size)) w := by
      simp only [execOp, hax, h2', Option.map_some, Option.map_none]
      simp only [Sem.run_bind, Sem.run_pure]
      rw [run_sliceAt_slice (h := hd2), run_slice_l (ht := hd2) (h0 := h0) (h1 := by omega), hE]
      simp [sizeOf, typeInfo, hi2, hz, Result.andThen]
    unfold Oper.wp
    rw [run]
    refine hK _ _ (Below.refl _ _) ?_
    show RepD _ _ _ _
    unfold sliced
    by_cases hz0 : m - n.toNat = 0
    . rw [hz0, show xs.drop n.toNat = [] from List.drop_eq_nil_of_le (by omega)]
      split
      . exact .emp _ _
      . exact .emp _ _
    . rw [if_neg (by omega), Option.map_some, add_block, Nat.zero_add, <- hsz']
      refine .lst b (n.toNat * sz) (cap - n.toNat) (m - n.toNat) cells e (0, 0) (xs.drop n.toNat) (vs.drop n.toNat) sz k1 k2 (by simp [k3]) (by simp [k4]) (by omega) (by simp only [maxLen] at k6; omega) (fun i v y hv hy => ?_) (fun i v hv => ?_)
      . rw [List.getElem?_drop] at hv hy
        exact k9 _ v y hv hy
      . rw [List.getElem?_drop] at hv
        obtain ⟨q1, q2⟩ := k10 _ v hv
        refine ⟨q1, fun j hj => ?_⟩
        rw [<- q2 j hj]
        congr 1
        rw [Nat.add_mul]
end
section
variable {cx : Cx} {s : Slots} {h : Heap} {Q : Exit -> Slots -> Heap -> Prop}
theorem R_dummy {a : Act} {w : World} {id e e' sz : Nat} (hr : R cx (lk s) h a w) (hid : isAnc id = false) (h0 : 0 < sz) : R cx (lk (killS id s)) ((id, .rows e e' sz [] none) :: killH id h) a w := by
  obtain ⟨σ, hr⟩ := hr
  obtain ⟨σ', e1, hr'⟩ := hr.lay (w' := w) id hid ⟨0, 0, true, []⟩ (.rows e e' sz [] none) rfl rfl rfl (Nat.le_refl _) (fun _ _ _ => rfl) (by simp [blk]) (by simp [blk]) (fun σ' ok' _ _ _ => ⟨h0, rfl, ⟨[], ⟨by simp, .inl ⟨by simp [sliceAt], rfl⟩⟩, by simp⟩, by simp, by simp⟩)
  exact ⟨σ', hr'⟩
attribute [local semireducible] awp in
theorem awp_dummy {c : Code} (id e e' sz : Nat) (hid : isAnc id = false) (h0 : Nat.blt 0 sz = true) (hn : awp cx c (killS id s) ((id, .rows e e' sz [] none) :: killH id h) Q) : awp cx c s h Q := fun a w hr => hn a w (R_dummy hr hid (Nat.le_of_ble_eq_true h0))
end
theorem tag_someD {n i : Nat} {bs : List (Option Nat)} {xss : List (List D)} {xs : List D} (T : Tags n bs xss) (hx : xss[i]? = some xs) (hne : xs ≠ []) : ∃ b, bs[i]? = some (some b) := by
  have hi : i < bs.length := by rw [T.len]; exact (List.getElem?_eq_some_iff.1 hx).1
  cases hb : bs[i] with
  | none =>
    have := T.emp i (by rw [List.getElem?_eq_getElem hi, hb])
    rw [hx] at this
    exact absurd (Option.some.inj this) hne
  | some b => exact ⟨b, by rw [List.getElem?_eq_getElem hi, hb]⟩
theorem tbl_not1 {n y : Int} {nx : List (List Int)} (a : AOk n nx 10) (h : y = 0 \/ y = -1 \/ y = n + 1 \/ y = 11) : autoOk y nx = false := not_auto fun ⟨h1, _, h3⟩ => by
  have hl := a.l1
  have hm : nx[0]'(by omega) ∈ nx := List.getElem_mem _
  have e1 := (h3 _ hm).1
  have e2 := (a.t _ hm).1
  have := a.n1
  omega
theorem spec_l01BentX {code : List Int} {s : Src} {k : Nat} (hb : BytesOk code) (h : SOk s k) (hk : k <= 999980000) :
    HX Tryz.prog 271 [.ref 10000 0] [(10000, srcB code s)] (fun _ i => dwG (k + 1000) i) dwR (dwH code) := by
  have hP : ∀ (s : Src) (k : Nat) (n : Int), SOk s k -> k <= 999999990 -> n <= 1000 -> HC Tryz.prog 56 [.ref 10000 0, .d (.int .i64 n)] [(10000, srcB code s)] (.d (.int .i64 (pickV code n s))) [(10000, srcB code (pickS code n s))] := fun s k n a b c => spec_pick hb a b (by omega)
  have hQ : ∀ (s : Src) (k : Nat) (n : Int), SOk s k -> k <= 999999990 -> n <= 1000 -> HC Tryz.prog 53 [.ref 10000 0, .d (.int .i64 n)] [(10000, srcB code s)] (.d (.bool (decide (pickV code n s = 0)))) [(10000, srcB code (pickS code n s))] := fun s k n a b c => spec_one hb a b (by omega)
  have hM : ∀ (s : Src) (k : Nat) (l : List Int), SOk s k -> k <= 999999990 -> 1 <= l.length -> l.length <= 1000 -> HC Tryz.prog 162 [.ref 10000 0, .d (ints l)] [(10000, srcB code s)] (.d (.int .i64 (l.getD (pickV code l.length s).toNat 0))) [(10000, srcB code (pickS code l.length s))] := fun s k l a b c d => spec_among hb a b c d
  have hD : ∀ (most : Int) (s : Src) (k : Nat), 1 <= most /\ most <= 10 -> SOk s k -> k <= 999990000 -> ∃ n nx s', AOk n nx most /\ SOk s' (k + 140) /\ HC Tryz.prog 212 [.ref 10000 0, .d (.int .i64 most)] [(10000, srcB code s)] (.agg [.d (.int .i64 n), .own 30000]) [(10000, srcB code s'), (30000, .rows 29 2 1 (rws nx) none)] := fun most s k hm h hk => by
    have hN := dnN_range (s := s) (most := most) hb hm.1
    have hL := dnL_range (s := (dnN code most s).2) hb
    have h1 := rwsK_ok (code := code) (dnL_ok (code := code) (dnN_ok (code := code) (most := most) h)) (n := (dnN code most s).1) (by omega) (dnL code (dnN code most s).2).1.toNat
    have hc1 := spec_l01DrawnO (most := most) hb hm h (by omega)
    have hT := rwsK_el (s := (dnL code (dnN code most s).2).2) hb hN.1 (dnL code (dnN code most s).2).1.toNat
    have hTl := rwsK_len (code := code) (n := (dnN code most s).1) (s := (dnL code (dnN code most s).2).2) (dnL code (dnN code most s).2).1.toNat
    exact ⟨_, _, _, ⟨hN, by omega, hT⟩, h1.mono (by omega), hc1⟩
  obtain ⟨n1, nx1, s1, a1, h1, hc1⟩ := hD 6 s k (by omega) h (by omega)
  have c2 := hQ _ _ 8 h1 (by omega) (by omega)
  have h2 := pick_ok (code := code) (n := 8) h1
  obtain ⟨n2, nx2, s2, a2, h3, hc2⟩ := hD 10 _ _ (by omega) h2 (by omega)
  obtain ⟨A, hA⟩ : ∃ A : Int × List (List Int) × Src, A = if pickV code 8 s1 = 0 then (n2, nx2, s2) else (n1, nx1, pickS code 8 s1) := ⟨_, rfl⟩
  have hAok : AOk A.1 A.2.1 10 /\ SOk A.2.2 (k + 300) := by
    rw [hA]
    split
    . exact ⟨a2, h3.mono (by omega)⟩
    . exact ⟨⟨by have := a1.n1; dsimp only; omega, a1.l1, a1.t⟩, h2.mono (by omega)⟩
  unfold srcB at *
  refine hx_intro tabIs _ Tryz.func271 rfl rfl Tryz.ntmps271 rfl rfl rfl ?_ fun w0 ok0 XM XA anc he0 hX0 => ?_
  . intro i
    cases i
    . exact likeIn_cons rfl rfl likeIn_nil
    . exact likeIn_cons rfl rfl likeIn_nil
  repeat (first | refine zc ?_ | refine zv ?_)
  refine hcl [(10000, 10000)] [(10000, 10000), (30000, 200)] hc1 ?_
  repeat (first | refine zcr ?_ | refine zv ?_)
  refine awp_cut2 [(0, .ref 10000 0), (2, .ref 2 0), (3, .ref 3 0)] [(2, .box [.d (.int .i64 0), .d .nils]), (3, .box [.d (.int .i64 A.1), .own 200]), (200, .rows 29 2 1 (rws A.2.1) none), (10000, .box [.d (u8s code), .d (.int .i64 A.2.2.pos), .d (.int .u64 A.2.2.sd)])] ?_ ?_
  . refine awp_region ?_
    by_cases q : pickV code 8 s1 = 0
    . rw [if_pos q] at hA
      subst hA
      repeat (first | refine zc ?_ | refine zv ?_)
      refine hcl [(10000, 10000)] [(10000, 10000)] c2 ?_
      repeat (first | refine zcr ?_ | refine zv ?_ | refine zg ?_)
      refine awp_freeze 200 rfl rfl ?_
      repeat (first | refine zc ?_ | refine zv ?_ | refine zg ?_)
      refine hcl [(10000, 10000)] [(10000, 10000), (30000, 200)] hc2 ?_
      repeat (first | refine zc ?_ | refine zv ?_ | refine zg ?_)
      exact ⟨by exact zs, rfl⟩
    . rw [if_neg q] at hA
      subst hA
      repeat (first | refine zc ?_ | refine zv ?_)
      refine hcl [(10000, 10000)] [(10000, 10000)] c2 ?_
      repeat (first | refine zc ?_ | refine zv ?_ | refine zg ?_)
      exact ⟨by exact zs, rfl⟩
  . clear hA h3 hc2 a2 h2 c2 hc1 h1 a1
    obtain ⟨n, nx, s3⟩ := A
    obtain ⟨ha, h3⟩ := hAok
    dsimp only at ha h3 ⊢
    have hn := ha.n1
    have hl := ha.l1
    have hrl := rws_length nx
    have c4 := hP _ _ ((rws nx).length : Nat) h3 (by omega) (by omega)
    have r4 := pick_range (s := s3) (n := ((rws nx).length : Nat)) hb (by omega)
    have h4 := pick_ok (code := code) (n := ((rws nx).length : Nat)) h3
    generalize pickV code ((rws nx).length : Nat) s3 = at_ at *
    generalize pickS code ((rws nx).length : Nat) s3 = s4 at *
    have c5 := hP _ _ 24 h4 (by omega) (by omega)
    have r5 := pick_range (s := s4) (n := 24) hb (by omega)
    have h5 := pick_ok (code := code) (n := 24) h4
    generalize pickV code 24 s4 = y at *
    generalize pickS code 24 s4 = s5 at *
    repeat (first | refine zc ?_ | refine zv ?_)
    refine hcl [(10000, 10000)] [(10000, 10000)] c4 ?_
    repeat (first | refine zc ?_ | refine zv ?_)
    refine hcl [(10000, 10000)] [(10000, 10000)] c5 ?_
    repeat (first | refine zcr ?_ | refine zv ?_)
    refine awp_sub (s' := [(0, .ref 10000 0), (2, .ref 2 0), (3, .ref 3 0), (4, .d (.int .i64 at_)), (17, .d (.int .i64 y))]) (by exact zs) ?_
    refine awp_permTo [(2, .box [.d (.int .i64 0), .d .nils]), (3, .box [.d (.int .i64 n), .own 200]), (200, .rows 29 2 1 (rws nx) none), (10000, .box [.d (u8s code), .d (.int .i64 s5.pos), .d (.int .u64 s5.sd)])] rfl ?_
    by_cases y0 : y = 0
    . have c6 := hM _ _ [0, -1, n + 1, 11] h5 (by omega) (by simp) (by simp)
      have h6 := pick_ok (code := code) (n := (([0, -1, n + 1, 11] : List Int).length : Nat)) h5
      have r6 := pick_range (s := s5) (n := (([0, -1, n + 1, 11] : List Int).length : Nat)) hb (by simp)
      have hv : ∀ j : Nat, j < 4 -> ([0, -1, n + 1, 11] : List Int).getD j 0 = 0 \/ ([0, -1, n + 1, 11] : List Int).getD j 0 = -1 \/ ([0, -1, n + 1, 11] : List Int).getD j 0 = n + 1 \/ ([0, -1, n + 1, 11] : List Int).getD j 0 = 11 := fun j hj => by
        match j with
        | 0 => exact .inl rfl
        | 1 => exact .inr (.inl rfl)
        | 2 => exact .inr (.inr (.inl rfl))
        | 3 => exact .inr (.inr (.inr rfl))
        | j + 4 => omega
      have hv := tbl_not1 ha (hv (pickV code (([0, -1, n + 1, 11] : List Int).length : Nat) s5).toNat (by simp at r6 ⊢; omega))
      have h6 : SOk (pickS code (([0, -1, n + 1, 11] : List Int).length : Nat) s5) (k + 1000) := h6.mono (by omega)
      generalize ([0, -1, n + 1, 11] : List Int).getD (pickV code (([0, -1, n + 1, 11] : List Int).length : Nat) s5).toNat 0 = z at *
      generalize pickS code (([0, -1, n + 1, 11] : List Int).length : Nat) s5 = s6 at *
      refine awp_freeze 200 rfl rfl ?_
      repeat (first | refine zc ?_ | refine zv ?_)
      refine hcl [(10000, 10000)] [(10000, 10000)] c6 ?_
      repeat (first | refine zc ?_ | refine zv ?_)
      refine awp_dummy 200 29 2 1 rfl rfl ?_
      (refine awp_ret ?_; (repeat (first | refine then_r ?_ | refine block_r ?_ | refine loop_r ?_)); refine ⟨.no z nx s6, ⟨hv, rowsOk_tblD ha.t (by omega) (by omega), h6⟩, u_rH [(10000, 10000), (200, 30000)] ?_ ?_⟩)
      . exact congrArg (fun d => SV.d (.agg [.int .i64 z, d])) (rws_dat nx)
      . rfl
    . by_cases y1 : y = 1
      . have h5 : SOk s5 (k + 1000) := h5.mono (by omega)
        have hat : at_.toNat < nx.length := by omega
        have hxr : (rws nx)[at_.toNat]? = some ((nx[at_.toNat]).map (.int .i64)) := by simp [rws, hat]
        have hrn := (ha.t _ (List.getElem_mem hat)).1
        refine awp_tag 200 rfl rfl fun bs T => ?_
        obtain ⟨b, hbs⟩ := tag_someD T hxr (fun e => by have := congrArg List.length e; simp at this; rw [this] at hrn; simp at hrn; omega)
        have hbl := T.len
        have hgt := tagL_get (e := 2) (sz := 1) hbs hxr
        have htl : (tagL 2 1 bs (rws nx)).length = nx.length := by rw [tagL_length T.len, hrl]
        have hle : D.Le (.lst ((tagL 2 1 bs (rws nx)).set at_.toNat (.lst (((nx[at_.toNat]).map (D.int .i64)).drop (1 : Int).toNat)))) (rows (nx.set at_.toNat ((nx[at_.toNat]).drop 1))) := by
          refine .lst _ _ (by simp [htl]) fun i x z hx hz => ?_
          by_cases hi : i = at_.toNat
          . subst hi
            rw [List.getElem?_set_self (by omega)] at hx
            rw [List.getElem?_map, List.getElem?_set_self hat] at hz
            cases hx
            cases hz
            rw [<- List.map_drop]
            exact .refl _
          . rw [List.getElem?_set_ne (fun e => hi e.symm)] at hx
            rw [List.getElem?_map, List.getElem?_set_ne (fun e => hi e.symm), Option.map_eq_some_iff] at hz
            obtain ⟨u, hu, rfl⟩ := hz
            have hil : i < bs.length := by
              rcases Nat.lt_or_ge i nx.length with h | h
              . omega
              . rw [List.getElem?_eq_none h] at hu; cases hu
            have hbi : bs[i]? = some (bs[i]) := List.getElem?_eq_getElem hil
            have hxi : (rws nx)[i]? = some (u.map (.int .i64)) := by simp [rws, hu]
            rw [tagL_get hbi hxi] at hx
            cases hx
            exact tagD_le fun hn => by
              have := T.emp i (by rw [hbi, hn])
              rw [hxi] at this
              exact Option.some.inj this
        have hno : autoOk n (nx.set at_.toNat ((nx[at_.toNat]).drop 1)) = false := not_auto fun ⟨_, _, h3⟩ => by
          have hm : (nx[at_.toNat]).drop 1 ∈ nx.set at_.toNat ((nx[at_.toNat]).drop 1) := List.mem_set (by simpa using hat) _
          have := (h3 _ hm).1
          simp at this
          omega
        have hro : RowsOk (nx.set at_.toNat ((nx[at_.toNat]).drop 1)) := ⟨fun ns hns => by
          have hr := rowsOk_tblD ha.t (by omega) (by omega)
          rcases List.mem_or_eq_of_mem_set hns with h | h
          . exact hr.1 ns h
          . obtain ⟨q1, q2⟩ := hr.1 _ (List.getElem_mem hat)
            rw [h]
            exact ⟨fun x hx => q1 x (List.mem_of_mem_drop hx), by simp; omega⟩, by simp; omega⟩
        have hrl2 : (1 : Int) <= ((nx[at_.toNat]).map (D.int .i64)).length := by simp; omega
        generalize (nx[at_.toNat]).map (D.int .i64) = RA at *
        generalize nx.set at_.toNat ((nx[at_.toNat]).drop 1) = nx' at *
        generalize tagL 2 1 bs (rws nx) = TL at *
        have hgt : TL[at_.toNat]? = some (.rowb b 2 1 RA) := hgt
        repeat (first | refine zc ?_ | ((first | apply x_l | apply x_q | apply x_lr | apply x_qr); (focus (first | (apply wa_loadElt; (iterate 6 (focus (first | exact rfl | (first | assumption | omega | (simp; omega) | (simp; done) | rfl))))) | (apply qa_sliceRowb; (iterate 8 (focus (first | exact rfl | (first | assumption | omega | (simp; omega) | (simp; done) | rfl))))))); exact rfl) | (apply v_x; (iterate 2 exact rfl); (focus (intro ok0 nw hle; (first | (apply wa_loadElt; (iterate 6 (focus (first | exact rfl | (first | assumption | omega | (simp; omega) | (simp; done) | rfl))))) | (apply qa_sliceRowb; (iterate 8 (focus (first | exact rfl | (first | assumption | omega | (simp; omega) | (simp; done) | rfl)))))))); (iterate 2 exact rfl)) | refine zv ?_)
        refine awp_freeze 200 rfl rfl ?_
        refine awp_cellImp 2 1 rfl rfl (fun ok w v h => h.le hle) ?_
        refine awp_dummy 200 29 2 1 rfl rfl ?_
        (refine awp_ret ?_; (repeat (first | refine then_r ?_ | refine block_r ?_ | refine loop_r ?_)); refine ⟨.no n nx' s5, ⟨hno, hro, h5⟩, u_rH [(10000, 10000), (200, 30000)] ?_ ?_⟩)
        . rfl
        . rfl
      . by_cases y2 : y = 2
        . have c6 := hM _ _ [-1, n] h5 (by omega) (by simp) (by simp)
          have h6 := pick_ok (code := code) (n := (([-1, n] : List Int).length : Nat)) h5
          have r6 := pick_range (s := s5) (n := (([-1, n] : List Int).length : Nat)) hb (by simp)
          have hv : ∀ j : Nat, j < 2 -> ([-1, n] : List Int).getD j 0 = -1 \/ ([-1, n] : List Int).getD j 0 = n := fun j hj => by
            match j with
            | 0 => exact .inl rfl
            | 1 => exact .inr rfl
            | j + 2 => omega
          have hv := hv (pickV code (([-1, n] : List Int).length : Nat) s5).toNat (by simp at r6 ⊢; omega)
          have h6 : SOk (pickS code (([-1, n] : List Int).length : Nat) s5) (k + 1000) := h6.mono (by omega)
          generalize ([-1, n] : List Int).getD (pickV code (([-1, n] : List Int).length : Nat) s5).toNat 0 = z at *
          generalize pickS code (([-1, n] : List Int).length : Nat) s5 = s6 at *
          have hat : at_.toNat < nx.length := by omega
          have hxr : (rws nx)[at_.toNat]? = some ((nx[at_.toNat]).map (.int .i64)) := by simp [rws, hat]
          have hrn := (ha.t _ (List.getElem_mem hat)).1
          have hset : (rws nx).set at_.toNat (((nx[at_.toNat]).map (D.int .i64)).set 0 (.int .i64 z)) = rws (nx.set at_.toNat ((nx[at_.toNat]).set 0 z)) := by
            unfold rws
            rw [List.map_set, List.map_set]
          have hno : autoOk n (nx.set at_.toNat ((nx[at_.toNat]).set 0 z)) = false := not_auto fun ⟨_, _, h3⟩ => by
            have hm : (nx[at_.toNat]).set 0 z ∈ nx.set at_.toNat ((nx[at_.toNat]).set 0 z) := List.mem_set (by simpa using hat) _
            have hz : z ∈ (nx[at_.toNat]).set 0 z := List.mem_set (by omega) _
            have := (h3 _ hm).2 z hz
            omega
          have hro : RowsOk (nx.set at_.toNat ((nx[at_.toNat]).set 0 z)) := ⟨fun ns hns => by
            have hr := rowsOk_tblD ha.t (by omega) (by omega)
            rcases List.mem_or_eq_of_mem_set hns with h | h
            . exact hr.1 ns h
            . obtain ⟨q1, q2⟩ := hr.1 _ (List.getElem_mem hat)
              rw [h]
              refine ⟨fun x hx => ?_, by simp; omega⟩
              rcases List.mem_or_eq_of_mem_set hx with h | h
              . exact q1 x h
              . rw [h]; unfold I64; omega, by simp; omega⟩
          have hrl2 : (1 : Int) <= ((nx[at_.toNat]).map (D.int .i64)).length := by simp; omega
          generalize (nx[at_.toNat]).map (D.int .i64) = RA at *
          generalize nx.set at_.toNat ((nx[at_.toNat]).set 0 z) = nx' at *
          generalize rws nx = RN at *
          repeat (first | refine zcn ?_ | refine zv ?_)
          refine awp_carve0 200 at_.toNat 300 rfl hxr rfl rfl rfl ?_
          refine u_m [(9, [10000]), (11, [300])] (.tk [10000] [0, 1, 2, 3, 4, 6, 7, 8] (.tk [] [5, 9, 10, 11] .done)) ?_
          repeat (first | refine zc ?_ | ((first | apply x_l | apply x_q | apply x_lr | apply x_qr); (focus (first | (apply wa_loadHole; (iterate 5 (focus (first | exact rfl | (first | assumption | omega | (simp; omega) | (simp; done) | rfl))))))); exact rfl) | (apply v_x; (iterate 2 exact rfl); (focus (intro ok0 nw hle; (first | (apply wa_loadHole; (iterate 5 (focus (first | exact rfl | (first | assumption | omega | (simp; omega) | (simp; done) | rfl)))))))); (iterate 2 exact rfl)) | refine zv ?_)
          refine hclM [(10000, 10000)] [(10000, 10000)] c6 ?_
          repeat (first | refine zc ?_ | refine zv ?_)
          refine awp_back 200 300 (by exact rfl) (by exact rfl) (by exact rfl) (by exact rfl) (by exact rfl) (by exact rfl) hxr (by simp) ?_
          refine awp_freeze 200 rfl rfl ?_
          refine awp_dummy 200 29 2 1 rfl rfl ?_
          (refine awp_ret ?_; (repeat (first | refine then_r ?_ | refine block_r ?_ | refine loop_r ?_)); refine ⟨.no n nx' s6, ⟨hno, hro, h6⟩, u_rH [(10000, 10000), (200, 30000)] ?_ ?_⟩)
          . exact congrArg (fun d => SV.d (.agg [.int .i64 n, d])) ((congrArg (fun l => D.lst (l.map D.lst)) hset).trans (rws_dat nx'))
          . rfl
        . by_cases y3 : y = 3
          . have h5 : SOk s5 (k + 1000) := h5.mono (by omega)
            have hat : 0 < nx.length := by omega
            have hxr : (rws nx)[0]? = some ((nx[0]).map (.int .i64)) := by simp [rws, hat]
            have hrn := (ha.t _ (List.getElem_mem hat)).1
            refine awp_tag 200 rfl rfl fun bs T => ?_
            obtain ⟨b, hbs⟩ := tag_someD T hxr (fun e => by have := congrArg List.length e; simp at this; rw [this] at hrn; simp at hrn; omega)
            have hgt := tagL_get (e := 2) (sz := 1) hbs hxr
            have htl : (tagL 2 1 bs (rws nx)).length = nx.length := by rw [tagL_length T.len, hrl]
            have hle : D.Le (.lst (tagL 2 1 bs (rws nx) ++ [.rowb b 2 1 ((nx[0]).map (.int .i64))] ++ [.rowb b 2 1 ((nx[0]).map (.int .i64)), .rowb b 2 1 ((nx[0]).map (.int .i64))])) (rows (nx ++ [nx[0], nx[0], nx[0]])) := by
              refine .lst _ _ (by simp [htl]) fun i x z hx hz => ?_
              rw [List.append_assoc] at hx
              rw [List.getElem?_map, Option.map_eq_some_iff] at hz
              obtain ⟨u, hu, rfl⟩ := hz
              rcases Nat.lt_or_ge i nx.length with hil | hil
              . rw [List.getElem?_append_left (by omega)] at hx
                rw [List.getElem?_append_left hil] at hu
                have hbi : bs[i]? = some (bs[i]'(by have := T.len; omega)) := List.getElem?_eq_getElem _
                have hxi : (rws nx)[i]? = some (u.map (.int .i64)) := by simp [rws, hu]
                rw [tagL_get hbi hxi] at hx
                cases hx
                exact tagD_le fun hn => by
                  have := T.emp i (by rw [hbi, hn])
                  rw [hxi] at this
                  exact Option.some.inj this
              . rw [List.getElem?_append_right (by omega), htl] at hx
                rw [List.getElem?_append_right hil] at hu
                have hxx : x = .rowb b 2 1 ((nx[0]).map (.int .i64)) := by
                  have := List.mem_of_getElem? hx
                  simpa using this
                have huu : u = nx[0] := by
                  have := List.mem_of_getElem? hu
                  simpa using this
                rw [hxx, huu]
                exact .tag _ _ _ _
            have hno : autoOk n (nx ++ [nx[0], nx[0], nx[0]]) = false := not_auto fun ⟨_, h2, _⟩ => by
              have h3 := h2.2
              rw [List.length_append] at h3
              simp only [List.length_cons, List.length_nil] at h3
              omega
            have hro : RowsOk (nx ++ [nx[0], nx[0], nx[0]]) := by
              have hr := rowsOk_tblD ha.t (by omega) (by omega)
              refine ⟨fun ns hns => ?_, by simp; omega⟩
              rcases List.mem_append.1 hns with h | h
              . exact hr.1 ns h
              . have : ns = nx[0] := by simpa using h
                rw [this]
                exact hr.1 _ (List.getElem_mem hat)
            generalize (nx[0]).map (D.int .i64) = RA at *
            generalize nx ++ [nx[0], nx[0], nx[0]] = nx' at *
            generalize tagL 2 1 bs (rws nx) = TL at *
            have hgt : TL[(0 : Int).toNat]? = some (.rowb b 2 1 RA) := hgt
            repeat (first | refine zcn ?_ | refine zv ?_)
            refine awp_sub (s' := [(0, .ref 10000 0), (2, .ref 2 0), (3, .ref 3 0)]) (by exact zs) ?_
            refine awp_permTo [(2, .box [.d (.int .i64 0), .d .nils]), (3, .box [.d (.int .i64 n), .own 200]), (200, .arr 29 1 TL), (10000, .box [.d (u8s code), .d (.int .i64 s5.pos), .d (.int .u64 s5.sd)])] rfl ?_
            refine awp_appKeep [(0, 54, .ref 3 1), (1, 55, .own 200), (2, 56, .ref 3 1), (3, 57, .own 200), (4, 58, .elt 200 0), (5, 59, .d (.rowb b 2 1 RA)), (6, 60, .d (.lst [.rowb b 2 1 RA])), (8, 62, .d (.full [])), (9, 63, .ref 3 1), (10, 64, .own 200), (11, 65, .elt 200 0), (12, 66, .d (.rowb b 2 1 RA)), (13, 67, .ref 3 1), (14, 68, .own 200), (15, 69, .elt 200 0), (16, 70, .d (.rowb b 2 1 RA)), (17, 71, .d (.lst [.rowb b 2 1 RA, .rowb b 2 1 RA])), (18, 72, .d (.lst [.rowb b 2 1 RA, .rowb b 2 1 RA]))] 7 19 (t := 61) (id := 200) (xs := TL) (ys := [.rowb b 2 1 RA]) ?_ ?_ mixedIs (by simp) (by omega) (by rfl) ?_ (by simp) (by simp) ?_ (by rfl) ?_ rfl rfl (by exact rfl) (by rfl) rfl rfl rfl rfl rfl rfl rfl rfl rfl rfl rfl rfl rfl rfl rfl (by omega) (by simp) (by simp; omega) (by as_aux_lemma => kernel_rfl)
            . repeat (first | refine zc ?_ | refine zv ?_)
              refine awp_freeze 200 rfl rfl ?_
              refine awp_cellImp 2 1 rfl rfl (fun ok w v h => h.le hle) ?_
              refine awp_dummy 200 29 2 1 rfl rfl ?_
              (refine awp_ret ?_; (repeat (first | refine then_r ?_ | refine block_r ?_ | refine loop_r ?_)); refine ⟨.no n nx' s5, ⟨hno, hro, h5⟩, u_rH [(10000, 10000), (200, 30000)] ?_ ?_⟩)
              . rfl
              . rfl
            . repeat (first | refine zc ?_ | refine zv ?_)
              refine awp_freeze 61 rfl rfl ?_
              refine awp_cellImp 2 1 rfl rfl (fun ok w v h => h.le hle) ?_
              refine awp_dummy 200 29 2 1 rfl rfl ?_
              (refine awp_ret ?_; (repeat (first | refine then_r ?_ | refine block_r ?_ | refine loop_r ?_)); refine ⟨.no n nx' s5, ⟨hno, hro, h5⟩, u_rH [(10000, 10000), (200, 30000)] ?_ ?_⟩)
              . rfl
              . rfl
            . intro L hL i o hi ho hdep j hj
              have h718 : L 7 = true /\ L 18 = true := by
                match i, hi, ho with
                | 19, _, ho => cases ho; exact ⟨hdep ⟨7, .data⟩ (by simp) rfl, hdep ⟨18, .data⟩ (by simp) rfl⟩
                | 20, _, ho => cases ho; exact ⟨hdep ⟨7, .phase⟩ (by simp) rfl, hdep ⟨18, .phase⟩ (by simp) rfl⟩
                | 21, _, ho => cases ho; exact ⟨hdep ⟨7, .phase⟩ (by simp) rfl, hdep ⟨18, .phase⟩ (by simp) rfl⟩
                | i + 22, _, ho => simp at ho
              obtain ⟨h7, h18⟩ := h718
              have h8 := hL 18 _ rfl h18 ⟨8, .data⟩ (by simp) rfl
              have h17 := hL 18 _ rfl h18 ⟨17, .data⟩ (by simp) rfl
              have h12 := hL 17 _ rfl h17 ⟨12, .data⟩ (by simp) rfl
              have h16 := hL 17 _ rfl h17 ⟨16, .data⟩ (by simp) rfl
              have h11 := hL 12 _ rfl h12 ⟨11, .data⟩ (by simp) rfl
              have h10 := hL 11 _ rfl h11 ⟨10, .data⟩ (by simp) rfl
              have h9 := hL 10 _ rfl h10 ⟨9, .data⟩ (by simp) rfl
              have h15 := hL 16 _ rfl h16 ⟨15, .data⟩ (by simp) rfl
              have h14 := hL 15 _ rfl h15 ⟨14, .data⟩ (by simp) rfl
              have h13 := hL 14 _ rfl h14 ⟨13, .data⟩ (by simp) rfl
              have h1 := hL 7 _ rfl h7 ⟨1, .data⟩ (by simp) rfl
              have h6 := hL 7 _ rfl h7 ⟨6, .data⟩ (by simp) rfl
              have h05 := hL 6 _ rfl h6 ⟨5, .data⟩ (by simp) rfl
              have h04 := hL 5 _ rfl h05 ⟨4, .data⟩ (by simp) rfl
              have h03 := hL 4 _ rfl h04 ⟨3, .data⟩ (by simp) rfl
              have h02 := hL 3 _ rfl h03 ⟨2, .data⟩ (by simp) rfl
              have h00 := hL 1 _ rfl h1 ⟨0, .data⟩ (by simp) rfl
              match j, hj with
              | 0, _ => exact h00
              | 1, _ => exact h1
              | 2, _ => exact h02
              | 3, _ => exact h03
              | 4, _ => exact h04
              | 5, _ => exact h05
              | 6, _ => exact h6
              | 7, _ => exact h7
              | 8, _ => exact h8
              | 9, _ => exact h9
              | 10, _ => exact h10
              | 11, _ => exact h11
              | 12, _ => exact h12
              | 13, _ => exact h13
              | 14, _ => exact h14
              | 15, _ => exact h15
              | 16, _ => exact h16
              | 17, _ => exact h17
              | 18, _ => exact h18
              | j + 19, hj => omega
            . intro e he
              simp only [List.mem_cons, List.not_mem_nil, or_false] at he
              rcases he with rfl | rfl | rfl | rfl | rfl | rfl | rfl | rfl | rfl | rfl | rfl | rfl | rfl | rfl | rfl | rfl | rfl | rfl
              all_goals exact ⟨by simp, by simp, by simp, rfl⟩
            . intro i u sv hm
              simp only [List.mem_cons, List.not_mem_nil, or_false, Prod.mk.injEq] at hm
              rcases hm with ⟨rfl, rfl, rfl⟩ | ⟨rfl, rfl, rfl⟩ | ⟨rfl, rfl, rfl⟩ | ⟨rfl, rfl, rfl⟩ | ⟨rfl, rfl, rfl⟩ | ⟨rfl, rfl, rfl⟩ | ⟨rfl, rfl, rfl⟩ | ⟨rfl, rfl, rfl⟩ | ⟨rfl, rfl, rfl⟩ | ⟨rfl, rfl, rfl⟩ | ⟨rfl, rfl, rfl⟩ | ⟨rfl, rfl, rfl⟩ | ⟨rfl, rfl, rfl⟩ | ⟨rfl, rfl, rfl⟩ | ⟨rfl, rfl, rfl⟩ | ⟨rfl, rfl, rfl⟩ | ⟨rfl, rfl, rfl⟩ | ⟨rfl, rfl, rfl⟩
              all_goals refine ⟨_, rfl, rfl, rfl, rfl, rfl, ?_, ?_, fun t' ht' e => ?_⟩
              all_goals first
                | (subst e; simp [Op.operands, Call.operands] at ht'; done)
                | (apply qa_ev; exact rfl)
                | (apply qa_lit0; (iterate 6 exact rfl))
                | (apply wa_lit; (iterate 10 exact rfl))
                | exact wa_indexOwn (k := .i64) (n := 0) rfl rfl rfl rfl rfl rfl rfl (Int.le_refl _) (by omega)
                | (apply wa_loadElt; (iterate 4 exact rfl); exact hgt; exact rfl)
                | exact qv_append (xs := []) (ys := [.rowb b 2 1 RA, .rowb b 2 1 RA]) rfl rfl rfl rfl rfl rfl rfl rfl rfl (fun z hz => by cases hz) rfl (by simp) (by simp)
          . by_cases y4 : y = 4
            . have h5 : SOk s5 (k + 1000) := h5.mono (by omega)
              refine awp_freeze 200 rfl rfl ?_
              repeat (first | refine zc ?_ | refine zv ?_)
              refine awp_dummy 200 29 2 1 rfl rfl ?_
              (refine awp_ret ?_; (repeat (first | refine then_r ?_ | refine block_r ?_ | refine loop_r ?_)); refine ⟨.no n [] s5, ⟨not_auto (fun ⟨_, h, _⟩ => absurd h.1 (by simp)), ⟨(fun ns h => absurd h (List.not_mem_nil)), by simp⟩, h5⟩, u_rH [(10000, 10000), (200, 30000)] ?_ ?_⟩)
              . rfl
              . rfl
            . have h5 : SOk s5 (k + 1000) := h5.mono (by omega)
              repeat (first | refine zc ?_ | refine zv ?_)
              (refine awp_ret ?_; (repeat (first | refine then_r ?_ | refine block_r ?_ | refine loop_r ?_)); refine ⟨.ok n nx s5, ⟨ha, h5⟩, u_rH [(10000, 10000), (200, 30000)] ?_ ?_⟩)
              . rfl
              . rfl
end Go.Proofs.YtckpadnjldebaaaGreat
