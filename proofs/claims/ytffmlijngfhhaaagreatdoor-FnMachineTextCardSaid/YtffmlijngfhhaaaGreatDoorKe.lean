/- The reference's draw of a machine with equivalent states, and of a machine. No condition. -/
import Derived.Test.YtffmlijngfhhaaaGreatDoorKc
import Derived.Test.YtffmlijngfhhaaaGreatDoorFwX
import Derived.Test.YtffmlijngfhhaaaGreatDoorMa
namespace Go.Proofs.YtffmlijngfhhaaaGreatDoor
open Go
attribute [local irreducible] awp awpL awpQL awpQ awpM pWalk Qt AC thenQ blockQ loopQ OpTo
set_option linter.unusedVariables false
set_option linter.unusedSimpArgs false
set_option maxHeartbeats 2000000
attribute [local irreducible] HC

theorem spec_l06Draw {code : List Int} {most : Int} {s : Src} {k : Nat} (hb : BytesOk code) (hm : 1 ≤ most ∧ most ≤ 9) (h : SOk s k) (hk : k ≤ 999999000) :
    HC Tryz.prog 53 [.ref 10000 0, .d (.int .i64 most)] [(10000, srcB code s)] (.agg [.d (.int .i64 (drS code most s)), .d (.int .i64 (drO code (pickS code most s))), .own 30000, .own 30001])
      [(10000, srcB code (drM code most s).2.2), (30000, .rows 27 2 1 (rws (drM code most s).1) none), (30001, .rows 27 2 1 (rws (drM code most s).2.1) none)] := by
  by_cases h6 : pickV code 6 (pickS code most s) = 0
  · by_cases h8 : pickV code 8 (pickS code 2 (pickS code 2 (pickS code 6 (pickS code most s)))) = 0
    · exact l06Draw_11 hb hm h hk h6 h8
    · exact l06Draw_10 hb hm h hk h6 h8
  · by_cases h8 : pickV code 8 (pickS code 2 (pickS code 6 (pickS code most s))) = 0
    · exact l06Draw_01 hb hm h hk h6 h8
    · exact l06Draw_00 hb hm h hk h6 h8

/-! ### A state is doubled -/
def twS (code : List Int) (at_ S : Int) (r : List Int) (s : Src) : Nat → List Int × Src
  | 0 => (r, s)
  | x + 1 => if (twS code at_ S r s x).1.getD x 0 = at_ then (if pickV code 2 (twS code at_ S r s x).2 = 0 then (twS code at_ S r s x).1.set x S else (twS code at_ S r s x).1, pickS code 2 (twS code at_ S r s x).2) else twS code at_ S r s x
def twR (code : List Int) (at_ S : Int) (nx ou : List (List Int)) (s : Src) : Nat → List (List Int) × List (List Int) × Src
  | 0 => (nx, ou, s)
  | k + 1 => ((twR code at_ S nx ou s k).1.set k (twS code at_ S ((twR code at_ S nx ou s k).1.getD k [] ++ [((twR code at_ S nx ou s k).1.getD k []).getD at_.toNat 0]) (twR code at_ S nx ou s k).2.2 (S.toNat + 1)).1,
      (twR code at_ S nx ou s k).2.1.set k ((twR code at_ S nx ou s k).2.1.getD k [] ++ [((twR code at_ S nx ou s k).2.1.getD k []).getD at_.toNat 0]),
      (twS code at_ S ((twR code at_ S nx ou s k).1.getD k [] ++ [((twR code at_ S nx ou s k).1.getD k []).getD at_.toNat 0]) (twR code at_ S nx ou s k).2.2 (S.toNat + 1)).2)

theorem twS_len {code : List Int} {at_ S : Int} {r : List Int} {s : Src} : ∀ x, (twS code at_ S r s x).1.length = r.length
  | 0 => rfl
  | x + 1 => by
    have := twS_len (code := code) (at_ := at_) (S := S) (r := r) (s := s) x
    unfold twS
    split
    · split <;> simp [this]
    · exact this
theorem twS_ok {code : List Int} {at_ S : Int} {r : List Int} {s : Src} {k : Nat} (h : SOk s k) : ∀ x, SOk (twS code at_ S r s x).2 (k + 2 * x)
  | 0 => h
  | x + 1 => by
    have := twS_ok (code := code) (at_ := at_) (S := S) (r := r) h x
    unfold twS
    split
    · show SOk (pickS code 2 (twS code at_ S r s x).2) _
      exact (pick_ok this).mono (by omega)
    · exact SOk.mono this (by omega)
theorem twS_el {code : List Int} {at_ S : Int} {r : List Int} {s : Src} (hS : 0 ≤ S) (hr : ∀ v ∈ r, 0 ≤ v ∧ v < S + 1) : ∀ x, ∀ v ∈ (twS code at_ S r s x).1, 0 ≤ v ∧ v < S + 1
  | 0 => hr
  | x + 1 => by
    have := twS_el (code := code) (at_ := at_) (s := s) hS hr x
    unfold twS
    split
    · split
      · intro v hv
        rcases List.mem_or_eq_of_mem_set hv with h | h
        · exact this v h
        · subst h; omega
      · exact this
    · exact this

def Rg (s b : Int) (ns : List Int) : Prop := (ns.length : Int) = s ∧ ∀ v ∈ ns, 0 ≤ v ∧ v < b
theorem rg_at {s b : Int} {ns : List Int} (h : Rg s b ns) {q : Int} (hq : 0 ≤ q ∧ q < s) : 0 ≤ ns.getD q.toNat 0 ∧ ns.getD q.toNat 0 < b := by
  have hl : q.toNat < ns.length := by have := h.1; omega
  rw [List.getD_eq_getElem?_getD, List.getElem?_eq_getElem hl]
  exact h.2 _ (List.getElem_mem hl)
theorem rg_dbl {s b : Int} {ns : List Int} (h : Rg s b ns) {q : Int} (hq : 0 ≤ q ∧ q < s) : Rg (s + 1) b (ns ++ [ns.getD q.toNat 0]) := by
  refine ⟨by have := h.1; simp only [List.length_append, List.length_singleton]; omega, fun v hv => ?_⟩
  rcases List.mem_append.1 hv with hv | hv
  · exact h.2 v hv
  · simp only [List.mem_singleton] at hv; subst hv; exact rg_at h hq
theorem rg_tbl {s b : Int} {nss : List (List Int)} : Tbl s b nss ↔ ∀ j, j < nss.length → Rg s b (nss.getD j []) := by
  refine ⟨fun h j hj => ?_, fun h ns hn => ?_⟩
  · rw [List.getD_eq_getElem?_getD, List.getElem?_eq_getElem hj]
    exact h _ (List.getElem_mem hj)
  · obtain ⟨j, hj, e⟩ := List.getElem_of_mem hn
    have := h j hj
    rw [List.getD_eq_getElem?_getD, List.getElem?_eq_getElem hj, Option.getD_some, e] at this
    exact this
theorem getD_set_l {α : Type} {l : List α} {k j : Nat} {v d : α} (hk : k < l.length) : (l.set k v).getD j d = if k = j then v else l.getD j d := by
  rw [List.getD_eq_getElem?_getD, List.getD_eq_getElem?_getD, List.getElem?_set]
  split
  · subst_vars; simp [hk]
  · rfl

structure TwI (code : List Int) (at_ S O : Int) (nx ou : List (List Int)) (s : Src) (k0 k : Nat) : Prop where
  l1 : (twR code at_ S nx ou s k).1.length = nx.length
  l2 : (twR code at_ S nx ou s k).2.1.length = nx.length
  r : ∀ j, k ≤ j → (twR code at_ S nx ou s k).1.getD j [] = nx.getD j [] ∧ (twR code at_ S nx ou s k).2.1.getD j [] = ou.getD j []
  d : ∀ j, j < k → Rg (S + 1) (S + 1) ((twR code at_ S nx ou s k).1.getD j []) ∧ Rg (S + 1) O ((twR code at_ S nx ou s k).2.1.getD j [])
  ok : SOk (twR code at_ S nx ou s k).2.2 (k0 + 30 * k)

theorem twI {code : List Int} {at_ S O : Int} {nx ou : List (List Int)} {s : Src} {k0 : Nat} (m : MV S O nx ou) (ha : 0 ≤ at_ ∧ at_ < S) (h : SOk s k0) : ∀ k, k ≤ nx.length → TwI code at_ S O nx ou s k0 k
  | 0, _ => ⟨rfl, m.eq, fun j _ => ⟨rfl, rfl⟩, fun j hj => by omega, h⟩
  | k + 1, hk => by
    have ih := twI (code := code) m ha h k (by omega)
    have hS := m.s1
    have l1 := ih.l1
    have l2 := ih.l2
    obtain ⟨e1, e2⟩ := ih.r k (Nat.le_refl _)
    have g1 : Rg S S (nx.getD k []) := rg_tbl.1 m.nx k (by omega)
    have g2 : Rg S O (ou.getD k []) := rg_tbl.1 m.ou k (by have := m.eq; omega)
    have t1 : Rg (S + 1) (S + 1) (twS code at_ S (nx.getD k [] ++ [(nx.getD k []).getD at_.toNat 0]) (twR code at_ S nx ou s k).2.2 (S.toNat + 1)).1 := by
      have g3 := rg_dbl g1 ha
      exact ⟨by rw [twS_len]; exact g3.1, twS_el (by omega) (fun v hv => by have := g3.2 v hv; omega) _⟩
    have t2 := rg_dbl g2 ha
    have t3 : SOk (twS code at_ S (nx.getD k [] ++ [(nx.getD k []).getD at_.toNat 0]) (twR code at_ S nx ou s k).2.2 (S.toNat + 1)).2 (k0 + 30 * k + 2 * (S.toNat + 1)) := twS_ok ih.ok _
    refine ⟨?_, ?_, fun j hj => ?_, fun j hj => ?_, ?_⟩
    · simp [twR, l1]
    · simp [twR, l2]
    · have := ih.r j (by omega)
      simp only [twR]
      rw [getD_set_l (by omega), getD_set_l (by omega), if_neg (by omega), if_neg (by omega)]
      exact this
    · simp only [twR, e1, e2]
      rw [getD_set_l (by omega), getD_set_l (by omega)]
      by_cases hkj : k = j
      · rw [if_pos hkj, if_pos hkj]
        exact ⟨t1, t2⟩
      · rw [if_neg hkj, if_neg hkj]
        exact ih.d j (by omega)
    · simp only [twR, e1]
      exact t3.mono (by omega)

/-- The machine with the doubled state. -/
def tw (code : List Int) (s : Src) : List (List Int) × List (List Int) × Src :=
  twR code (pickV code (drS code 4 s) (drM code 4 s).2.2) (drS code 4 s) (drM code 4 s).1 (drM code 4 s).2.1 (pickS code (drS code 4 s) (drM code 4 s).2.2) (drM code 4 s).1.length

theorem mv_tw {code : List Int} {s : Src} {k0 : Nat} (hb : BytesOk code) (h : SOk s k0) : MV (drS code 4 s + 1) (drO code (pickS code 4 s)) (tw code s).1 (tw code s).2.1 := by
  have m := mv_draw (s := s) (most := 4) hb (by omega)
  have hS := drS_range (s := s) (most := 4) hb (by omega)
  have i := twI (code := code) m (pick_range (s := (drM code 4 s).2.2) hb hS.1) (pick_ok (code := code) (n := drS code 4 s) (drM_ok (most := 4) hb (by omega) h)) _ (Nat.le_refl _)
  exact ⟨by omega, m.o1, by show 1 ≤ (tw code s).1.length ∧ _; unfold tw; rw [i.l1]; exact m.n1, by unfold tw; rw [i.l1, i.l2],
    rg_tbl.2 fun j hj => (i.d j (by unfold tw at hj; rw [i.l1] at hj; exact hj)).1, rg_tbl.2 fun j hj => (i.d j (by unfold tw at hj; rw [i.l2] at hj; exact hj)).2⟩

theorem spec_l06Twin {code : List Int} {s : Src} {k0 : Nat} (hb : BytesOk code) (h : SOk s k0) (hk : k0 ≤ 999990000) :
    HC Tryz.prog 52 [.ref 10000 0] [(10000, srcB code s)] (.agg [.d (.int .i64 (drS code 4 s + 1)), .d (.int .i64 (drO code (pickS code 4 s))), .own 30000, .own 30001])
      [(10000, srcB code (tw code s).2.2), (30000, .rows 27 2 1 (rws (tw code s).1) none), (30001, .rows 27 2 1 (rws (tw code s).2.1) none)] := by
  have hS := drS_range (s := s) (most := 4) hb (by omega)
  have hM := drM_ok (most := 4) hb (by omega) h
  have m := mv_draw (s := s) (most := 4) hb (by omega)
  have hd := spec_l06Draw (most := 4) hb (by omega) h (by omega)
  have hp := spec_pick (n := drS code 4 s) hb hM (by omega) (by omega)
  have ha := pick_range (s := (drM code 4 s).2.2) (n := drS code 4 s) hb hS.1
  have hQ : ∀ (s : Src) (k : Nat), SOk s k → k ≤ 999999990 → HC Tryz.prog 51 [.ref 10000 0, .d (.int .i64 2)] [(10000, srcB code s)] (.d (.bool (decide (pickV code 2 s = 0)))) [(10000, srcB code (pickS code 2 s))] := fun s k a b => spec_one hb a b (by omega)
  have hI := twI (code := code) m ha (pick_ok (code := code) (n := drS code 4 s) hM)
  unfold tw
  generalize pickV code (drS code 4 s) (drM code 4 s).2.2 = at_ at *
  generalize pickS code (drS code 4 s) (drM code 4 s).2.2 = s1 at *
  generalize drO code (pickS code 4 s) = O at *
  generalize drS code 4 s = S at *
  generalize (drM code 4 s).2.2 = s0 at *
  generalize (drM code 4 s).1 = nx at *
  generalize (drM code 4 s).2.1 = ou at *
  have hL := m.n1
  unfold srcB at hd hp hQ ⊢
  refine hc_intro tabIs _ Tryz.func52 rfl rfl Tryz.ntmps52 rfl rfl rfl ?_ fun w0 ok0 XM XA anc he0 hX0 => ?_
  · exact likeIn_cons rfl rfl likeIn_nil
  repeat (first | refine awp_seq ?_ | refine then_n ?_ | refine then_r ?_ | refine then_x ?_ | refine block_n ?_ | refine block_r ?_ | refine block_x ?_ | refine u_y ?_ | refine loop_r ?_ | refine loop_x ?_ | refine awp_region ?_ | refine awpL_nil ?_ | refine awpQL_nil ?_ | refine awp_block ?_ | refine awp_skip ?_ | refine awp_exit ?_ | refine awp_label ?_ | refine u_dT ?_ | refine u_d ?_ | refine u_l ?_ | refine u_o ?_ | refine u_q ?_ | refine u_lr ?_ | refine u_qr ?_ | refine u_ls ?_ | refine u_qs ?_ | refine u_t ?_ | refine u_f ?_ | refine v_s ?_ | refine v_o ?_ | refine v_on ?_ | refine v_og ?_ | refine v_q ?_ | refine v_sr ?_ | refine v_k ?_ | refine m_nil ?_)
  refine hcl [(10000, 10000)] [(10000, 10000), (30000, 200), (30001, 201)] hd ?_
  repeat (first | refine awp_seq ?_ | refine then_n ?_ | refine then_r ?_ | refine then_x ?_ | refine block_n ?_ | refine block_r ?_ | refine block_x ?_ | refine u_y ?_ | refine loop_r ?_ | refine loop_x ?_ | refine awp_region ?_ | refine awpL_nil ?_ | refine awpQL_nil ?_ | refine awp_block ?_ | refine awp_skip ?_ | refine awp_exit ?_ | refine awp_label ?_ | refine u_dT ?_ | refine u_d ?_ | refine u_l ?_ | refine u_o ?_ | refine u_q ?_ | refine u_lr ?_ | refine u_qr ?_ | refine u_ls ?_ | refine u_qs ?_ | refine u_t ?_ | refine u_f ?_ | refine v_s ?_ | refine v_o ?_ | refine v_on ?_ | refine v_og ?_ | refine v_q ?_ | refine v_sr ?_ | refine v_k ?_ | refine m_nil ?_)
  refine hcl [(10000, 10000)] [(10000, 10000)] hp ?_
  repeat (first | refine awp_seq ?_ | refine then_n ?_ | refine then_r ?_ | refine then_x ?_ | refine block_n ?_ | refine block_r ?_ | refine block_x ?_ | refine u_y ?_ | refine loop_r ?_ | refine loop_x ?_ | refine awp_region ?_ | refine awpL_nil ?_ | refine awpQL_nil ?_ | refine awp_block ?_ | refine awp_skip ?_ | refine awp_exit ?_ | refine awp_label ?_ | refine u_dT ?_ | refine u_d ?_ | refine u_l ?_ | refine u_o ?_ | refine u_q ?_ | refine u_lr ?_ | refine u_qr ?_ | refine u_ls ?_ | refine u_qs ?_ | refine u_t ?_ | refine u_f ?_ | refine v_s ?_ | refine v_o ?_ | refine v_on ?_ | refine v_og ?_ | refine v_q ?_ | refine v_sr ?_ | refine v_k ?_ | refine m_nil ?_)
  refine awp_perm _ rfl ?_
  refine awp_loop (fun k : Nat => k ≤ nx.length) (fun k => [(0, .ref 10000 0), (2, .ref 2 0), (3, .ref 3 0), (4, .d (.int .i64 at_)), (5, .d (.int .i64 k))])
    (fun k => [(2, .box [.d (.int .i64 0), .d (.int .i64 0), .d .nils, .d .nils]), (3, .box [.d (.int .i64 S), .d (.int .i64 O), .own 200, .own 201]), (200, .rows 27 2 1 (rws (twR code at_ S nx ou s1 k).1) none), (201, .rows 27 2 1 (rws (twR code at_ S nx ou s1 k).2.1) none), (10000, srcB code (twR code at_ S nx ou s1 k).2.2)])
    (fun k => nx.length - k) 0 (by omega) ?_ (by as_aux_lemma => kernel_rfl) ?_
  · ((repeat (first | exact trivial | (refine ⟨?_, ?_⟩; (focus (first | rfl | (simp [lk, argsS, args0]; done) | (simp [lk, argsS, args0]; omega)))))))
  · intro k hk
    have ih := hI k hk
    have l1 := ih.l1
    have l2 := ih.l2
    have hrl1 := rws_length (twR code at_ S nx ou s1 k).1
    have hrl2 := rws_length (twR code at_ S nx ou s1 k).2.1
    by_cases hlt : k < nx.length
    · have g1 : Rg S S (nx.getD k []) := rg_tbl.1 m.nx k (by omega)
      have g2 : Rg S O (ou.getD k []) := rg_tbl.1 m.ou k (by have := m.eq; omega)
      obtain ⟨e1, e2⟩ := ih.r k (Nat.le_refl _)
      have hok := ih.ok
      rw [← e1] at g1
      rw [← e2] at g2
      have hst : twR code at_ S nx ou s1 (k + 1) = ((twR code at_ S nx ou s1 k).1.set k (twS code at_ S ((twR code at_ S nx ou s1 k).1.getD k [] ++ [((twR code at_ S nx ou s1 k).1.getD k []).getD at_.toNat 0]) (twR code at_ S nx ou s1 k).2.2 (S.toNat + 1)).1,
        (twR code at_ S nx ou s1 k).2.1.set k ((twR code at_ S nx ou s1 k).2.1.getD k [] ++ [((twR code at_ S nx ou s1 k).2.1.getD k []).getD at_.toNat 0]),
        (twS code at_ S ((twR code at_ S nx ou s1 k).1.getD k [] ++ [((twR code at_ S nx ou s1 k).1.getD k []).getD at_.toNat 0]) (twR code at_ S nx ou s1 k).2.2 (S.toNat + 1)).2) := rfl
      generalize twR code at_ S nx ou s1 k = p at *
      have hn0 : (rws p.1)[(k : Int).toNat]? = some ((p.1.getD k []).map (.int .i64)) := by
        rw [Int.toNat_natCast, List.getD_eq_getElem?_getD, List.getElem?_eq_getElem (by omega)]
        simp [rws, l1, hlt]
      have hu0 : (rws p.2.1)[(k : Int).toNat]? = some ((p.2.1.getD k []).map (.int .i64)) := by
        rw [Int.toNat_natCast, List.getD_eq_getElem?_getD, List.getElem?_eq_getElem (by omega)]
        simp [rws, l2, hlt]
      have hsn : ∀ v : List Int, (rws p.1).set (k : Int).toNat (v.map (.int .i64)) = rws (p.1.set k v) := fun v => by rw [Int.toNat_natCast]; unfold rws; rw [List.map_set]
      have hsu : ∀ v : List Int, (rws p.2.1).set (k : Int).toNat (v.map (.int .i64)) = rws (p.2.1.set k v) := fun v => by rw [Int.toNat_natCast]; unfold rws; rw [List.map_set]
      have hki1 : (k : Int).toNat < (rws p.1).length := by rw [hrl1, l1]; omega
      have hki2 : (k : Int).toNat < (rws p.2.1).length := by rw [hrl2, l2]; omega
      generalize p.1.getD k [] = r at *
      generalize p.2.1.getD k [] = ro at *
      have hr0 := g1.1
      have hro0 := g2.1
      have hvn : (r.map (D.int .i64))[at_.toNat]? = some (.int .i64 (r.getD at_.toNat 0)) := el_int2 (by omega)
      have hvu : (ro.map (D.int .i64))[at_.toNat]? = some (.int .i64 (ro.getD at_.toNat 0)) := el_int2 (by omega)
      have hrm : (r.map (D.int .i64)).length = S.toNat := by simp; omega
      have hrom : (ro.map (D.int .i64)).length = S.toNat := by simp; omega
      refine awp_carve0 200 (k : Int).toNat 300 rfl hn0 rfl rfl rfl ?_
      refine awp_carve0 201 (k : Int).toNat 301 rfl hu0 rfl rfl rfl ?_
      repeat (first | refine awp_seq ?_ | refine then_n ?_ | refine then_r ?_ | refine then_x ?_ | refine block_n ?_ | refine block_r ?_ | refine block_x ?_ | refine u_y ?_ | refine loop_r ?_ | refine loop_x ?_ | refine awp_region ?_ | refine awpL_nil ?_ | refine awpQL_nil ?_ | refine awp_block ?_ | refine awp_skip ?_ | refine awp_exit ?_ | refine awp_label ?_ | refine u_l ?_ | refine u_o ?_ | refine u_q ?_ | refine u_lr ?_ | refine u_qr ?_ | refine u_ls ?_ | refine u_qs ?_ | refine u_t ?_ | refine u_f ?_ | refine v_s ?_ | refine v_o ?_ | refine v_on ?_ | refine v_og ?_ | refine v_q ?_ | refine v_sr ?_ | refine v_k ?_ | refine m_nil ?_)
      refine u_m [(17, [300]), (19, [200, 300])] (.tk [300] [0, 1, 2] (.tk [] [3, 4, 5, 6, 7, 8, 9, 10, 11, 12, 13, 14, 15, 16, 17, 18, 19] .done)) ?_
      repeat (first | refine awp_seq ?_ | refine then_n ?_ | refine then_r ?_ | refine then_x ?_ | refine block_n ?_ | refine block_r ?_ | refine block_x ?_ | refine u_y ?_ | refine loop_r ?_ | refine loop_x ?_ | refine awp_region ?_ | refine awpL_nil ?_ | refine awpQL_nil ?_ | refine awp_block ?_ | refine awp_skip ?_ | refine awp_exit ?_ | refine awp_label ?_ | refine u_dT ?_ | refine u_d ?_ | ((first | apply x_l | apply x_q | apply x_lr | apply x_qr); (focus (first | (apply wa_loadHole; (iterate 5 (focus (first | exact rfl | (first | assumption | omega | (simp; omega) | (simp; done) | rfl))))))); exact rfl) | (apply v_x; (iterate 2 exact rfl); (focus (intro ok0 nw hle; (first | (apply wa_loadHole; (iterate 5 (focus (first | exact rfl | (first | assumption | omega | (simp; omega) | (simp; done) | rfl)))))))); (iterate 2 exact rfl)) | refine u_l ?_ | refine u_o ?_ | refine u_q ?_ | refine u_lr ?_ | refine u_qr ?_ | refine u_ls ?_ | refine u_qs ?_ | refine u_t ?_ | refine u_f ?_ | refine v_s ?_ | refine v_o ?_ | refine v_on ?_ | refine v_og ?_ | refine v_q ?_ | refine v_sr ?_ | refine v_k ?_ | refine m_nil ?_)
      refine v_og (ho := by intro rest; apply wo_storeHole; (iterate 11 exact rfl); exact hki1) ?_
      repeat (first | refine awp_seq ?_ | refine then_n ?_ | refine then_r ?_ | refine then_x ?_ | refine block_n ?_ | refine block_r ?_ | refine block_x ?_ | refine u_y ?_ | refine loop_r ?_ | refine loop_x ?_ | refine awp_region ?_ | refine awpL_nil ?_ | refine awpQL_nil ?_ | refine awp_block ?_ | refine awp_skip ?_ | refine awp_exit ?_ | refine awp_label ?_ | refine u_l ?_ | refine u_o ?_ | refine u_q ?_ | refine u_lr ?_ | refine u_qr ?_ | refine u_ls ?_ | refine u_qs ?_ | refine u_t ?_ | refine u_f ?_ | refine v_s ?_ | refine v_o ?_ | refine v_on ?_ | refine v_og ?_ | refine v_q ?_ | refine v_sr ?_ | refine v_k ?_ | refine m_nil ?_)
      refine u_m [(17, [301]), (19, [201, 301])] (.tk [301] [0, 1, 2] (.tk [] [3, 4, 5, 6, 7, 8, 9, 10, 11, 12, 13, 14, 15, 16, 17, 18, 19] .done)) ?_
      repeat (first | refine awp_seq ?_ | refine then_n ?_ | refine then_r ?_ | refine then_x ?_ | refine block_n ?_ | refine block_r ?_ | refine block_x ?_ | refine u_y ?_ | refine loop_r ?_ | refine loop_x ?_ | refine awp_region ?_ | refine awpL_nil ?_ | refine awpQL_nil ?_ | refine awp_block ?_ | refine awp_skip ?_ | refine awp_exit ?_ | refine awp_label ?_ | refine u_dT ?_ | refine u_d ?_ | ((first | apply x_l | apply x_q | apply x_lr | apply x_qr); (focus (first | (apply wa_loadHole; (iterate 5 (focus (first | exact rfl | (first | assumption | omega | (simp; omega) | (simp; done) | rfl))))))); exact rfl) | (apply v_x; (iterate 2 exact rfl); (focus (intro ok0 nw hle; (first | (apply wa_loadHole; (iterate 5 (focus (first | exact rfl | (first | assumption | omega | (simp; omega) | (simp; done) | rfl)))))))); (iterate 2 exact rfl)) | refine u_l ?_ | refine u_o ?_ | refine u_q ?_ | refine u_lr ?_ | refine u_qr ?_ | refine u_ls ?_ | refine u_qs ?_ | refine u_t ?_ | refine u_f ?_ | refine v_s ?_ | refine v_o ?_ | refine v_on ?_ | refine v_og ?_ | refine v_q ?_ | refine v_sr ?_ | refine v_k ?_ | refine m_nil ?_)
      refine v_og (ho := by intro rest; apply wo_storeHole; (iterate 11 exact rfl); exact hki2) ?_
      repeat (first | refine awp_seq ?_ | refine then_n ?_ | refine then_r ?_ | refine then_x ?_ | refine block_n ?_ | refine block_r ?_ | refine block_x ?_ | refine u_y ?_ | refine loop_r ?_ | refine loop_x ?_ | refine awpL_nil ?_ | refine awpQL_nil ?_ | refine awp_block ?_ | refine awp_skip ?_ | refine awp_exit ?_ | refine awp_label ?_ | refine u_dT ?_ | refine u_d ?_ | refine u_l ?_ | refine u_o ?_ | refine u_q ?_ | refine u_lr ?_ | refine u_qr ?_ | refine u_ls ?_ | refine u_qs ?_ | refine u_t ?_ | refine u_f ?_ | refine v_s ?_ | refine v_o ?_ | refine v_on ?_ | refine v_og ?_ | refine v_q ?_ | refine v_sr ?_ | refine v_k ?_ | refine m_nil ?_)
      have hA : List.map (D.int .i64) r ++ [D.int .i64 (r.getD at_.toNat 0)] = (r ++ [r.getD at_.toNat 0]).map (.int .i64) := by simp
      have hAo : List.map (D.int .i64) ro ++ [D.int .i64 (ro.getD at_.toNat 0)] = (ro ++ [ro.getD at_.toNat 0]).map (.int .i64) := by simp
      rw [hA, hAo]
      have g3 := rg_dbl g1 ha
      generalize r ++ [r.getD at_.toNat 0] = r1 at *
      generalize ro ++ [ro.getD at_.toNat 0] = ro1 at *
      have hn3 : ((rws p.1).set (k : Int).toNat (r1.map (.int .i64)))[(k : Int).toNat]? = some (r1.map (.int .i64)) := List.getElem?_set_self hki1
      have hl3 : ((rws p.1).set (k : Int).toNat (r1.map (.int .i64))).length = nx.length := by rw [List.length_set, hrl1, l1]
      have hl1 := g3.1
      refine awp_carve0 200 (k : Int).toNat 300 rfl hn3 rfl rfl rfl ?_
      refine awp_perm _ rfl ?_
      repeat (first | refine awp_seq ?_ | refine then_n ?_ | refine then_r ?_ | refine then_x ?_ | refine block_n ?_ | refine block_r ?_ | refine block_x ?_ | refine u_y ?_ | refine loop_r ?_ | refine loop_x ?_ | refine awp_region ?_ | refine awpL_nil ?_ | refine awpQL_nil ?_ | refine awp_block ?_ | refine awp_skip ?_ | refine awp_exit ?_ | refine awp_label ?_ | refine u_dT ?_ | refine u_d ?_ | refine u_l ?_ | refine u_o ?_ | refine u_q ?_ | refine u_lr ?_ | refine u_qr ?_ | refine u_ls ?_ | refine u_qs ?_ | refine u_t ?_ | refine u_f ?_ | refine v_s ?_ | refine v_o ?_ | refine v_on ?_ | refine v_og ?_ | refine v_q ?_ | refine v_sr ?_ | refine v_k ?_ | refine m_nil ?_)
      refine awp_loop (fun x : Nat => x ≤ S.toNat + 1) (fun x => [(0, .ref 10000 0), (2, .ref 2 0), (3, .ref 3 0), (4, .d (.int .i64 at_)), (5, .d (.int .i64 k)), (6, .d (.int .i64 x))])
        (fun x => [(2, .box [.d (.int .i64 0), .d (.int .i64 0), .d .nils, .d .nils]), (3, .box [.d (.int .i64 S), .d (.int .i64 O), .own 200, .own 201]), (200, .rows 27 2 1 ((rws p.1).set (k : Int).toNat (r1.map (.int .i64))) (some ((k : Int).toNat, .own 300))), (201, .rows 27 2 1 ((rws p.2.1).set (k : Int).toNat (ro1.map (.int .i64))) none), (300, .arr 2 1 ((twS code at_ S r1 p.2.2 x).1.map (.int .i64))), (10000, srcB code (twS code at_ S r1 p.2.2 x).2)])
        (fun x => S.toNat + 1 - x) 0 (by omega) ?_ (by as_aux_lemma => kernel_rfl) ?_
      · ((repeat (first | exact trivial | (refine ⟨?_, ?_⟩; (focus (first | rfl | (simp [lk, argsS, args0]; done) | (simp [lk, argsS, args0]; omega)))))))
      · intro x hx
        have hw := twS_len (code := code) (at_ := at_) (S := S) (r := r1) (s := p.2.2) x
        have hwm : ((twS code at_ S r1 p.2.2 x).1.map (D.int .i64)).length = S.toNat + 1 := by rw [List.length_map, hw]; omega
        have hwk := twS_ok (code := code) (at_ := at_) (S := S) (r := r1) hok x
        by_cases hxl : x < S.toNat + 1
        · have hsx : twS code at_ S r1 p.2.2 (x + 1) = if (twS code at_ S r1 p.2.2 x).1.getD x 0 = at_ then (if pickV code 2 (twS code at_ S r1 p.2.2 x).2 = 0 then (twS code at_ S r1 p.2.2 x).1.set x S else (twS code at_ S r1 p.2.2 x).1, pickS code 2 (twS code at_ S r1 p.2.2 x).2) else twS code at_ S r1 p.2.2 x := rfl
          generalize twS code at_ S r1 p.2.2 x = t at *
          have hv : (t.1.map (D.int .i64))[(x : Int).toNat]? = some (.int .i64 (t.1.getD x 0)) := el_int2 (ns := t.1) (q := (x : Int)) (by rw [List.length_map] at hwm; omega)
          have hsv : (t.1.map (D.int .i64)).set (x : Int).toNat (.int .i64 S) = (t.1.set x S).map (.int .i64) := by rw [Int.toNat_natCast, List.map_set]
          by_cases hva : t.1.getD x 0 = at_
          · rw [if_pos hva] at hsx
            rw [hva] at hv
            have q := hQ _ _ hwk (by omega)
            by_cases hb2 : pickV code 2 t.2 = 0
            · rw [if_pos hb2] at hsx
              rw [decide_eq_true hb2] at q
              repeat (first | refine awp_seq ?_ | refine then_n ?_ | refine then_r ?_ | refine then_x ?_ | refine block_n ?_ | refine block_r ?_ | refine block_x ?_ | refine u_y ?_ | refine loop_r ?_ | refine loop_x ?_ | refine awp_region ?_ | refine awpL_nil ?_ | refine awpQL_nil ?_ | refine awp_block ?_ | refine awp_skip ?_ | refine awp_exit ?_ | refine awp_label ?_ | refine u_dT ?_ | refine u_d ?_ | ((first | apply x_l | apply x_q | apply x_lr | apply x_qr); (focus (first | (apply wa_loadHole; (iterate 5 (focus (first | exact rfl | (first | assumption | omega | (simp; omega) | (simp; done) | rfl))))))); exact rfl) | (apply v_x; (iterate 2 exact rfl); (focus (intro ok0 nw hle; (first | (apply wa_loadHole; (iterate 5 (focus (first | exact rfl | (first | assumption | omega | (simp; omega) | (simp; done) | rfl)))))))); (iterate 2 exact rfl)) | refine u_l ?_ | refine u_o ?_ | refine u_q ?_ | refine u_lr ?_ | refine u_qr ?_ | refine u_ls ?_ | refine u_qs ?_ | refine u_t ?_ | refine u_f ?_ | refine v_s ?_ | refine v_o ?_ | refine v_on ?_ | refine v_og ?_ | refine v_q ?_ | refine v_sr ?_ | refine v_k ?_ | refine m_nil ?_)
              rw [decide_eq_true (rfl : at_ = at_)]
              repeat (first | refine awp_seq ?_ | refine then_n ?_ | refine then_r ?_ | refine then_x ?_ | refine block_n ?_ | refine block_r ?_ | refine block_x ?_ | refine u_y ?_ | refine loop_r ?_ | refine loop_x ?_ | refine awp_region ?_ | refine awpL_nil ?_ | refine awpQL_nil ?_ | refine awp_block ?_ | refine awp_skip ?_ | refine awp_exit ?_ | refine awp_label ?_ | refine u_dT ?_ | refine u_d ?_ | refine u_l ?_ | refine u_o ?_ | refine u_q ?_ | refine u_lr ?_ | refine u_qr ?_ | refine u_ls ?_ | refine u_qs ?_ | refine u_t ?_ | refine u_f ?_ | refine v_s ?_ | refine v_o ?_ | refine v_on ?_ | refine v_og ?_ | refine v_q ?_ | refine v_sr ?_ | refine v_k ?_ | refine m_nil ?_)
              refine awpL_ung ?_
              refine hcl [(10000, 10000)] [(10000, 10000)] q ?_
              repeat (first | refine awp_seq ?_ | refine then_n ?_ | refine then_r ?_ | refine then_x ?_ | refine block_n ?_ | refine block_r ?_ | refine block_x ?_ | refine u_y ?_ | refine loop_r ?_ | refine loop_x ?_ | refine awpL_nil ?_ | refine awpQL_nil ?_ | refine awp_block ?_ | refine awp_skip ?_ | refine awp_exit ?_ | refine awp_label ?_ | refine u_dT ?_ | refine u_d ?_ | ((first | apply x_l | apply x_q | apply x_lr | apply x_qr); (focus (first | (apply wa_loadHole; (iterate 5 (focus (first | exact rfl | (first | assumption | omega | (simp; omega) | (simp; done) | rfl))))))); exact rfl) | (apply v_x; (iterate 2 exact rfl); (focus (intro ok0 nw hle; (first | (apply wa_loadHole; (iterate 5 (focus (first | exact rfl | (first | assumption | omega | (simp; omega) | (simp; done) | rfl)))))))); (iterate 2 exact rfl)) | refine u_l ?_ | refine u_o ?_ | refine u_q ?_ | refine u_lr ?_ | refine u_qr ?_ | refine u_ls ?_ | refine u_qs ?_ | refine u_t ?_ | refine u_f ?_ | refine v_s ?_ | refine v_o ?_ | refine v_on ?_ | refine v_og ?_ | refine v_q ?_ | refine v_sr ?_ | refine v_k ?_ | refine m_nil ?_)
              refine awp_perm _ rfl ?_
              repeat (first | refine awp_seq ?_ | refine then_n ?_ | refine then_r ?_ | refine then_x ?_ | refine block_n ?_ | refine block_r ?_ | refine block_x ?_ | refine u_y ?_ | refine loop_r ?_ | refine loop_x ?_ | refine awp_region ?_ | refine awpL_nil ?_ | refine awpQL_nil ?_ | refine awp_block ?_ | refine awp_skip ?_ | refine awp_exit ?_ | refine awp_label ?_ | refine u_dT ?_ | refine u_d ?_ | refine u_l ?_ | refine u_o ?_ | refine u_q ?_ | refine u_lr ?_ | refine u_qr ?_ | refine u_ls ?_ | refine u_qs ?_ | refine u_t ?_ | refine u_f ?_ | refine v_s ?_ | refine v_o ?_ | refine v_on ?_ | refine v_og ?_ | refine v_q ?_ | refine v_sr ?_ | refine v_k ?_ | refine m_nil ?_)
              refine loop_n (x + 1) (by omega) ?_ ?_ (by omega)
              · ((repeat (first | exact trivial | (refine ⟨?_, ?_⟩; (focus (first | rfl | (simp [lk, argsS, args0]; done) | (simp [lk, argsS, args0]; omega)))))))
              · rw [hsx, ← hsv]; (as_aux_lemma => kernel_rfl)
            · rw [if_neg hb2] at hsx
              rw [decide_eq_false hb2] at q
              repeat (first | refine awp_seq ?_ | refine then_n ?_ | refine then_r ?_ | refine then_x ?_ | refine block_n ?_ | refine block_r ?_ | refine block_x ?_ | refine u_y ?_ | refine loop_r ?_ | refine loop_x ?_ | refine awp_region ?_ | refine awpL_nil ?_ | refine awpQL_nil ?_ | refine awp_block ?_ | refine awp_skip ?_ | refine awp_exit ?_ | refine awp_label ?_ | refine u_dT ?_ | refine u_d ?_ | ((first | apply x_l | apply x_q | apply x_lr | apply x_qr); (focus (first | (apply wa_loadHole; (iterate 5 (focus (first | exact rfl | (first | assumption | omega | (simp; omega) | (simp; done) | rfl))))))); exact rfl) | (apply v_x; (iterate 2 exact rfl); (focus (intro ok0 nw hle; (first | (apply wa_loadHole; (iterate 5 (focus (first | exact rfl | (first | assumption | omega | (simp; omega) | (simp; done) | rfl)))))))); (iterate 2 exact rfl)) | refine u_l ?_ | refine u_o ?_ | refine u_q ?_ | refine u_lr ?_ | refine u_qr ?_ | refine u_ls ?_ | refine u_qs ?_ | refine u_t ?_ | refine u_f ?_ | refine v_s ?_ | refine v_o ?_ | refine v_on ?_ | refine v_og ?_ | refine v_q ?_ | refine v_sr ?_ | refine v_k ?_ | refine m_nil ?_)
              rw [decide_eq_true (rfl : at_ = at_)]
              repeat (first | refine awp_seq ?_ | refine then_n ?_ | refine then_r ?_ | refine then_x ?_ | refine block_n ?_ | refine block_r ?_ | refine block_x ?_ | refine u_y ?_ | refine loop_r ?_ | refine loop_x ?_ | refine awp_region ?_ | refine awpL_nil ?_ | refine awpQL_nil ?_ | refine awp_block ?_ | refine awp_skip ?_ | refine awp_exit ?_ | refine awp_label ?_ | refine u_dT ?_ | refine u_d ?_ | refine u_l ?_ | refine u_o ?_ | refine u_q ?_ | refine u_lr ?_ | refine u_qr ?_ | refine u_ls ?_ | refine u_qs ?_ | refine u_t ?_ | refine u_f ?_ | refine v_s ?_ | refine v_o ?_ | refine v_on ?_ | refine v_og ?_ | refine v_q ?_ | refine v_sr ?_ | refine v_k ?_ | refine m_nil ?_)
              refine awpL_ung ?_
              refine hcl [(10000, 10000)] [(10000, 10000)] q ?_
              repeat (first | refine awp_seq ?_ | refine then_n ?_ | refine then_r ?_ | refine then_x ?_ | refine block_n ?_ | refine block_r ?_ | refine block_x ?_ | refine u_y ?_ | refine loop_r ?_ | refine loop_x ?_ | refine awpL_nil ?_ | refine awpQL_nil ?_ | refine awp_block ?_ | refine awp_skip ?_ | refine awp_exit ?_ | refine awp_label ?_ | refine u_dT ?_ | refine u_d ?_ | ((first | apply x_l | apply x_q | apply x_lr | apply x_qr); (focus (first | (apply wa_loadHole; (iterate 5 (focus (first | exact rfl | (first | assumption | omega | (simp; omega) | (simp; done) | rfl))))))); exact rfl) | (apply v_x; (iterate 2 exact rfl); (focus (intro ok0 nw hle; (first | (apply wa_loadHole; (iterate 5 (focus (first | exact rfl | (first | assumption | omega | (simp; omega) | (simp; done) | rfl)))))))); (iterate 2 exact rfl)) | refine u_l ?_ | refine u_o ?_ | refine u_q ?_ | refine u_lr ?_ | refine u_qr ?_ | refine u_ls ?_ | refine u_qs ?_ | refine u_t ?_ | refine u_f ?_ | refine v_s ?_ | refine v_o ?_ | refine v_on ?_ | refine v_og ?_ | refine v_q ?_ | refine v_sr ?_ | refine v_k ?_ | refine m_nil ?_)
              refine awp_perm _ rfl ?_
              repeat (first | refine awp_seq ?_ | refine then_n ?_ | refine then_r ?_ | refine then_x ?_ | refine block_n ?_ | refine block_r ?_ | refine block_x ?_ | refine u_y ?_ | refine loop_r ?_ | refine loop_x ?_ | refine awp_region ?_ | refine awpL_nil ?_ | refine awpQL_nil ?_ | refine awp_block ?_ | refine awp_skip ?_ | refine awp_exit ?_ | refine awp_label ?_ | refine u_dT ?_ | refine u_d ?_ | refine u_l ?_ | refine u_o ?_ | refine u_q ?_ | refine u_lr ?_ | refine u_qr ?_ | refine u_ls ?_ | refine u_qs ?_ | refine u_t ?_ | refine u_f ?_ | refine v_s ?_ | refine v_o ?_ | refine v_on ?_ | refine v_og ?_ | refine v_q ?_ | refine v_sr ?_ | refine v_k ?_ | refine m_nil ?_)
              refine loop_n (x + 1) (by omega) ?_ ?_ (by omega)
              · ((repeat (first | exact trivial | (refine ⟨?_, ?_⟩; (focus (first | rfl | (simp [lk, argsS, args0]; done) | (simp [lk, argsS, args0]; omega)))))))
              · rw [hsx]; (as_aux_lemma => kernel_rfl)
          · rw [if_neg hva] at hsx
            repeat (first | refine awp_seq ?_ | refine then_n ?_ | refine then_r ?_ | refine then_x ?_ | refine block_n ?_ | refine block_r ?_ | refine block_x ?_ | refine u_y ?_ | refine loop_r ?_ | refine loop_x ?_ | refine awp_region ?_ | refine awpL_nil ?_ | refine awpQL_nil ?_ | refine awp_block ?_ | refine awp_skip ?_ | refine awp_exit ?_ | refine awp_label ?_ | refine u_dT ?_ | refine u_d ?_ | ((first | apply x_l | apply x_q | apply x_lr | apply x_qr); (focus (first | (apply wa_loadHole; (iterate 5 (focus (first | exact rfl | (first | assumption | omega | (simp; omega) | (simp; done) | rfl))))))); exact rfl) | (apply v_x; (iterate 2 exact rfl); (focus (intro ok0 nw hle; (first | (apply wa_loadHole; (iterate 5 (focus (first | exact rfl | (first | assumption | omega | (simp; omega) | (simp; done) | rfl)))))))); (iterate 2 exact rfl)) | refine u_l ?_ | refine u_o ?_ | refine u_q ?_ | refine u_lr ?_ | refine u_qr ?_ | refine u_ls ?_ | refine u_qs ?_ | refine u_t ?_ | refine u_f ?_ | refine v_s ?_ | refine v_o ?_ | refine v_on ?_ | refine v_og ?_ | refine v_q ?_ | refine v_sr ?_ | refine v_k ?_ | refine m_nil ?_)
            rw [decide_eq_false hva]
            repeat (first | refine awp_seq ?_ | refine then_n ?_ | refine then_r ?_ | refine then_x ?_ | refine block_n ?_ | refine block_r ?_ | refine block_x ?_ | refine u_y ?_ | refine loop_r ?_ | refine loop_x ?_ | refine awp_region ?_ | refine awpL_nil ?_ | refine awpQL_nil ?_ | refine awp_block ?_ | refine awp_skip ?_ | refine awp_exit ?_ | refine awp_label ?_ | refine u_dT ?_ | refine u_d ?_ | refine u_l ?_ | refine u_o ?_ | refine u_q ?_ | refine u_lr ?_ | refine u_qr ?_ | refine u_ls ?_ | refine u_qs ?_ | refine u_t ?_ | refine u_f ?_ | refine v_s ?_ | refine v_o ?_ | refine v_on ?_ | refine v_og ?_ | refine v_q ?_ | refine v_sr ?_ | refine v_k ?_ | refine m_nil ?_)
            refine loop_n (x + 1) (by omega) ?_ ?_ (by omega)
            · ((repeat (first | exact trivial | (refine ⟨?_, ?_⟩; (focus (first | rfl | (simp [lk, argsS, args0]; done) | (simp [lk, argsS, args0]; omega)))))))
            · rw [hsx]
        · have hxe : x = S.toNat + 1 := by omega
          subst hxe
          have hn4 : ((rws p.1).set (k : Int).toNat (r1.map (.int .i64)))[(k : Int).toNat]? = some (r1.map (.int .i64)) := hn3
          generalize twS code at_ S r1 p.2.2 (S.toNat + 1) = t at *
          have hrz : ((rws p.1).set (k : Int).toNat (r1.map (.int .i64))).set (k : Int).toNat (t.1.map (.int .i64)) = rws (p.1.set k t.1) := by rw [List.set_set, hsn]
          have hlen : (t.1.map (D.int .i64)).length = (r1.map (D.int .i64)).length := by rw [hwm, List.length_map]; omega
          repeat (first | refine awp_seq ?_ | refine then_n ?_ | refine then_r ?_ | refine then_x ?_ | refine block_n ?_ | refine block_r ?_ | refine block_x ?_ | refine u_y ?_ | refine loop_r ?_ | refine loop_x ?_ | refine awpL_nil ?_ | refine awpQL_nil ?_ | refine awp_block ?_ | refine awp_skip ?_ | refine awp_exit ?_ | refine awp_label ?_ | refine u_dT ?_ | refine u_d ?_ | refine u_l ?_ | refine u_o ?_ | refine u_q ?_ | refine u_lr ?_ | refine u_qr ?_ | refine u_ls ?_ | refine u_qs ?_ | refine u_t ?_ | refine u_f ?_ | refine v_s ?_ | refine v_o ?_ | refine v_on ?_ | refine v_og ?_ | refine v_q ?_ | refine v_sr ?_ | refine v_k ?_ | refine m_nil ?_)
          refine awp_region ?_
          repeat (first | refine awp_seq ?_ | refine then_n ?_ | refine then_r ?_ | refine then_x ?_ | refine block_n ?_ | refine block_r ?_ | refine block_x ?_ | refine u_y ?_ | refine loop_r ?_ | refine loop_x ?_ | refine awpL_nil ?_ | refine awpQL_nil ?_ | refine awp_block ?_ | refine awp_skip ?_ | refine awp_exit ?_ | refine awp_label ?_ | refine u_dT ?_ | refine u_d ?_ | ((first | apply x_l | apply x_q | apply x_lr | apply x_qr); (focus (first | (apply wa_loadHole; (iterate 5 (focus (first | exact rfl | (first | assumption | omega | (simp; omega) | (simp; done) | rfl))))))); exact rfl) | (apply v_x; (iterate 2 exact rfl); (focus (intro ok0 nw hle; (first | (apply wa_loadHole; (iterate 5 (focus (first | exact rfl | (first | assumption | omega | (simp; omega) | (simp; done) | rfl)))))))); (iterate 2 exact rfl)) | refine u_l ?_ | refine u_o ?_ | refine u_q ?_ | refine u_lr ?_ | refine u_qr ?_ | refine u_ls ?_ | refine u_qs ?_ | refine u_t ?_ | refine u_f ?_ | refine v_s ?_ | refine v_o ?_ | refine v_on ?_ | refine v_og ?_ | refine v_q ?_ | refine v_sr ?_ | refine v_k ?_ | refine m_nil ?_)
          refine awp_back 200 300 (by exact rfl) (by exact rfl) (by exact rfl) (by exact rfl) (by exact rfl) (by exact rfl) hn4 hlen ?_
          refine awp_perm _ rfl ?_
          repeat (first | refine awp_seq ?_ | refine then_n ?_ | refine then_r ?_ | refine then_x ?_ | refine block_n ?_ | refine block_r ?_ | refine block_x ?_ | refine u_y ?_ | refine loop_r ?_ | refine loop_x ?_ | refine awp_region ?_ | refine awpL_nil ?_ | refine awpQL_nil ?_ | refine awp_block ?_ | refine awp_skip ?_ | refine awp_exit ?_ | refine awp_label ?_ | refine u_dT ?_ | refine u_d ?_ | refine u_l ?_ | refine u_o ?_ | refine u_q ?_ | refine u_lr ?_ | refine u_qr ?_ | refine u_ls ?_ | refine u_qs ?_ | refine u_t ?_ | refine u_f ?_ | refine v_s ?_ | refine v_o ?_ | refine v_on ?_ | refine v_og ?_ | refine v_q ?_ | refine v_sr ?_ | refine v_k ?_ | refine m_nil ?_)
          refine loop_n (k + 1) (by omega) ?_ ?_ (by omega)
          · ((repeat (first | exact trivial | (refine ⟨?_, ?_⟩; (focus (first | rfl | (simp [lk, argsS, args0]; done) | (simp [lk, argsS, args0]; omega)))))))
          · rw [hst]; simp only []; rw [← hrz, ← hsu]; (as_aux_lemma => kernel_rfl)
    · have hke : k = nx.length := by omega
      subst hke
      repeat (first | refine awp_seq ?_ | refine then_n ?_ | refine then_r ?_ | refine then_x ?_ | refine block_n ?_ | refine block_r ?_ | refine block_x ?_ | refine u_y ?_ | refine loop_r ?_ | refine loop_x ?_ | refine awp_region ?_ | refine awpL_nil ?_ | refine awpQL_nil ?_ | refine awp_block ?_ | refine awp_skip ?_ | refine awp_exit ?_ | refine awp_label ?_ | refine u_dT ?_ | refine u_d ?_ | refine u_l ?_ | refine u_o ?_ | refine u_q ?_ | refine u_lr ?_ | refine u_qr ?_ | refine u_ls ?_ | refine u_qs ?_ | refine u_t ?_ | refine u_f ?_ | refine v_s ?_ | refine v_o ?_ | refine v_on ?_ | refine v_og ?_ | refine v_q ?_ | refine v_sr ?_ | refine v_k ?_ | refine m_nil ?_)
      (refine awp_ret ?_; (repeat (first | refine then_r ?_ | refine block_r ?_ | refine loop_r ?_)); refine u_rH [(10000, 10000), (200, 30000), (201, 30001)] ?_ ?_)
      · rfl
      · rfl

/-! ### The reference's machine -/
structure Mach where
  s : Int
  o : Int
  nx : List (List Int)
  ou : List (List Int)
def pmM (code : List Int) : Mach :=
  if pickV code 4 ⟨0, 0⟩ = 0 then ⟨drS code 4 (pickS code 4 ⟨0, 0⟩) + 1, drO code (pickS code 4 (pickS code 4 ⟨0, 0⟩)), (tw code (pickS code 4 ⟨0, 0⟩)).1, (tw code (pickS code 4 ⟨0, 0⟩)).2.1⟩
  else ⟨drS code 5 (pickS code 4 ⟨0, 0⟩), drO code (pickS code 5 (pickS code 4 ⟨0, 0⟩)), (drM code 5 (pickS code 4 ⟨0, 0⟩)).1, (drM code 5 (pickS code 4 ⟨0, 0⟩)).2.1⟩
theorem src0_ok {code : List Int} : SOk (pickS code 4 ⟨0, 0⟩) 2 := pick_ok (k := 0) ⟨Nat.le_refl _, by simp⟩
theorem mv_pmM {code : List Int} (hb : BytesOk code) : MV (pmM code).s (pmM code).o (pmM code).nx (pmM code).ou := by
  unfold pmM
  split
  · exact mv_tw hb src0_ok
  · exact mv_draw hb (by omega)

theorem spec_P6MachineH {code : List Int} (hb : BytesOk code) : HC Tryz.prog 17 [.d (u8s code)] [] (.agg [.d (.int .i64 (pmM code).s), .d (.int .i64 (pmM code).o), .own 30000, .own 30001])
    [(30000, .rows 27 2 1 (rws (pmM code).nx) none), (30001, .rows 27 2 1 (rws (pmM code).ou) none)] := by
  have c0 := spec_From (code := code)
  have c1 := spec_one (n := 4) hb (s := ⟨0, 0⟩) (k := 0) ⟨Nat.le_refl _, by simp⟩ (by omega) (by omega)
  have c2 := spec_l06Twin hb (src0_ok (code := code)) (by omega)
  have c3 := spec_l06Draw (most := 5) hb (by omega) (src0_ok (code := code)) (by omega)
  unfold pmM
  by_cases h : pickV code 4 ⟨0, 0⟩ = 0
  · rw [if_pos h]
    rw [decide_eq_true h] at c1
    unfold srcB u8s at *
    refine hc_intro tabIs _ Tryz.func17 rfl rfl Tryz.ntmps17 rfl rfl rfl ?_ fun w0 ok0 XM XA anc he0 hX0 => ?_
    · exact likeIn_nil
    repeat (first | refine awp_seq ?_ | refine then_n ?_ | refine then_r ?_ | refine then_x ?_ | refine block_n ?_ | refine block_r ?_ | refine block_x ?_ | refine u_y ?_ | refine loop_r ?_ | refine loop_x ?_ | refine awp_region ?_ | refine awpL_nil ?_ | refine awpQL_nil ?_ | refine awp_block ?_ | refine awp_skip ?_ | refine awp_exit ?_ | refine awp_label ?_ | refine u_dT ?_ | refine u_d ?_ | refine u_l ?_ | refine u_o ?_ | refine u_q ?_ | refine u_lr ?_ | refine u_qr ?_ | refine u_ls ?_ | refine u_qs ?_ | refine u_t ?_ | refine u_f ?_ | refine v_s ?_ | refine v_o ?_ | refine v_on ?_ | refine v_og ?_ | refine v_q ?_ | refine v_sr ?_ | refine v_k ?_ | refine m_nil ?_)
    refine hcl [] [(30000, 500)] c0 ?_
    repeat (first | refine awp_seq ?_ | refine then_n ?_ | refine then_r ?_ | refine then_x ?_ | refine block_n ?_ | refine block_r ?_ | refine block_x ?_ | refine u_y ?_ | refine loop_r ?_ | refine loop_x ?_ | refine awp_region ?_ | refine awpL_nil ?_ | refine awpQL_nil ?_ | refine awp_block ?_ | refine awp_skip ?_ | refine awp_exit ?_ | refine awp_label ?_ | refine u_dT ?_ | refine u_d ?_ | refine u_l ?_ | refine u_o ?_ | refine u_q ?_ | refine u_lr ?_ | refine u_qr ?_ | refine u_ls ?_ | refine u_qs ?_ | refine u_t ?_ | refine u_f ?_ | refine v_s ?_ | refine v_o ?_ | refine v_on ?_ | refine v_og ?_ | refine v_q ?_ | refine v_sr ?_ | refine v_k ?_ | refine m_nil ?_)
    refine hcl [(500, 10000)] [(10000, 500)] c1 ?_
    repeat (first | refine awp_seq ?_ | refine then_n ?_ | refine then_r ?_ | refine then_x ?_ | refine block_n ?_ | refine block_r ?_ | refine block_x ?_ | refine u_y ?_ | refine loop_r ?_ | refine loop_x ?_ | refine awp_region ?_ | refine awpL_nil ?_ | refine awpQL_nil ?_ | refine awp_block ?_ | refine awp_skip ?_ | refine awp_exit ?_ | refine awp_label ?_ | refine u_dT ?_ | refine u_d ?_ | refine u_l ?_ | refine u_o ?_ | refine u_q ?_ | refine u_lr ?_ | refine u_qr ?_ | refine u_ls ?_ | refine u_qs ?_ | refine u_t ?_ | refine u_f ?_ | refine v_s ?_ | refine v_o ?_ | refine v_on ?_ | refine v_og ?_ | refine v_q ?_ | refine v_sr ?_ | refine v_k ?_ | refine m_nil ?_)
    refine hcl [(500, 10000)] [(10000, 500), (30000, 600), (30001, 601)] c2 ?_
    repeat (first | refine awp_seq ?_ | refine then_n ?_ | refine then_r ?_ | refine then_x ?_ | refine block_n ?_ | refine block_r ?_ | refine block_x ?_ | refine u_y ?_ | refine loop_r ?_ | refine loop_x ?_ | refine awp_region ?_ | refine awpL_nil ?_ | refine awpQL_nil ?_ | refine awp_block ?_ | refine awp_skip ?_ | refine awp_exit ?_ | refine awp_label ?_ | refine u_dT ?_ | refine u_d ?_ | refine u_l ?_ | refine u_o ?_ | refine u_q ?_ | refine u_lr ?_ | refine u_qr ?_ | refine u_ls ?_ | refine u_qs ?_ | refine u_t ?_ | refine u_f ?_ | refine v_s ?_ | refine v_o ?_ | refine v_on ?_ | refine v_og ?_ | refine v_q ?_ | refine v_sr ?_ | refine v_k ?_ | refine m_nil ?_)
    (refine awp_ret ?_; (repeat (first | refine then_r ?_ | refine block_r ?_ | refine loop_r ?_)); refine u_rH [(600, 30000), (601, 30001)] ?_ ?_)
    · rfl
    · rfl
  · rw [if_neg h]
    rw [decide_eq_false h] at c1
    unfold srcB u8s at *
    refine hc_intro tabIs _ Tryz.func17 rfl rfl Tryz.ntmps17 rfl rfl rfl ?_ fun w0 ok0 XM XA anc he0 hX0 => ?_
    · exact likeIn_nil
    repeat (first | refine awp_seq ?_ | refine then_n ?_ | refine then_r ?_ | refine then_x ?_ | refine block_n ?_ | refine block_r ?_ | refine block_x ?_ | refine u_y ?_ | refine loop_r ?_ | refine loop_x ?_ | refine awp_region ?_ | refine awpL_nil ?_ | refine awpQL_nil ?_ | refine awp_block ?_ | refine awp_skip ?_ | refine awp_exit ?_ | refine awp_label ?_ | refine u_dT ?_ | refine u_d ?_ | refine u_l ?_ | refine u_o ?_ | refine u_q ?_ | refine u_lr ?_ | refine u_qr ?_ | refine u_ls ?_ | refine u_qs ?_ | refine u_t ?_ | refine u_f ?_ | refine v_s ?_ | refine v_o ?_ | refine v_on ?_ | refine v_og ?_ | refine v_q ?_ | refine v_sr ?_ | refine v_k ?_ | refine m_nil ?_)
    refine hcl [] [(30000, 500)] c0 ?_
    repeat (first | refine awp_seq ?_ | refine then_n ?_ | refine then_r ?_ | refine then_x ?_ | refine block_n ?_ | refine block_r ?_ | refine block_x ?_ | refine u_y ?_ | refine loop_r ?_ | refine loop_x ?_ | refine awp_region ?_ | refine awpL_nil ?_ | refine awpQL_nil ?_ | refine awp_block ?_ | refine awp_skip ?_ | refine awp_exit ?_ | refine awp_label ?_ | refine u_dT ?_ | refine u_d ?_ | refine u_l ?_ | refine u_o ?_ | refine u_q ?_ | refine u_lr ?_ | refine u_qr ?_ | refine u_ls ?_ | refine u_qs ?_ | refine u_t ?_ | refine u_f ?_ | refine v_s ?_ | refine v_o ?_ | refine v_on ?_ | refine v_og ?_ | refine v_q ?_ | refine v_sr ?_ | refine v_k ?_ | refine m_nil ?_)
    refine hcl [(500, 10000)] [(10000, 500)] c1 ?_
    repeat (first | refine awp_seq ?_ | refine then_n ?_ | refine then_r ?_ | refine then_x ?_ | refine block_n ?_ | refine block_r ?_ | refine block_x ?_ | refine u_y ?_ | refine loop_r ?_ | refine loop_x ?_ | refine awp_region ?_ | refine awpL_nil ?_ | refine awpQL_nil ?_ | refine awp_block ?_ | refine awp_skip ?_ | refine awp_exit ?_ | refine awp_label ?_ | refine u_dT ?_ | refine u_d ?_ | refine u_l ?_ | refine u_o ?_ | refine u_q ?_ | refine u_lr ?_ | refine u_qr ?_ | refine u_ls ?_ | refine u_qs ?_ | refine u_t ?_ | refine u_f ?_ | refine v_s ?_ | refine v_o ?_ | refine v_on ?_ | refine v_og ?_ | refine v_q ?_ | refine v_sr ?_ | refine v_k ?_ | refine m_nil ?_)
    refine hcl [(500, 10000)] [(10000, 500), (30000, 600), (30001, 601)] c3 ?_
    repeat (first | refine awp_seq ?_ | refine then_n ?_ | refine then_r ?_ | refine then_x ?_ | refine block_n ?_ | refine block_r ?_ | refine block_x ?_ | refine u_y ?_ | refine loop_r ?_ | refine loop_x ?_ | refine awp_region ?_ | refine awpL_nil ?_ | refine awpQL_nil ?_ | refine awp_block ?_ | refine awp_skip ?_ | refine awp_exit ?_ | refine awp_label ?_ | refine u_dT ?_ | refine u_d ?_ | refine u_l ?_ | refine u_o ?_ | refine u_q ?_ | refine u_lr ?_ | refine u_qr ?_ | refine u_ls ?_ | refine u_qs ?_ | refine u_t ?_ | refine u_f ?_ | refine v_s ?_ | refine v_o ?_ | refine v_on ?_ | refine v_og ?_ | refine v_q ?_ | refine v_sr ?_ | refine v_k ?_ | refine m_nil ?_)
    (refine awp_ret ?_; (repeat (first | refine then_r ?_ | refine block_r ?_ | refine loop_r ?_)); refine u_rH [(600, 30000), (601, 30001)] ?_ ?_)
    · rfl
    · rfl
theorem spec_P6Machine {code : List Int} (hb : BytesOk code) : AC Tryz.prog 17 [u8s code] (mach (pmM code).s (pmM code).o (pmM code).nx (pmM code).ou) := by
  have := ac_of_hc (xs := [u8s code]) (d := .agg [.int .i64 (pmM code).s, .int .i64 (pmM code).o, .lst ((rws (pmM code).nx).map D.lst), .lst ((rws (pmM code).ou).map D.lst)]) (spec_P6MachineH hb) rfl
  rw [rws_dat, rws_dat] at this
  exact this
end Go.Proofs.YtffmlijngfhhaaaGreatDoor
