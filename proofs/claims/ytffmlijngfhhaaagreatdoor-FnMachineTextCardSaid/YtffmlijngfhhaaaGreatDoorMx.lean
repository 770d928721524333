/- Texts of machines: what the program writes. Condition: the table of FormatInt reads as its initialiser lays it. -/
import Derived.Test.YtffmlijngfhhaaaGreatDoorNa
import Derived.Test.YtffmlijngfhhaaaGreatDoorKf
import Derived.Test.YtffmlijngfhhaaaGreatDoorEi
import Derived.Test.YtffmlijngfhhaaaGreatDoorNu
namespace Go.Proofs.YtffmlijngfhhaaaGreatDoor
open Go
attribute [local irreducible] awp awpL awpQL awpQ awpM pWalk Qt AC thenQ blockQ loopQ OpTo
set_option linter.unusedVariables false
set_option linter.unusedSimpArgs false
set_option maxHeartbeats 2000000
attribute [local irreducible] HC
open Go.Lib (itoa)

/-! ### Plain -/
/-- A word and others behind it, with blanks between them. -/
def spT (w : List UInt8) (ws : List (List UInt8)) : List UInt8 := w ++ ws.flatMap fun x => 32 :: x
def linT (w : List UInt8) (ns : List Int) : List UInt8 := spT w (ns.map itoa)
def prT (p : Int × Int) : List UInt8 := itoa p.1 ++ 47 :: itoa p.2
def mchT : List UInt8 := [109, 97, 99, 104, 105, 110, 101]
def letT : List UInt8 := [108, 101, 116, 116, 101, 114]
def rowT (a b : List Int) : List UInt8 := spT letT ((a.zip b).map prT)
def nlJ (A : List (List UInt8)) : List UInt8 := A.flatMap fun p => p ++ [10]
def mrw (nx ou : List (List Int)) : List (List UInt8) := (nx.zip ou).map fun p => rowT p.1 p.2
/-- The text of a machine. -/
def mtx (s o : Int) (nx ou : List (List Int)) : List UInt8 := nlJ (linT mchT [s, o, nx.length] :: mrw nx ou)

theorem spT_snoc (w : List UInt8) (ws : List (List UInt8)) (x : List UInt8) : spT w (ws ++ [x]) = spT w ws ++ 32 :: x := by
  unfold spT
  rw [List.flatMap_append]
  simp
theorem nlJ_snoc (A : List (List UInt8)) (x : List UInt8) : nlJ (A ++ [x]) = nlJ A ++ (x ++ [10]) := by
  unfold nlJ
  rw [List.flatMap_append]
  simp
theorem spT_len {w : List UInt8} {k : Nat} : ∀ {ws : List (List UInt8)}, (∀ x ∈ ws, x.length ≤ k) → (spT w ws).length ≤ w.length + (k + 1) * ws.length
  | [], _ => by simp [spT]
  | x :: ws, h => by
    have h1 := spT_len (w := w) (k := k) (ws := ws) fun y hy => h y (List.mem_cons_of_mem _ hy)
    have h2 := h x (List.mem_cons_self ..)
    unfold spT at h1 ⊢
    rw [List.length_append] at h1 ⊢
    rw [List.flatMap_cons, List.length_append, List.length_cons, List.length_cons, Nat.mul_add]
    omega
theorem nlJ_len {k : Nat} : ∀ {A : List (List UInt8)}, (∀ x ∈ A, x.length ≤ k) → (nlJ A).length ≤ (k + 1) * A.length
  | [], _ => by simp [nlJ]
  | x :: A, h => by
    have h1 := nlJ_len (k := k) (A := A) fun y hy => h y (List.mem_cons_of_mem _ hy)
    have h2 := h x (List.mem_cons_self ..)
    unfold nlJ at h1 ⊢
    rw [List.flatMap_cons, List.length_append, List.length_append, List.length_cons, List.length_cons, List.length_nil, Nat.mul_add]
    omega
theorem prT_len {p : Int × Int} (h1 : 0 ≤ p.1 ∧ p.1 ≤ 999) (h2 : 0 ≤ p.2 ∧ p.2 ≤ 999) : (prT p).length ≤ 7 := by
  have := itoa_len h1
  have := itoa_len h2
  unfold prT
  simp
  omega

theorem el_intM {l : List Int} {k : Nat} (h : k < l.length) : (l.map (D.int .i64))[((k : Nat) : Int).toNat]? = some (.int .i64 l[k]) := by simp [h]
theorem impl_line {w : List UInt8} {ns : List Int} (hw : w.length ≤ 1000) (hn : ns.length ≤ 100) (hq : ∀ q ∈ ns, 0 ≤ q ∧ q ≤ 999) : AC Tryz.prog 56 [.str w, ints ns] (.str (linT w ns ++ [10])) := by
  have hml : (ns.map (D.int .i64)).length = ns.length := by simp
  have hb : ∀ i, (linT w (ns.take i)).length ≤ w.length + 4 * ns.length := fun i => by
    have := spT_len (w := w) (k := 3) (ws := (ns.take i).map itoa) fun x hx => by
      obtain ⟨q, hq', rfl⟩ := List.mem_map.1 hx
      exact itoa_len (hq q (List.mem_of_mem_take hq'))
    rw [List.length_map, List.length_take] at this
    unfold linT
    omega
  refine ac_intro tabIs _ Tryz.func56 rfl rfl Tryz.ntmps56 rfl rfl fun w0 ok0 he0 => ?_
  repeat (first | refine awp_seq ?_ | refine then_n ?_ | refine then_r ?_ | refine then_x ?_ | refine block_n ?_ | refine block_r ?_ | refine block_x ?_ | refine u_y ?_ | refine loop_r ?_ | refine loop_x ?_ | refine awp_region ?_ | refine awpL_nil ?_ | refine awpQL_nil ?_ | refine awp_block ?_ | refine awp_skip ?_ | refine awp_exit ?_ | refine awp_label ?_ | refine u_dT ?_ | refine u_d ?_ | refine u_l ?_ | refine u_o ?_ | refine u_q ?_ | refine u_lr ?_ | refine u_qr ?_ | refine u_ls ?_ | refine u_qs ?_ | refine u_t ?_ | refine u_f ?_ | refine v_s ?_ | refine v_o ?_ | refine v_on ?_ | refine v_og ?_ | refine v_q ?_ | refine v_sr ?_ | refine v_k ?_ | refine m_nil ?_)
  refine awp_loop (fun i : Nat => i ≤ ns.length) (fun i => [(0, .d (.str (linT w (ns.take i)))), (7, .d (ints ns)), (8, .d (.int .i64 (ns.map (D.int .i64)).length)), (9, .d (.int .i64 i))]) (fun _ => []) (fun i => ns.length - i) 0 (by omega) ?_ rfl ?_
  · simp only [List.take_zero, linT, spT, List.map_nil, List.flatMap_nil, List.append_nil]
    ((repeat (first | exact trivial | (refine ⟨?_, ?_⟩; (focus (first | rfl | (simp [lk, argsS, args0]; done) | (simp [lk, argsS, args0]; omega)))))))
  · intro i hi
    by_cases hlt : i < ns.length
    · have hx := el_intM hlt
      have hqi := hq ns[i] (List.getElem_mem hlt)
      have e1 := impl_decimal (n := ns[i]) (by omega)
      have hil := itoa_len hqi
      have hsl := hb i
      have hsn : linT w (ns.take (i + 1)) = linT w (ns.take i) ++ 32 :: itoa ns[i] := by
        unfold linT
        rw [List.take_succ_eq_append_getElem hlt, List.map_append, List.map_singleton, spT_snoc]
      generalize linT w (ns.take i) = tt at *
      generalize itoa ns[i] = tx at *
      generalize ns[i] = x at *
      repeat (first | refine awp_seq ?_ | refine then_n ?_ | refine then_r ?_ | refine then_x ?_ | refine block_n ?_ | refine block_r ?_ | refine block_x ?_ | refine u_y ?_ | refine loop_r ?_ | refine loop_x ?_ | refine awp_region ?_ | refine awpL_nil ?_ | refine awpQL_nil ?_ | refine awp_block ?_ | refine awp_skip ?_ | refine awp_exit ?_ | refine awp_label ?_ | refine u_dT ?_ | refine u_d ?_ | ((first | apply c_l | apply c_q | apply c_lr | apply c_qr); (iterate 2 exact rfl); (focus (first | exact e1)); (iterate 2 exact rfl)) | (apply v_c; (iterate 4 exact rfl); (focus (first | exact e1)); (iterate 2 exact rfl)) | refine u_l ?_ | refine u_o ?_ | refine u_q ?_ | refine u_lr ?_ | refine u_qr ?_ | refine u_ls ?_ | refine u_qs ?_ | refine u_t ?_ | refine u_f ?_ | refine v_s ?_ | refine v_o ?_ | refine v_on ?_ | refine v_og ?_ | refine v_q ?_ | refine v_sr ?_ | refine v_k ?_ | refine m_nil ?_)
      refine loop_n (i + 1) (by omega) ?_ rfl (by omega)
      rw [hsn]
      ((repeat (first | exact trivial | (refine ⟨?_, ?_⟩; (focus (first | rfl | (simp [lk, argsS, args0]; done) | (simp [lk, argsS, args0]; omega)))))))
    · have : i = ns.length := by omega
      subst this
      have hsl := hb ns.length
      rw [List.take_length] at hsl ⊢
      generalize linT w ns = tt at *
      repeat (first | refine awp_seq ?_ | refine then_n ?_ | refine then_r ?_ | refine then_x ?_ | refine block_n ?_ | refine block_r ?_ | refine block_x ?_ | refine u_y ?_ | refine loop_r ?_ | refine loop_x ?_ | refine awp_region ?_ | refine awpL_nil ?_ | refine awpQL_nil ?_ | refine awp_block ?_ | refine awp_skip ?_ | refine awp_exit ?_ | refine awp_label ?_ | refine u_dT ?_ | refine u_d ?_ | refine u_l ?_ | refine u_o ?_ | refine u_q ?_ | refine u_lr ?_ | refine u_qr ?_ | refine u_ls ?_ | refine u_qs ?_ | refine u_t ?_ | refine u_f ?_ | refine v_s ?_ | refine v_o ?_ | refine v_on ?_ | refine v_og ?_ | refine v_q ?_ | refine v_sr ?_ | refine v_k ?_ | refine m_nil ?_)
      (refine awp_ret ?_; (repeat (first | refine then_r ?_ | refine block_r ?_ | refine loop_r ?_)); apply ret_ok (.inr rfl); (focus exact rfl))
      rfl

theorem zip_take {a b : List Int} {i : Nat} (ha : i < a.length) (hb : i < b.length) : ((a.zip b).map prT).take (i + 1) = ((a.zip b).map prT).take i ++ [prT (a[i], b[i])] := by
  have hl : i < ((a.zip b).map prT).length := by simp; omega
  rw [List.take_succ_eq_append_getElem hl]
  simp
theorem row_eq {xs : List (List Int)} {k : Nat} (h : k < xs.length) : row xs k = xs[k] := by simp [row, List.getD_eq_getElem?_getD, h]
theorem mrw_take {nx ou : List (List Int)} {k : Nat} (h1 : k < nx.length) (h2 : k < ou.length) : (mrw nx ou).take (k + 1) = (mrw nx ou).take k ++ [rowT (row nx k) (row ou k)] := by
  have hl : k < (mrw nx ou).length := by unfold mrw; simp; omega
  rw [List.take_succ_eq_append_getElem hl, row_eq h1, row_eq h2]
  simp [mrw]
theorem row_bnd {s o : Int} {nx ou : List (List Int)} (m : MV s o nx ou) {k i : Nat} (hk : k < nx.length) (hi : (i : Int) < s) :
    (0 ≤ (row nx k).getD ((i : Int)).toNat 0 ∧ (row nx k).getD ((i : Int)).toNat 0 ≤ 9) ∧ 0 ≤ (row ou k).getD ((i : Int)).toNat 0 ∧ (row ou k).getD ((i : Int)).toNat 0 ≤ 9 := by
  have hs := m.s1
  have ho := m.o1
  have he := m.eq
  have h1 := m.nx _ (row_mem (xs := nx) (l := (k : Int)) (by omega))
  have h2 := m.ou _ (row_mem (xs := ou) (l := (k : Int)) (by omega))
  have i1 := h1.2 _ (get_mem2 (q := (i : Int)) (by omega))
  have i2 := h2.2 _ (get_mem2 (q := (i : Int)) (by omega))
  omega
theorem prs_len {s o : Int} {nx ou : List (List Int)} (m : MV s o nx ou) {k : Nat} (hk : k < nx.length) : ∀ x ∈ ((row nx k).zip (row ou k)).map prT, x.length ≤ 7 := fun x hx => by
  obtain ⟨p, hp, rfl⟩ := List.mem_map.1 hx
  have hs := m.s1
  have ho := m.o1
  have he := m.eq
  have h1 := (m.nx _ (row_mem (xs := nx) (l := (k : Int)) (by omega))).2 p.1 (List.of_mem_zip hp).1
  have h2 := (m.ou _ (row_mem (xs := ou) (l := (k : Int)) (by omega))).2 p.2 (List.of_mem_zip hp).2
  exact prT_len (by omega) (by omega)
theorem rowT_len {s o : Int} {nx ou : List (List Int)} (m : MV s o nx ou) : ∀ x ∈ mrw nx ou, x.length ≤ 100 := fun x hx => by
  obtain ⟨k, hk, rfl⟩ := List.getElem_of_mem hx
  have hs := m.s1
  have he := m.eq
  have hk2 : k < nx.length := by unfold mrw at hk; simp at hk; omega
  have h1 := spT_len (w := letT) (prs_len m hk2)
  rw [List.length_map, List.length_zip] at h1
  have r1 : ((row nx (k : Int)).length : Int) = s := tbl_row m.nx (by omega)
  have e : (mrw nx ou)[k] = rowT (row nx k) (row ou k) := by
    rw [row_eq hk2, row_eq (xs := ou) (by omega)]
    simp [mrw]
  rw [e]
  unfold rowT
  have : letT.length = 6 := rfl
  omega
theorem hed_len {s o : Int} {nx : List (List Int)} (hs : 1 ≤ s ∧ s ≤ 10) (ho : 1 ≤ o ∧ o ≤ 3) (hn : nx.length ≤ 3) : (linT mchT [s, o, nx.length]).length ≤ 100 := by
  have := spT_len (w := mchT) (k := 3) (ws := [s, o, (nx.length : Int)].map itoa) fun x hx => by
    obtain ⟨q, hq, rfl⟩ := List.mem_map.1 hx
    simp only [List.mem_cons, List.not_mem_nil, or_false] at hq
    rcases hq with rfl | rfl | rfl <;> exact itoa_len (by omega)
  unfold linT
  have : mchT.length = 7 := rfl
  simp only [List.length_map, List.length_cons, List.length_nil] at *
  omega
theorem mtx_len {s o : Int} {nx ou : List (List Int)} (m : MV s o nx ou) (k : Nat) : (nlJ (linT mchT [s, o, nx.length] :: (mrw nx ou).take k)).length ≤ 404 := by
  have := nlJ_len (k := 100) (A := linT mchT [s, o, nx.length] :: (mrw nx ou).take k) fun x hx => by
    rcases List.mem_cons.1 hx with rfl | hx
    · exact hed_len m.s1 m.o1 m.n1.2
    · exact rowT_len m x (List.mem_of_mem_take hx)
  rw [List.length_cons, List.length_take] at this
  have hl : (mrw nx ou).length ≤ 3 := by unfold mrw; simp; have := m.n1; omega
  omega

theorem impl_MachineText {s o : Int} {nx ou : List (List Int)} (m : MV s o nx ou) : AC Tryz.prog 19 [mach s o nx ou] (.str (mtx s o nx ou)) := by
  have hs1 := m.s1
  have ho1 := m.o1
  have hn1 := m.n1
  have heq := m.eq
  have e1 := impl_ValidMachine (s := s) (o := o) m.rnx m.rou
  rw [machOk_mv m] at e1
  have e2 := impl_size2 (nss := nx)
  have e3 := impl_line (w := mchT) (ns := [s, o, (nx.length : Int)]) (by decide) (by simp) (fun q hq => by
    simp only [List.mem_cons, List.not_mem_nil, or_false] at hq
    rcases hq with rfl | rfl | rfl <;> omega)
  have mm1 : (List.map ints nx).length = nx.length := by simp
  have hl0 := mtx_len m
  have hhd : nlJ [linT mchT [s, o, (nx.length : Int)]] = linT mchT [s, o, (nx.length : Int)] ++ [10] := by simp [nlJ]
  unfold mtx
  unfold mach at *
  refine ac_intro tabIs _ Tryz.func19 rfl rfl Tryz.ntmps19 rfl rfl fun w0 ok0 he0 => ?_
  repeat (first | refine awp_seq ?_ | refine then_n ?_ | refine then_r ?_ | refine then_x ?_ | refine block_n ?_ | refine block_r ?_ | refine block_x ?_ | refine u_y ?_ | refine loop_r ?_ | refine loop_x ?_ | refine awp_region ?_ | refine awpL_nil ?_ | refine awpQL_nil ?_ | refine awp_block ?_ | refine awp_skip ?_ | refine awp_exit ?_ | refine awp_label ?_ | refine u_dT ?_ | refine u_d ?_ | ((first | apply c_l | apply c_q | apply c_lr | apply c_qr); (iterate 2 exact rfl); (focus (first | exact e1 | exact e2 | exact e3)); (iterate 2 exact rfl)) | (apply v_c; (iterate 4 exact rfl); (focus (first | exact e1 | exact e2 | exact e3)); (iterate 2 exact rfl)) | refine u_l ?_ | refine u_o ?_ | refine u_q ?_ | refine u_lr ?_ | refine u_qr ?_ | refine u_ls ?_ | refine u_qs ?_ | refine u_t ?_ | refine u_f ?_ | refine v_s ?_ | refine v_o ?_ | refine v_on ?_ | refine v_og ?_ | refine v_q ?_ | refine v_sr ?_ | refine v_k ?_ | refine m_nil ?_)
  rw [← hhd]
  refine awp_sub (s' := [(1, .d (.ptr (.agg [.int .i64 s, .int .i64 o, rows nx, rows ou]))), (3, .d (.str (nlJ [linT mchT [s, o, (nx.length : Int)]]))), (21, .d (rows nx)), (22, .d (.int .i64 (List.map ints nx).length)), (23, .d (.int .i64 0))]) (by ((repeat (first | exact trivial | (refine ⟨?_, ?_⟩; (focus (first | rfl | (simp [lk, argsS, args0]; done) | (simp [lk, argsS, args0]; omega)))))))) ?_
  refine awp_loop (fun k : Nat => k ≤ nx.length) (fun k => [(1, .d (.ptr (.agg [.int .i64 s, .int .i64 o, rows nx, rows ou]))), (3, .d (.str (nlJ (linT mchT [s, o, (nx.length : Int)] :: (mrw nx ou).take k)))), (21, .d (rows nx)), (22, .d (.int .i64 (List.map ints nx).length)), (23, .d (.int .i64 k))]) (fun _ => []) (fun k => nx.length - k) 0 (by omega) ?_ rfl ?_
  · ((repeat (first | exact trivial | (refine ⟨?_, ?_⟩; (focus (first | rfl | (simp [lk, argsS, args0]; done) | (simp [lk, argsS, args0]; omega)))))))
  · intro k hk
    by_cases hlt : k < nx.length
    · have hkl : 0 ≤ (k : Int) ∧ (k : Int) < nx.length := by omega
      have hko : 0 ≤ (k : Int) ∧ (k : Int) < ou.length := by omega
      have rl1 : ((row nx k).length : Int) = s := tbl_row m.nx hkl
      have rl2 : ((row ou k).length : Int) = s := tbl_row m.ou hko
      have g1 := el_row2 (xs := nx) hkl
      have g2 := el_row2 (xs := ou) hko
      have hpl := prs_len m hlt
      have hmt := mrw_take (nx := nx) (ou := ou) hlt (by omega)
      have hns : nlJ (linT mchT [s, o, (nx.length : Int)] :: (mrw nx ou).take (k + 1)) = nlJ (linT mchT [s, o, (nx.length : Int)] :: (mrw nx ou).take k) ++ (rowT (row nx k) (row ou k) ++ [10]) := by
        rw [hmt, ← List.cons_append, nlJ_snoc]
      have hl0k := hl0 k
      have hrb := fun i (hi : ((i : Nat) : Int) < s) => row_bnd m (i := i) hlt hi
      have hzl : ((row nx k).zip (row ou k)).length = s.toNat := by rw [List.length_zip]; omega
      have hsp : ∀ i, (spT letT ((((row nx k).zip (row ou k)).map prT).take i)).length ≤ 100 := fun i => by
        have := spT_len (w := letT) (k := 7) (ws := (((row nx k).zip (row ou k)).map prT).take i) fun x hx => hpl x (List.mem_of_mem_take hx)
        rw [List.length_take, List.length_map, hzl] at this
        have : letT.length = 6 := rfl
        omega
      have hzt := fun i (h1 : i < (row nx k).length) (h2 : i < (row ou k).length) => zip_take (a := row nx k) (b := row ou k) h1 h2
      have hrow : rowT (row nx k) (row ou k) = spT letT (((row nx k).zip (row ou k)).map prT) := rfl
      rw [hrow] at hns
      generalize nlJ (linT mchT [s, o, (nx.length : Int)] :: (mrw nx ou).take k) = tt at *
      generalize hPs : ((row nx k).zip (row ou k)).map prT = Ps at *
      have hPl : Ps.length = s.toNat := by rw [← hPs, List.length_map, hzl]
      repeat (first | refine awp_seq ?_ | refine then_n ?_ | refine then_r ?_ | refine then_x ?_ | refine block_n ?_ | refine block_r ?_ | refine block_x ?_ | refine u_y ?_ | refine loop_r ?_ | refine loop_x ?_ | refine awp_region ?_ | refine awpL_nil ?_ | refine awpQL_nil ?_ | refine awp_block ?_ | refine awp_skip ?_ | refine awp_exit ?_ | refine awp_label ?_ | refine u_dT ?_ | refine u_d ?_ | refine u_l ?_ | refine u_o ?_ | refine u_q ?_ | refine u_lr ?_ | refine u_qr ?_ | refine u_ls ?_ | refine u_qs ?_ | refine u_t ?_ | refine u_f ?_ | refine v_s ?_ | refine v_o ?_ | refine v_on ?_ | refine v_og ?_ | refine v_q ?_ | refine v_sr ?_ | refine v_k ?_ | refine m_nil ?_)
      refine awp_loop (fun i : Nat => (i : Int) ≤ s) (fun i => [(1, .d (.ptr (.agg [.int .i64 s, .int .i64 o, rows nx, rows ou]))), (3, .d (.str (tt ++ spT letT (Ps.take i)))), (4, .d (.int .i64 k)), (21, .d (rows nx)), (22, .d (.int .i64 (List.map ints nx).length)), (23, .d (.int .i64 k)), (30, .d (ints (row nx k))), (31, .d (.int .i64 ((row nx k).map (D.int .i64)).length)), (32, .d (.int .i64 i))]) (fun _ => []) (fun i => s.toNat - i) 0 (by omega) ?_ rfl ?_
      · simp only [List.take_zero, spT, List.flatMap_nil, List.append_nil]
        ((repeat (first | exact trivial | (refine ⟨?_, ?_⟩; (focus (first | rfl | (simp [lk, argsS, args0]; done) | (simp [lk, argsS, args0]; omega)))))))
      · intro i hi
        have rm1 : ((row nx k).map (D.int .i64)).length = (row nx k).length := by simp
        by_cases hli : (i : Int) < s
        · have y1 := el_int2 (ns := row nx k) (q := (i : Int)) (by omega)
          have y2 := el_int2 (ns := row ou k) (q := (i : Int)) (by omega)
          obtain ⟨b1, b2⟩ := hrb i hli
          have z := hzt i (by omega) (by omega)
          have w1 : (row nx k).getD ((i : Int)).toNat 0 = (row nx k)[i]'(by omega) := by simp [List.getD_eq_getElem?_getD, show i < (row nx k).length by omega]
          have w2 : (row ou k).getD ((i : Int)).toNat 0 = (row ou k)[i]'(by omega) := by simp [List.getD_eq_getElem?_getD, show i < (row ou k).length by omega]
          rw [← w1, ← w2] at z
          have e4 := impl_decimal (n := (row nx k).getD ((i : Int)).toNat 0) (by omega)
          have e5 := impl_decimal (n := (row ou k).getD ((i : Int)).toNat 0) (by omega)
          have l4 := itoa_len (n := (row nx k).getD ((i : Int)).toNat 0) (by omega)
          have l5 := itoa_len (n := (row ou k).getD ((i : Int)).toNat 0) (by omega)
          have hspi := hsp i
          have hsn : tt ++ spT letT (Ps.take (i + 1)) = tt ++ spT letT (Ps.take i) ++ 32 :: (itoa ((row nx k).getD ((i : Int)).toNat 0) ++ 47 :: itoa ((row ou k).getD ((i : Int)).toNat 0)) := by
            rw [z, spT_snoc, List.append_assoc]
            rfl
          clear w1 w2 z
          generalize (row nx k).getD ((i : Int)).toNat 0 = x at *
          generalize (row ou k).getD ((i : Int)).toNat 0 = y at *
          generalize spT letT (Ps.take i) = sp at *
          generalize itoa x = tx at *
          generalize itoa y = ty at *
          have hcat : (tt ++ sp).length ≤ 1000 := by rw [List.length_append]; omega
          generalize tt ++ sp = ts at *
          repeat (first | refine awp_seq ?_ | refine then_n ?_ | refine then_r ?_ | refine then_x ?_ | refine block_n ?_ | refine block_r ?_ | refine block_x ?_ | refine u_y ?_ | refine loop_r ?_ | refine loop_x ?_ | refine awp_region ?_ | refine awpL_nil ?_ | refine awpQL_nil ?_ | refine awp_block ?_ | refine awp_skip ?_ | refine awp_exit ?_ | refine awp_label ?_ | refine u_dT ?_ | refine u_d ?_ | ((first | apply c_l | apply c_q | apply c_lr | apply c_qr); (iterate 2 exact rfl); (focus (first | exact e4 | exact e5)); (iterate 2 exact rfl)) | (apply v_c; (iterate 4 exact rfl); (focus (first | exact e4 | exact e5)); (iterate 2 exact rfl)) | refine u_l ?_ | refine u_o ?_ | refine u_q ?_ | refine u_lr ?_ | refine u_qr ?_ | refine u_ls ?_ | refine u_qs ?_ | refine u_t ?_ | refine u_f ?_ | refine v_s ?_ | refine v_o ?_ | refine v_on ?_ | refine v_og ?_ | refine v_q ?_ | refine v_sr ?_ | refine v_k ?_ | refine m_nil ?_)
          refine loop_n (i + 1) (by omega) ?_ rfl (by omega)
          rw [hsn]
          ((repeat (first | exact trivial | (refine ⟨?_, ?_⟩; (focus (first | rfl | (simp [lk, argsS, args0]; done) | (simp [lk, argsS, args0]; omega)))))))
        · have hie : i = s.toNat := by omega
          subst hie
          rw [List.take_of_length_le (by omega)]
          have hspi := hsp s.toNat
          rw [List.take_of_length_le (by omega)] at hspi
          have hns2 : nlJ (linT mchT [s, o, (nx.length : Int)] :: (mrw nx ou).take (k + 1)) = (tt ++ spT letT Ps) ++ [10] := by rw [hns, List.append_assoc]
          generalize spT letT Ps = sp at *
          have hcat : (tt ++ sp).length ≤ 1000 := by rw [List.length_append]; omega
          generalize tt ++ sp = ts at *
          repeat (first | refine awp_seq ?_ | refine then_n ?_ | refine then_r ?_ | refine then_x ?_ | refine block_n ?_ | refine block_r ?_ | refine block_x ?_ | refine u_y ?_ | refine loop_r ?_ | refine loop_x ?_ | refine awp_region ?_ | refine awpL_nil ?_ | refine awpQL_nil ?_ | refine awp_block ?_ | refine awp_skip ?_ | refine awp_exit ?_ | refine awp_label ?_ | refine u_dT ?_ | refine u_d ?_ | refine u_l ?_ | refine u_o ?_ | refine u_q ?_ | refine u_lr ?_ | refine u_qr ?_ | refine u_ls ?_ | refine u_qs ?_ | refine u_t ?_ | refine u_f ?_ | refine v_s ?_ | refine v_o ?_ | refine v_on ?_ | refine v_og ?_ | refine v_q ?_ | refine v_sr ?_ | refine v_k ?_ | refine m_nil ?_)
          refine loop_n (k + 1) (by omega) ?_ rfl (by omega)
          rw [hns2]
          ((repeat (first | exact trivial | (refine ⟨?_, ?_⟩; (focus (first | rfl | (simp [lk, argsS, args0]; done) | (simp [lk, argsS, args0]; omega)))))))
    · have : k = nx.length := by omega
      subst this
      rw [List.take_of_length_le (by unfold mrw; simp; omega)]
      generalize nlJ (linT mchT [s, o, (nx.length : Int)] :: mrw nx ou) = tt at *
      repeat (first | refine awp_seq ?_ | refine then_n ?_ | refine then_r ?_ | refine then_x ?_ | refine block_n ?_ | refine block_r ?_ | refine block_x ?_ | refine u_y ?_ | refine loop_r ?_ | refine loop_x ?_ | refine awp_region ?_ | refine awpL_nil ?_ | refine awpQL_nil ?_ | refine awp_block ?_ | refine awp_skip ?_ | refine awp_exit ?_ | refine awp_label ?_ | refine u_dT ?_ | refine u_d ?_ | refine u_l ?_ | refine u_o ?_ | refine u_q ?_ | refine u_lr ?_ | refine u_qr ?_ | refine u_ls ?_ | refine u_qs ?_ | refine u_t ?_ | refine u_f ?_ | refine v_s ?_ | refine v_o ?_ | refine v_on ?_ | refine v_og ?_ | refine v_q ?_ | refine v_sr ?_ | refine v_k ?_ | refine m_nil ?_)
      (refine awp_ret ?_; (repeat (first | refine then_r ?_ | refine block_r ?_ | refine loop_r ?_)); apply ret_ok (.inr rfl); (focus exact rfl))
      rfl
end Go.Proofs.YtffmlijngfhhaaaGreatDoor
