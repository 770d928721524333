/- The search for a word that tells two machines apart, in the reference. No condition. -/
import Derived.Test.YtkomkhigcdkpdaaCb
import Derived.Test.YtkomkhigcdkpdaaNh
namespace Go.Proofs.Ytkomkhigcdkpdaa
open Go
attribute [local irreducible] awp awpL awpQL awpQ awpM pWalk Qt AC thenQ blockQ loopQ OpTo
set_option linter.unusedVariables false
set_option linter.unusedSimpArgs false
set_option maxHeartbeats 2000000
attribute [local irreducible] HC

theorem spec_l01Find1 {ls : List (List Int)} {w : List Int} {k0 : Nat} (hn : ls.length ≤ 1000) (hl : ∀ v ∈ ls, v.length ≤ 1000) (hw : w.length ≤ 1000) (h0 : k0 < ls.length) (hq : ls[k0] = w) (hmin : ∀ d, (h : d < k0) → ¬ ls[d] = w) : AC Try.prog 142 [rows ls, ints w] (.int .i64 k0) := by
  have hle : (List.map ints ls).length = ls.length := by simp
  refine ac_intro tabIs _ Try.func142 rfl rfl Try.ntmps142 rfl rfl fun w0 ok0 => ?_
  repeat (first | refine awp_seq ?_ | refine then_n ?_ | refine then_r ?_ | refine then_x ?_ | refine block_n ?_ | refine block_r ?_ | refine block_x ?_ | refine u_y ?_ | refine loop_r ?_ | refine loop_x ?_ | refine awp_region ?_ | refine awpL_nil ?_ | refine awpQL_nil ?_ | refine awp_block ?_ | refine awp_skip ?_ | refine awp_exit ?_ | refine awp_label ?_ | refine u_dT ?_ | refine u_d ?_ | refine u_l ?_ | refine u_o ?_ | refine u_q ?_ | refine u_lr ?_ | refine u_qr ?_ | refine u_ls ?_ | refine u_qs ?_ | refine u_t ?_ | refine u_f ?_ | refine v_s ?_ | refine v_o ?_ | refine v_on ?_ | refine v_og ?_ | refine v_q ?_ | refine v_sr ?_ | refine v_k ?_ | refine m_nil ?_)
  refine awp_loop (fun k : Nat => k ≤ k0) (fun k => [(0, .d (rows ls)), (1, .d (ints w)), (5, .d (.int .i64 k))]) (fun _ => []) (fun k => ls.length - k) 0 (by omega) ?_ rfl ?_
  · ((repeat (first | exact trivial | (refine ⟨?_, ?_⟩; (focus (first | rfl | (simp [lk, argsS, args0]; done) | (simp [lk, argsS, args0]; omega)))))))
  · intro k hk
    have hlt : k < ls.length := by omega
    have hx : (List.map ints ls)[(k : Int).toNat]? = some (ints ls[k]) := by simp [hlt]
    have e1 := spec_l00Same (a := ls[k]) (b := w) (by have := hl _ (List.getElem_mem hlt); omega) (by omega)
    by_cases e : k < k0
    · rw [decide_eq_false (hmin k e)] at e1
      repeat (first | refine awp_seq ?_ | refine then_n ?_ | refine then_r ?_ | refine then_x ?_ | refine block_n ?_ | refine block_r ?_ | refine block_x ?_ | refine u_y ?_ | refine loop_r ?_ | refine loop_x ?_ | refine awp_region ?_ | refine awpL_nil ?_ | refine awpQL_nil ?_ | refine awp_block ?_ | refine awp_skip ?_ | refine awp_exit ?_ | refine awp_label ?_ | refine u_dT ?_ | refine u_d ?_ | ((first | apply c_l | apply c_q | apply c_lr | apply c_qr); (iterate 2 exact rfl); (focus (first | exact e1)); (iterate 2 exact rfl)) | (apply v_c; (iterate 4 exact rfl); (focus (first | exact e1)); (iterate 2 exact rfl)) | refine u_l ?_ | refine u_o ?_ | refine u_q ?_ | refine u_lr ?_ | refine u_qr ?_ | refine u_ls ?_ | refine u_qs ?_ | refine u_t ?_ | refine u_f ?_ | refine v_s ?_ | refine v_o ?_ | refine v_on ?_ | refine v_og ?_ | refine v_q ?_ | refine v_sr ?_ | refine v_k ?_ | refine m_nil ?_)
      refine loop_n (k + 1) (by omega) ?_ rfl (by omega)
      ((repeat (first | exact trivial | (refine ⟨?_, ?_⟩; (focus (first | rfl | (simp [lk, argsS, args0]; done) | (simp [lk, argsS, args0]; omega)))))))
    · have : k = k0 := by omega
      subst this
      rw [decide_eq_true hq] at e1
      repeat (first | refine awp_seq ?_ | refine then_n ?_ | refine then_r ?_ | refine then_x ?_ | refine block_n ?_ | refine block_r ?_ | refine block_x ?_ | refine u_y ?_ | refine loop_r ?_ | refine loop_x ?_ | refine awp_region ?_ | refine awpL_nil ?_ | refine awpQL_nil ?_ | refine awp_block ?_ | refine awp_skip ?_ | refine awp_exit ?_ | refine awp_label ?_ | refine u_dT ?_ | refine u_d ?_ | ((first | apply c_l | apply c_q | apply c_lr | apply c_qr); (iterate 2 exact rfl); (focus (first | exact e1)); (iterate 2 exact rfl)) | (apply v_c; (iterate 4 exact rfl); (focus (first | exact e1)); (iterate 2 exact rfl)) | refine u_l ?_ | refine u_o ?_ | refine u_q ?_ | refine u_lr ?_ | refine u_qr ?_ | refine u_ls ?_ | refine u_qs ?_ | refine u_t ?_ | refine u_f ?_ | refine v_s ?_ | refine v_o ?_ | refine v_on ?_ | refine v_og ?_ | refine v_q ?_ | refine v_sr ?_ | refine v_k ?_ | refine m_nil ?_)
      (refine awp_ret ?_; (repeat (first | refine then_r ?_ | refine block_r ?_ | refine loop_r ?_)); apply ret_ok (.inr rfl); (focus exact rfl))
      rfl
theorem spec_l01Find0 {ls : List (List Int)} {w : List Int} (hn : ls.length ≤ 1000) (hl : ∀ v ∈ ls, v.length ≤ 1000) (hw : w.length ≤ 1000) (hnot : w ∉ ls) : AC Try.prog 142 [rows ls, ints w] (.int .i64 (-1)) := by
  have hle : (List.map ints ls).length = ls.length := by simp
  refine ac_intro tabIs _ Try.func142 rfl rfl Try.ntmps142 rfl rfl fun w0 ok0 => ?_
  repeat (first | refine awp_seq ?_ | refine then_n ?_ | refine then_r ?_ | refine then_x ?_ | refine block_n ?_ | refine block_r ?_ | refine block_x ?_ | refine u_y ?_ | refine loop_r ?_ | refine loop_x ?_ | refine awp_region ?_ | refine awpL_nil ?_ | refine awpQL_nil ?_ | refine awp_block ?_ | refine awp_skip ?_ | refine awp_exit ?_ | refine awp_label ?_ | refine u_dT ?_ | refine u_d ?_ | refine u_l ?_ | refine u_o ?_ | refine u_q ?_ | refine u_lr ?_ | refine u_qr ?_ | refine u_ls ?_ | refine u_qs ?_ | refine u_t ?_ | refine u_f ?_ | refine v_s ?_ | refine v_o ?_ | refine v_on ?_ | refine v_og ?_ | refine v_q ?_ | refine v_sr ?_ | refine v_k ?_ | refine m_nil ?_)
  refine awp_loop (fun k : Nat => k ≤ ls.length) (fun k => [(0, .d (rows ls)), (1, .d (ints w)), (5, .d (.int .i64 k))]) (fun _ => []) (fun k => ls.length - k) 0 (by omega) ?_ rfl ?_
  · ((repeat (first | exact trivial | (refine ⟨?_, ?_⟩; (focus (first | rfl | (simp [lk, argsS, args0]; done) | (simp [lk, argsS, args0]; omega)))))))
  · intro k hk
    by_cases hlt : k < ls.length
    · have hx : (List.map ints ls)[(k : Int).toNat]? = some (ints ls[k]) := by simp [hlt]
      have e1 := spec_l00Same (a := ls[k]) (b := w) (by have := hl _ (List.getElem_mem hlt); omega) (by omega)
      rw [decide_eq_false fun e : ls[k] = w => hnot (by rw [← e]; exact List.getElem_mem hlt)] at e1
      repeat (first | refine awp_seq ?_ | refine then_n ?_ | refine then_r ?_ | refine then_x ?_ | refine block_n ?_ | refine block_r ?_ | refine block_x ?_ | refine u_y ?_ | refine loop_r ?_ | refine loop_x ?_ | refine awp_region ?_ | refine awpL_nil ?_ | refine awpQL_nil ?_ | refine awp_block ?_ | refine awp_skip ?_ | refine awp_exit ?_ | refine awp_label ?_ | refine u_dT ?_ | refine u_d ?_ | ((first | apply c_l | apply c_q | apply c_lr | apply c_qr); (iterate 2 exact rfl); (focus (first | exact e1)); (iterate 2 exact rfl)) | (apply v_c; (iterate 4 exact rfl); (focus (first | exact e1)); (iterate 2 exact rfl)) | refine u_l ?_ | refine u_o ?_ | refine u_q ?_ | refine u_lr ?_ | refine u_qr ?_ | refine u_ls ?_ | refine u_qs ?_ | refine u_t ?_ | refine u_f ?_ | refine v_s ?_ | refine v_o ?_ | refine v_on ?_ | refine v_og ?_ | refine v_q ?_ | refine v_sr ?_ | refine v_k ?_ | refine m_nil ?_)
      refine loop_n (k + 1) (by omega) ?_ rfl (by omega)
      ((repeat (first | exact trivial | (refine ⟨?_, ?_⟩; (focus (first | rfl | (simp [lk, argsS, args0]; done) | (simp [lk, argsS, args0]; omega)))))))
    · have : k = ls.length := by omega
      subst this
      repeat (first | refine awp_seq ?_ | refine then_n ?_ | refine then_r ?_ | refine then_x ?_ | refine block_n ?_ | refine block_r ?_ | refine block_x ?_ | refine u_y ?_ | refine loop_r ?_ | refine loop_x ?_ | refine awp_region ?_ | refine awpL_nil ?_ | refine awpQL_nil ?_ | refine awp_block ?_ | refine awp_skip ?_ | refine awp_exit ?_ | refine awp_label ?_ | refine u_dT ?_ | refine u_d ?_ | refine u_l ?_ | refine u_o ?_ | refine u_q ?_ | refine u_lr ?_ | refine u_qr ?_ | refine u_ls ?_ | refine u_qs ?_ | refine u_t ?_ | refine u_f ?_ | refine v_s ?_ | refine v_o ?_ | refine v_on ?_ | refine v_og ?_ | refine v_q ?_ | refine v_sr ?_ | refine v_k ?_ | refine m_nil ?_)
      (refine awp_ret ?_; (repeat (first | refine then_r ?_ | refine block_r ?_ | refine loop_r ?_)); apply ret_ok (.inr rfl); (focus exact rfl))
      rfl
theorem spec_l01FindE {ls : List (List Int)} {w : List Int} (hn : ls.length ≤ 1000) (hl : ∀ v ∈ ls, v.length ≤ 1000) (hw : w.length ≤ 1000) : ∃ r : Int, (w ∈ ls → 0 ≤ r) ∧ (w ∉ ls → r = -1) ∧ AC Try.prog 142 [rows ls, ints w] (.int .i64 r) := by
  by_cases h : w ∈ ls
  · obtain ⟨k, hk, hkq⟩ := List.getElem_of_mem h
    obtain ⟨k0, h1, ⟨h2, h3⟩, h4⟩ := firstEx (P := fun k => ∃ hk : k < ls.length, ls[k] = w) k ⟨hk, hkq⟩
    exact ⟨k0, fun _ => by omega, fun h' => absurd h h', spec_l01Find1 hn hl hw h2 h3 fun d hd he => h4 d hd ⟨by omega, he⟩⟩
  · exact ⟨-1, fun h' => absurd h' h, fun _ => rfl, spec_l01Find0 hn hl hw h⟩

def prL (L : PL) : List (List Int) := L.map fun p => [((p.1 / 16 : Nat) : Int), ((p.1 % 16 : Nat) : Int)]
def wdL (L : PL) : List (List Int) := L.map fun p => p.2
@[simp] theorem prL_length (L : PL) : (prL L).length = L.length := by simp [prL]
@[simp] theorem wdL_length (L : PL) : (wdL L).length = L.length := by simp [wdL]
theorem mem_prL {c : Nat} {L : PL} : [((c / 16 : Nat) : Int), ((c % 16 : Nat) : Int)] ∈ prL L ↔ c ∈ L.map (·.1) := by
  unfold prL
  constructor
  · intro h
    obtain ⟨p, hp, e⟩ := List.mem_map.1 h
    simp only [List.cons.injEq, and_true] at e
    exact List.mem_map.2 ⟨p, hp, by omega⟩
  · intro h
    obtain ⟨p, hp, e⟩ := List.mem_map.1 h
    exact List.mem_map.2 ⟨p, hp, by subst e; rfl⟩

theorem spec_findH {s o s' o' : Int} {nx ou nx' ou' : List (List Int)} {I : Nat} {R : List Int × Bool} (m : MV s o nx ou) (m' : MV s' o' nx' ou') (he : nx'.length = nx.length) (hS : Srch nx ou nx' ou' I R) (hI : I ≤ 1000) :
    HC Try.prog 118 [.ref 20000 0, .d (.int .i64 0), .d (.int .i64 0)] [(20000, .box [.d (.ptr (mach s o nx ou)), .d (.ptr (mach s' o' nx' ou')), .d .nils, .d .nils])] (.d (.tup [ints R.1, .bool R.2])) [] := by
  have hs := m.s1
  have hs' := m'.s1
  have hn := m.n1
  have heq := m.eq
  have heq' := m'.eq
  have hle : (List.map ints nx).length = nx.length := by simp
  have hok := fun i => lstP_ok m m' he i
  have hpl : ∀ L : PL, ((prL L).map ints).length = L.length := fun L => by simp [prL]
  have hwlL : ∀ L : PL, ((wdL L).map ints).length = L.length := fun L => by simp [wdL]
  have hclo : ∀ w : List Int, w.length ≤ 1048576 → HC Try.prog 73 [.d (ints w)] [] (.own 30000) [(30000, .arr 2 1 (w.map (.int .i64)))] := fun w h => spec_l00OwnH h
  refine hc_intro tabIs _ Try.func118 rfl rfl Try.ntmps118 rfl rfl rfl ?_ fun w0 ok0 XM XA anc => ?_
  · intro p hp h
    simp only [List.mem_singleton] at hp
    subst hp
    cases h
  repeat (first | refine v_w (t := 22) ?_ | refine v_w (t := 17) ?_ | refine awp_seq ?_ | refine then_n ?_ | refine then_r ?_ | refine then_x ?_ | refine block_n ?_ | refine block_r ?_ | refine block_x ?_ | refine u_y ?_ | refine loop_r ?_ | refine loop_x ?_ | refine awp_region ?_ | refine awpL_nil ?_ | refine awpQL_nil ?_ | refine awp_block ?_ | refine awp_skip ?_ | refine awp_exit ?_ | refine awp_label ?_ | refine u_dT ?_ | refine u_d ?_ | refine u_w (t := 17) ?_ | refine u_w (t := 22) ?_ | refine u_l ?_ | refine u_o ?_ | refine u_q ?_ | refine u_lr ?_ | refine u_qr ?_ | refine u_ls ?_ | refine u_qs ?_ | refine u_t ?_ | refine u_f ?_ | refine v_s ?_ | refine v_o ?_ | refine v_on ?_ | refine v_og ?_ | refine v_q ?_ | refine v_sr ?_ | refine v_k ?_ | refine m_nil ?_)
  refine awp_loop (fun i : Nat => i ≤ I) (fun i => [(0, .ref 20000 0), (8, .d (.int .i64 i))]) (fun i => [(22, .arr 25 1 ((wdL (lstP nx nx' i)).map ints)), (17, .arr 25 1 ((prL (lstP nx nx' i)).map ints)), (20000, .box [.d (.ptr (mach s o nx ou)), .d (.ptr (mach s' o' nx' ou')), .own 17, .own 22])]) (fun i => I + 1 - i) 0 (by omega) ?_ rfl ?_
  · ((repeat (first | exact trivial | (refine ⟨?_, ?_⟩; (focus (first | rfl | (simp [lk, argsS, args0]; done) | (simp [lk, argsS, args0]; omega)))))))
  · intro i hi
    have hoki := hok i
    have hlen := hoki.len hs.2 hs'.2
    have hpli := hpl (lstP nx nx' i)
    have hwli := hwlL (lstP nx nx' i)
    by_cases hlt : i < (lstP nx nx' i).length
    · obtain ⟨p, hp⟩ : ∃ p, (lstP nx nx' i)[i]? = some p := ⟨_, List.getElem?_eq_getElem hlt⟩
      have hnext := lstP_next hp
      have hhit := fun x => srch_hit (x := x) hS hi hp
      have hgo := srch_go hS hi hp
      have hpm := List.mem_of_getElem? hp
      have hpl0 := hoki.lt p hpm
      have hwl := hoki.wl p hpm
      have hpre := letP_pre nx nx' p (lstP nx nx' i)
      have hokx := letP_ok m m' he hoki hpm
      have hel : ((prL (lstP nx nx' i)).map ints)[(i : Int).toNat]? = some (.lst [.int .i64 ((p.1 / 16 : Nat) : Int), .int .i64 ((p.1 % 16 : Nat) : Int)]) := by
        unfold prL
        rw [List.getElem?_map, List.getElem?_map, Int.toNat_natCast, hp]
        rfl
      have hdf : ∀ x, difP ou ou' p.1 x = decide (¬ at2 ou x (p.1 / 16 : Nat) = at2 ou' x (p.1 % 16 : Nat)) := fun _ => rfl
      have hnx := fun x (hx : x < nx.length) => nxP_ok m m' he (c := p.1) (x := x) hx hpl0
      generalize hc : lstP nx nx' i = L at *
      have h0 : L = letP nx nx' p L 0 := rfl
      repeat (first | refine awp_seq ?_ | refine then_n ?_ | refine then_r ?_ | refine then_x ?_ | refine block_n ?_ | refine block_r ?_ | refine block_x ?_ | refine u_y ?_ | refine loop_r ?_ | refine loop_x ?_ | refine awp_region ?_ | refine awpL_nil ?_ | refine awpQL_nil ?_ | refine awp_block ?_ | refine awp_skip ?_ | refine awp_exit ?_ | refine awp_label ?_ | refine u_dT ?_ | refine u_d ?_ | refine u_l ?_ | refine u_o ?_ | refine u_q ?_ | refine u_lr ?_ | refine u_qr ?_ | refine u_ls ?_ | refine u_qs ?_ | refine u_t ?_ | refine u_f ?_ | refine v_s ?_ | refine v_o ?_ | refine v_on ?_ | refine v_og ?_ | refine v_q ?_ | refine v_sr ?_ | refine v_k ?_ | refine m_nil ?_)
      refine awp_loop (fun x : Nat => x ≤ nx.length ∧ ∀ y, y < x → difP ou ou' p.1 y = false) (fun x => [(0, .ref 20000 0), (8, .d (.int .i64 i)), (9, .d (.lst [.int .i64 ((p.1 / 16 : Nat) : Int), .int .i64 ((p.1 % 16 : Nat) : Int)])), (10, .d (.int .i64 x))])
        (fun x => [(22, .arr 25 1 ((wdL (letP nx nx' p L x)).map ints)), (17, .arr 25 1 ((prL (letP nx nx' p L x)).map ints)), (20000, .box [.d (.ptr (mach s o nx ou)), .d (.ptr (mach s' o' nx' ou')), .own 17, .own 22])]) (fun x => nx.length - x) 0 (by exact ⟨by omega, fun y h => by omega⟩) ?_ rfl ?_
      · ((repeat (first | exact trivial | (refine ⟨?_, ?_⟩; (focus (first | rfl | (simp [lk, argsS, args0]; done) | (simp [lk, argsS, args0]; omega)))))))
      · rintro x ⟨hx, hb⟩
        have hokk := hokx x hx
        have hlenk := hokk.len hs.2 hs'.2
        have hplk := hpl (letP nx nx' p L x)
        have hwlk := hwlL (letP nx nx' p L x)
        by_cases hxl : x < nx.length
        · obtain ⟨t, ht⟩ := hpre x
          have hpi' : (letP nx nx' p L x)[i]? = some p := by rw [ht, List.getElem?_append_left hlt]; exact hp
          have hstep : letP nx nx' p L (x + 1) = addP (letP nx nx' p L x) (nxP nx nx' p.1 x) (p.2 ++ [(x : Int)]) := rfl
          obtain ⟨n1, n2, n3, n4⟩ := hnx x hxl
          have hfind := spec_l01FindE (ls := prL (letP nx nx' p L x)) (w := [at2 nx x (p.1 / 16 : Nat), at2 nx' x (p.1 % 16 : Nat)]) (by rw [prL_length]; omega) (fun v hv => by
            unfold prL at hv
            obtain ⟨q, _, rfl⟩ := List.mem_map.1 hv
            simp) (by simp)
          have hmem := mem_prL (c := nxP nx nx' p.1 x) (L := letP nx nx' p L x)
          rw [n1, n2] at hmem
          have helw : ((wdL (letP nx nx' p L x)).map ints)[(i : Int).toNat]? = some (ints p.2) := by
            unfold wdL
            rw [List.getElem?_map, List.getElem?_map, Int.toNat_natCast, hpi']
            rfl
          generalize letP nx nx' p L x = K at *
          have c0 : [D.int .i64 ((p.1 / 16 : Nat) : Int), D.int .i64 ((p.1 % 16 : Nat) : Int)][(0 : Int).toNat]? = some (.int .i64 ((p.1 / 16 : Nat) : Int)) := rfl
          have c1 : [D.int .i64 ((p.1 / 16 : Nat) : Int), D.int .i64 ((p.1 % 16 : Nat) : Int)][(1 : Int).toNat]? = some (.int .i64 ((p.1 % 16 : Nat) : Int)) := rfl
          have hiK : i < K.length := by rw [ht, List.length_append]; omega
          have e1 := hclo p.2 (by omega)
          have ro1 := el_row2 (xs := ou) (l := (x : Int)) (by omega)
          have ro2 := el_row2 (xs := ou') (l := (x : Int)) (by omega)
          have rn1 := el_row2 (xs := nx) (l := (x : Int)) (by omega)
          have rn2 := el_row2 (xs := nx') (l := (x : Int)) (by omega)
          have l1 := tbl_row m.ou (l := (x : Int)) (by omega)
          have l2 := tbl_row m'.ou (l := (x : Int)) (by omega)
          have l3 := tbl_row m.nx (l := (x : Int)) (by omega)
          have l4 := tbl_row m'.nx (l := (x : Int)) (by omega)
          have eo1 : (List.map (D.int .i64) (row ou x))[((p.1 / 16 : Nat) : Int).toNat]? = some (.int .i64 (at2 ou x (p.1 / 16 : Nat))) := el_int2 (ns := row ou x) (q := ((p.1 / 16 : Nat) : Int)) (by omega)
          have eo2 : (List.map (D.int .i64) (row ou' x))[((p.1 % 16 : Nat) : Int).toNat]? = some (.int .i64 (at2 ou' x (p.1 % 16 : Nat))) := el_int2 (ns := row ou' x) (q := ((p.1 % 16 : Nat) : Int)) (by omega)
          have en1 : (List.map (D.int .i64) (row nx x))[((p.1 / 16 : Nat) : Int).toNat]? = some (.int .i64 (at2 nx x (p.1 / 16 : Nat))) := el_int2 (ns := row nx x) (q := ((p.1 / 16 : Nat) : Int)) (by omega)
          have en2 : (List.map (D.int .i64) (row nx' x))[((p.1 % 16 : Nat) : Int).toNat]? = some (.int .i64 (at2 nx' x (p.1 % 16 : Nat))) := el_int2 (ns := row nx' x) (q := ((p.1 % 16 : Nat) : Int)) (by omega)
          have hdx := hdf x
          have hwm : (p.2.map (D.int .i64)).length = p.2.length := by simp
          have hints : ints (p.2 ++ [(x : Int)]) = D.lst (p.2.map (.int .i64) ++ [.int .i64 (x : Int)]) := by simp [ints]
          repeat (first | refine awp_seq ?_ | refine then_n ?_ | refine then_r ?_ | refine then_x ?_ | refine block_n ?_ | refine block_r ?_ | refine block_x ?_ | refine u_y ?_ | refine loop_r ?_ | refine loop_x ?_ | refine awp_region ?_ | refine awpL_nil ?_ | refine awpQL_nil ?_ | refine awp_block ?_ | refine awp_skip ?_ | refine awp_exit ?_ | refine awp_label ?_ | refine u_dT ?_ | refine u_d ?_ | refine u_l ?_ | refine u_o ?_ | refine u_q ?_ | refine u_lr ?_ | refine u_qr ?_ | refine u_ls ?_ | refine u_qs ?_ | refine u_t ?_ | refine u_f ?_ | refine v_s ?_ | refine v_o ?_ | refine v_on ?_ | refine v_og ?_ | refine v_q ?_ | refine v_sr ?_ | refine v_k ?_ | refine m_nil ?_)
          refine hcl [] [(30000, 500)] e1 ?_
          repeat (first | refine awp_seq ?_ | refine then_n ?_ | refine then_r ?_ | refine then_x ?_ | refine block_n ?_ | refine block_r ?_ | refine block_x ?_ | refine u_y ?_ | refine loop_r ?_ | refine loop_x ?_ | refine awp_region ?_ | refine awpL_nil ?_ | refine awpQL_nil ?_ | refine awp_block ?_ | refine awp_skip ?_ | refine awp_exit ?_ | refine awp_label ?_ | refine u_l ?_ | refine u_o ?_ | refine u_q ?_ | refine u_lr ?_ | refine u_qr ?_ | refine u_ls ?_ | refine u_qs ?_ | refine u_t ?_ | refine u_f ?_ | refine v_s ?_ | refine v_o ?_ | refine v_on ?_ | refine v_og ?_ | refine v_q ?_ | refine v_sr ?_ | refine v_k ?_ | refine m_nil ?_)
          refine awp_freeze 500 rfl rfl ?_
          cases hd : difP ou ou' p.1 x
          · rw [hd] at hdx
            have hcd : (!decide (at2 ou x (p.1 / 16 : Nat) = at2 ou' x (p.1 % 16 : Nat))) = false := by simpa using hdx
            obtain ⟨r, r1, r2, e2⟩ := hfind
            by_cases hm : nxP nx nx' p.1 x ∈ K.map (·.1)
            · have hr := r1 (hmem.2 hm)
              have hadd : addP K (nxP nx nx' p.1 x) (p.2 ++ [(x : Int)]) = K := if_pos hm
              rw [hadd] at hstep
              repeat (first | refine awp_seq ?_ | refine then_n ?_ | refine then_r ?_ | refine then_x ?_ | refine block_n ?_ | refine block_r ?_ | refine block_x ?_ | refine u_y ?_ | refine loop_r ?_ | refine loop_x ?_ | refine awp_region ?_ | refine awpL_nil ?_ | refine awpQL_nil ?_ | refine awp_block ?_ | refine awp_skip ?_ | refine awp_exit ?_ | refine awp_label ?_ | refine u_dT ?_ | refine u_d ?_ | ((first | apply c_l | apply c_q | apply c_lr | apply c_qr); (iterate 2 exact rfl); (focus (first | exact e2)); (iterate 2 exact rfl)) | (apply v_c; (iterate 4 exact rfl); (focus (first | exact e2)); (iterate 2 exact rfl)) | refine u_l ?_ | refine u_o ?_ | refine u_q ?_ | refine u_lr ?_ | refine u_qr ?_ | refine u_ls ?_ | refine u_qs ?_ | refine u_t ?_ | refine u_f ?_ | refine v_s ?_ | refine v_o ?_ | refine v_on ?_ | refine v_og ?_ | refine v_q ?_ | refine v_sr ?_ | refine v_k ?_ | refine m_nil ?_)
              refine loop_n (x + 1) ⟨by omega, fun y hy => ?_⟩ ?_ ?_ (by omega)
              · by_cases e : y = x
                · subst e; exact hd
                · exact hb y (by omega)
              · ((repeat (first | exact trivial | (refine ⟨?_, ?_⟩; (focus (first | rfl | (simp [lk, argsS, args0]; done) | (simp [lk, argsS, args0]; omega)))))))
              · rw [hstep]; rfl
            · have hr := r2 fun h => hm (hmem.1 h)
              have hadd : addP K (nxP nx nx' p.1 x) (p.2 ++ [(x : Int)]) = K ++ [(nxP nx nx' p.1 x, p.2 ++ [(x : Int)])] := if_neg hm
              rw [hadd] at hstep
              have hp2 : (prL (K ++ [(nxP nx nx' p.1 x, p.2 ++ [(x : Int)])])).map ints = (prL K).map ints ++ [.lst [.int .i64 (at2 nx x (p.1 / 16 : Nat)), .int .i64 (at2 nx' x (p.1 % 16 : Nat))]] := by
                simp only [prL, List.map_append, List.map_cons, List.map_nil, n1, n2]
                rfl
              have hw2 : (wdL (K ++ [(nxP nx nx' p.1 x, p.2 ++ [(x : Int)])])).map ints = (wdL K).map ints ++ [D.lst (p.2.map (.int .i64) ++ [.int .i64 (x : Int)])] := by
                simp only [wdL, List.map_append, List.map_cons, List.map_nil, hints]
              repeat (first | refine awp_seq ?_ | refine then_n ?_ | refine then_r ?_ | refine then_x ?_ | refine block_n ?_ | refine block_r ?_ | refine block_x ?_ | refine u_y ?_ | refine loop_r ?_ | refine loop_x ?_ | refine awp_region ?_ | refine awpL_nil ?_ | refine awpQL_nil ?_ | refine awp_block ?_ | refine awp_skip ?_ | refine awp_exit ?_ | refine awp_label ?_ | refine u_dT ?_ | refine u_d ?_ | ((first | apply c_l | apply c_q | apply c_lr | apply c_qr); (iterate 2 exact rfl); (focus (first | exact e2)); (iterate 2 exact rfl)) | (apply v_c; (iterate 4 exact rfl); (focus (first | exact e2)); (iterate 2 exact rfl)) | refine u_l ?_ | refine u_o ?_ | refine u_q ?_ | refine u_lr ?_ | refine u_qr ?_ | refine u_ls ?_ | refine u_qs ?_ | refine u_t ?_ | refine u_f ?_ | refine v_s ?_ | refine v_o ?_ | refine v_on ?_ | refine v_og ?_ | refine v_q ?_ | refine v_sr ?_ | refine v_k ?_ | refine m_nil ?_)
              refine loop_n (x + 1) ⟨by omega, fun y hy => ?_⟩ ?_ ?_ (by omega)
              · by_cases e : y = x
                · subst e; exact hd
                · exact hb y (by omega)
              · ((repeat (first | exact trivial | (refine ⟨?_, ?_⟩; (focus (first | rfl | (simp [lk, argsS, args0]; done) | (simp [lk, argsS, args0]; omega)))))))
              · rw [hstep, hp2, hw2]; rfl
          · rw [hd] at hdx
            have hcd : (!decide (at2 ou x (p.1 / 16 : Nat) = at2 ou' x (p.1 % 16 : Nat))) = true := by simpa using hdx.symm
            have hR := hhit x hxl hd hb
            subst hR
            repeat (first | refine awp_seq ?_ | refine then_n ?_ | refine then_r ?_ | refine then_x ?_ | refine block_n ?_ | refine block_r ?_ | refine block_x ?_ | refine u_y ?_ | refine loop_r ?_ | refine loop_x ?_ | refine awp_region ?_ | refine awpL_nil ?_ | refine awpQL_nil ?_ | refine awp_block ?_ | refine awp_skip ?_ | refine awp_exit ?_ | refine awp_label ?_ | refine u_dT ?_ | refine u_d ?_ | refine u_l ?_ | refine u_o ?_ | refine u_q ?_ | refine u_lr ?_ | refine u_qr ?_ | refine u_ls ?_ | refine u_qs ?_ | refine u_t ?_ | refine u_f ?_ | refine v_s ?_ | refine v_o ?_ | refine v_on ?_ | refine v_og ?_ | refine v_q ?_ | refine v_sr ?_ | refine v_k ?_ | refine m_nil ?_)
            (refine awp_ret ?_; (repeat (first | refine then_r ?_ | refine block_r ?_ | refine loop_r ?_)); refine u_rH [] ?_ ?_)
            · rw [hints]; rfl
            · rfl
        · have : x = nx.length := by omega
          subst this
          have hiI := hgo hb
          rw [← hnext]
          repeat (first | refine awp_seq ?_ | refine then_n ?_ | refine then_r ?_ | refine then_x ?_ | refine block_n ?_ | refine block_r ?_ | refine block_x ?_ | refine u_y ?_ | refine loop_r ?_ | refine loop_x ?_ | refine awp_region ?_ | refine awpL_nil ?_ | refine awpQL_nil ?_ | refine awp_block ?_ | refine awp_skip ?_ | refine awp_exit ?_ | refine awp_label ?_ | refine u_dT ?_ | refine u_d ?_ | refine u_l ?_ | refine u_o ?_ | refine u_q ?_ | refine u_lr ?_ | refine u_qr ?_ | refine u_ls ?_ | refine u_qs ?_ | refine u_t ?_ | refine u_f ?_ | refine v_s ?_ | refine v_o ?_ | refine v_on ?_ | refine v_og ?_ | refine v_q ?_ | refine v_sr ?_ | refine v_k ?_ | refine m_nil ?_)
          refine loop_n (i + 1) (by omega) ?_ rfl (by omega)
          ((repeat (first | exact trivial | (refine ⟨?_, ?_⟩; (focus (first | rfl | (simp [lk, argsS, args0]; done) | (simp [lk, argsS, args0]; omega)))))))
    · have hR := srch_end hS hi (by omega)
      subst hR
      repeat (first | refine awp_seq ?_ | refine then_n ?_ | refine then_r ?_ | refine then_x ?_ | refine block_n ?_ | refine block_r ?_ | refine block_x ?_ | refine u_y ?_ | refine loop_r ?_ | refine loop_x ?_ | refine awp_region ?_ | refine awpL_nil ?_ | refine awpQL_nil ?_ | refine awp_block ?_ | refine awp_skip ?_ | refine awp_exit ?_ | refine awp_label ?_ | refine u_dT ?_ | refine u_d ?_ | refine u_l ?_ | refine u_o ?_ | refine u_q ?_ | refine u_lr ?_ | refine u_qr ?_ | refine u_ls ?_ | refine u_qs ?_ | refine u_t ?_ | refine u_f ?_ | refine v_s ?_ | refine v_o ?_ | refine v_on ?_ | refine v_og ?_ | refine v_q ?_ | refine v_sr ?_ | refine v_k ?_ | refine m_nil ?_)
      (refine awp_ret ?_; (repeat (first | refine then_r ?_ | refine block_r ?_ | refine loop_r ?_)); refine u_rH [] ?_ ?_)
      · rfl
      · rfl

theorem spec_l06Differ {s o s' o' : Int} {nx ou nx' ou' : List (List Int)} {I : Nat} {R : List Int × Bool} (m : MV s o nx ou) (m' : MV s' o' nx' ou') (he : nx'.length = nx.length) (hS : Srch nx ou nx' ou' I R) (hI : I ≤ 1000) :
    AC Try.prog 81 [.ptr (mach s o nx ou), .ptr (mach s' o' nx' ou')] (.tup [ints R.1, .bool R.2]) := by
  have e1 := spec_findH m m' he hS hI
  refine ac_intro tabIs _ Try.func81 rfl rfl Try.ntmps81 rfl rfl fun w0 ok0 => ?_
  repeat (first | refine v_w (t := 10) ?_ | refine awp_seq ?_ | refine then_n ?_ | refine then_r ?_ | refine then_x ?_ | refine block_n ?_ | refine block_r ?_ | refine block_x ?_ | refine u_y ?_ | refine loop_r ?_ | refine loop_x ?_ | refine awp_region ?_ | refine awpL_nil ?_ | refine awpQL_nil ?_ | refine awp_block ?_ | refine awp_skip ?_ | refine awp_exit ?_ | refine awp_label ?_ | refine u_dT ?_ | refine u_d ?_ | refine u_w (t := 10) ?_ | refine u_l ?_ | refine u_o ?_ | refine u_q ?_ | refine u_lr ?_ | refine u_qr ?_ | refine u_ls ?_ | refine u_qs ?_ | refine u_t ?_ | refine u_f ?_ | refine v_s ?_ | refine v_o ?_ | refine v_on ?_ | refine v_og ?_ | refine v_q ?_ | refine v_sr ?_ | refine v_k ?_ | refine m_nil ?_)
  refine hcl [(10, 20000)] [] e1 ?_
  repeat (first | refine awp_seq ?_ | refine then_n ?_ | refine then_r ?_ | refine then_x ?_ | refine block_n ?_ | refine block_r ?_ | refine block_x ?_ | refine u_y ?_ | refine loop_r ?_ | refine loop_x ?_ | refine awp_region ?_ | refine awpL_nil ?_ | refine awpQL_nil ?_ | refine awp_block ?_ | refine awp_skip ?_ | refine awp_exit ?_ | refine awp_label ?_ | refine u_dT ?_ | refine u_d ?_ | refine u_l ?_ | refine u_o ?_ | refine u_q ?_ | refine u_lr ?_ | refine u_qr ?_ | refine u_ls ?_ | refine u_qs ?_ | refine u_t ?_ | refine u_f ?_ | refine v_s ?_ | refine v_o ?_ | refine v_on ?_ | refine v_og ?_ | refine v_q ?_ | refine v_sr ?_ | refine v_k ?_ | refine m_nil ?_)
  (refine awp_ret ?_; (repeat (first | refine then_r ?_ | refine block_r ?_ | refine loop_r ?_)); apply ret_ok (.inr rfl); (focus exact rfl))
  rfl

end Go.Proofs.Ytkomkhigcdkpdaa
