/- The search for a word that tells two machines apart, in the program. No condition. -/
import Derived.Test.YthcaccakbmooeaaCa
import Derived.Test.YthcaccakbmooeaaFy
namespace Go.Proofs.Ythcaccakbmooeaa
open Go
attribute [local irreducible] awp awpL awpQL awpQ awpM pWalk Qt AC thenQ blockQ loopQ OpTo
set_option linter.unusedVariables false
set_option linter.unusedSimpArgs false
set_option maxHeartbeats 2000000
attribute [local irreducible] HC

theorem pairIs : KP Try.prog 116 := ⟨by kernel_rfl⟩

theorem wa_loadEltA {cx : Cx} {h : Heap} {dst : Option Nat} {ty : Nat} {pos : String} {af : Array Edge} {gd : Option (Nat × Bool)} {T : Nat} {x : Operand} {tr : TR} {f : Nat → SV} {id i e sz : Nat} {xs zs : List D} (hx : opv f x = .elt id i) (hg : h.get id = some (.arr e sz xs)) (ht : tget cx.T T = some tr) (ha : tr.agg = true) (hy : xs[i]? = some (.agg zs)) (hl : zs.length = tr.size) :
    Qt cx h ⟨dst, .load T x, ty, pos, af, gd⟩ f (.d (.agg zs)) := qa_loadElt hx hg hy ht (.inr ⟨ha, zs, rfl, hl⟩)

theorem srch_hit {nx ou nx' ou' : List (List Int)} {I i x : Nat} {R : List Int × Bool} {p : Nat × List Int} (hS : Srch nx ou nx' ou' I R) (hi : i ≤ I) (hp : (lstP nx nx' i)[i]? = some p) (hx : x < nx.length) (hd : difP ou ou' p.1 x = true) (hb : ∀ y, y < x → difP ou ou' p.1 y = false) : R = (p.2 ++ [(x : Int)], true) := by
  rcases Nat.lt_or_ge i I with h | h
  · obtain ⟨p', h1, h2⟩ := hS.old i h
    rw [hp] at h1
    cases h1
    rw [h2 x hx] at hd
    cases hd
  · have : i = I := by omega
    subst this
    rcases hS.fin with ⟨h1, _⟩ | ⟨p', x0, h1, h2, h3, h4, h5⟩
    · rw [List.getElem?_eq_none h1] at hp; cases hp
    · rw [hp] at h1
      cases h1
      have : x = x0 := by
        rcases Nat.lt_trichotomy x x0 with h | h | h
        · rw [h4 x h] at hd; cases hd
        · exact h
        · rw [hb x0 h] at h3; cases h3
      subst this
      exact h5
theorem srch_go {nx ou nx' ou' : List (List Int)} {I i : Nat} {R : List Int × Bool} {p : Nat × List Int} (hS : Srch nx ou nx' ou' I R) (hi : i ≤ I) (hp : (lstP nx nx' i)[i]? = some p) (hb : ∀ y, y < nx.length → difP ou ou' p.1 y = false) : i < I := by
  rcases Nat.lt_or_ge i I with h | h
  · exact h
  · have : i = I := by omega
    subst this
    rcases hS.fin with ⟨h1, _⟩ | ⟨p', x0, h1, h2, h3, h4, h5⟩
    · rw [List.getElem?_eq_none h1] at hp; cases hp
    · rw [hp] at h1
      cases h1
      rw [hb x0 h2] at h3; cases h3
theorem srch_end {nx ou nx' ou' : List (List Int)} {I i : Nat} {R : List Int × Bool} (hS : Srch nx ou nx' ou' I R) (hi : i ≤ I) (hp : (lstP nx nx' i).length ≤ i) : R = ([], false) := by
  rcases Nat.lt_or_ge i I with h | h
  · obtain ⟨p', h1, h2⟩ := hS.old i h
    rw [List.getElem?_eq_none hp] at h1; cases h1
  · have : i = I := by omega
    subst this
    rcases hS.fin with ⟨h1, h2⟩ | ⟨p', x0, h1, _⟩
    · exact h2
    · rw [List.getElem?_eq_none hp] at h1; cases h1
theorem lstP_next {nx nx' : List (List Int)} {i : Nat} {p : Nat × List Int} (hp : (lstP nx nx' i)[i]? = some p) : lstP nx nx' (i + 1) = letP nx nx' p (lstP nx nx' i) nx.length := by
  show (match (lstP nx nx' i)[i]? with
    | some p => letP nx nx' p (lstP nx nx' i) nx.length
    | none => lstP nx nx' i) = _
  rw [hp]
theorem at2_row {xs : List (List Int)} {l q : Int} {v : Int} (h : at2 xs l q = v) : (row xs l).getD q.toNat 0 = v := h

theorem impl_apart {s o s' o' : Int} {nx ou nx' ou' : List (List Int)} {I : Nat} {R : List Int × Bool} (m : MV s o nx ou) (m' : MV s' o' nx' ou') (he : nx'.length = nx.length) (hS : Srch nx ou nx' ou' I R) (hI : I ≤ 1000) :
    AC Try.prog 72 [mach s o nx ou, mach s' o' nx' ou', .int .i64 0, .int .i64 0] (.tup [ints R.1, .bool R.2]) := by
  have hs := m.s1
  have hs' := m'.s1
  have hn := m.n1
  have heq := m.eq
  have heq' := m'.eq
  have hle : (List.map ints nx).length = nx.length := by simp
  have hok := fun i => lstP_ok m m' he i
  have hpl : ∀ L : PL, (plD L).length = L.length := fun L => by simp [plD]
  have hclo : ∀ w : List Int, w.length ≤ 1048576 → HC Try.prog 63 [.d (ints w)] [] (.own 30000) [(30000, .arr 2 1 (w.map (.int .i64)))] := fun w h => impl_cloneH h
  have hpi := pairIs
  refine ac_intro tabIs _ Try.func72 rfl rfl Try.ntmps72 rfl rfl fun w0 ok0 => ?_
  repeat (first | refine awp_seq ?_ | refine then_n ?_ | refine then_r ?_ | refine then_x ?_ | refine block_n ?_ | refine block_r ?_ | refine block_x ?_ | refine u_y ?_ | refine loop_r ?_ | refine loop_x ?_ | refine awp_region ?_ | refine awpL_nil ?_ | refine awpQL_nil ?_ | refine awp_block ?_ | refine awp_skip ?_ | refine awp_exit ?_ | refine awp_label ?_ | refine u_l ?_ | refine u_o ?_ | refine u_q ?_ | refine u_lr ?_ | refine u_qr ?_ | refine u_ls ?_ | refine u_qs ?_ | refine u_t ?_ | refine u_f ?_ | refine v_s ?_ | refine v_o ?_ | refine v_on ?_ | refine v_og ?_ | refine v_q ?_ | refine v_sr ?_ | refine v_k ?_ | refine m_nil ?_)
  refine u_mJ [(3, [22]), (4, [23]), (9, [23])] (.tk [22, 23] [0, 1, 2, 5, 6, 7, 8] (.fork 3 4 (.tk [] [4, 9] (.tk [22] [10] (.tk [23] [11] (.tk [] [12] .done)))) (.fork 3 9 (.tk [] [9] (.tk [22] [10] (.tk [23] [11] (.tk [] [12] .done)))) (.tk [22] [10] (.tk [] [3] (.tk [23] [11] (.tk [] [12] .done)))))))
    [(4, .d (.ptr (mach s o nx ou))), (5, .d (.ptr (mach s' o' nx' ou'))), (10, .own 22), (11, .own 23)]
    [(22, .arr 116 2 (plD (lstP nx nx' 0))), (23, .map (wmD (lstP nx nx' 0)))] ?_ ?_
  · repeat (first | refine awp_seq ?_ | refine then_n ?_ | refine then_r ?_ | refine then_x ?_ | refine block_n ?_ | refine block_r ?_ | refine block_x ?_ | refine u_y ?_ | refine loop_r ?_ | refine loop_x ?_ | refine awp_region ?_ | refine awpL_nil ?_ | refine awpQL_nil ?_ | refine awp_block ?_ | refine awp_skip ?_ | refine awp_exit ?_ | refine awp_label ?_ | refine u_dT ?_ | refine u_d ?_ | refine u_l ?_ | refine u_o ?_ | refine u_q ?_ | refine u_lr ?_ | refine u_qr ?_ | refine u_ls ?_ | refine u_qs ?_ | refine u_t ?_ | refine u_f ?_ | refine v_s ?_ | refine v_o ?_ | refine v_on ?_ | refine v_og ?_ | refine v_q ?_ | refine v_sr ?_ | refine v_k ?_ | refine m_nil ?_)
    refine m_fork ?_ ?_
    · repeat (first | refine v_w (t := 22) ?_ | refine awp_seq ?_ | refine then_n ?_ | refine then_r ?_ | refine then_x ?_ | refine block_n ?_ | refine block_r ?_ | refine block_x ?_ | refine u_y ?_ | refine loop_r ?_ | refine loop_x ?_ | refine awp_region ?_ | refine awpL_nil ?_ | refine awpQL_nil ?_ | refine awp_block ?_ | refine awp_skip ?_ | refine awp_exit ?_ | refine awp_label ?_ | refine u_dT ?_ | refine u_d ?_ | refine u_w (t := 22) ?_ | refine u_l ?_ | refine u_o ?_ | refine u_q ?_ | refine u_lr ?_ | refine u_qr ?_ | refine u_ls ?_ | refine u_qs ?_ | refine u_t ?_ | refine u_f ?_ | refine v_s ?_ | refine v_o ?_ | refine v_on ?_ | refine v_og ?_ | refine v_q ?_ | refine v_sr ?_ | refine v_k ?_ | refine m_nil ?_)
      refine v_on ?_ (ho := by (intro rest; apply wo_mapInsertP; (iterate 6 exact rfl); exact pairIs; exact rfl))
      repeat (first | refine awp_seq ?_ | refine then_n ?_ | refine then_r ?_ | refine then_x ?_ | refine block_n ?_ | refine block_r ?_ | refine block_x ?_ | refine u_y ?_ | refine loop_r ?_ | refine loop_x ?_ | refine awp_region ?_ | refine awpL_nil ?_ | refine awpQL_nil ?_ | refine awp_block ?_ | refine awp_skip ?_ | refine awp_exit ?_ | refine awp_label ?_ | refine u_dT ?_ | refine u_d ?_ | refine u_l ?_ | refine u_o ?_ | refine u_q ?_ | refine u_lr ?_ | refine u_qr ?_ | refine u_ls ?_ | refine u_qs ?_ | refine u_t ?_ | refine u_f ?_ | refine v_s ?_ | refine v_o ?_ | refine v_on ?_ | refine v_og ?_ | refine v_q ?_ | refine v_sr ?_ | refine v_k ?_ | refine m_nil ?_)
      exact ⟨by ((repeat (first | exact trivial | (refine ⟨?_, ?_⟩; (focus (first | rfl | (simp [lk, argsS, args0]; done) | (simp [lk, argsS, args0]; omega))))))), perm_of_sort rfl⟩
    · repeat (first | refine awp_seq ?_ | refine then_n ?_ | refine then_r ?_ | refine then_x ?_ | refine block_n ?_ | refine block_r ?_ | refine block_x ?_ | refine u_y ?_ | refine loop_r ?_ | refine loop_x ?_ | refine awp_region ?_ | refine awpL_nil ?_ | refine awpQL_nil ?_ | refine awp_block ?_ | refine awp_skip ?_ | refine awp_exit ?_ | refine awp_label ?_ | refine u_dT ?_ | refine u_d ?_ | refine u_l ?_ | refine u_o ?_ | refine u_q ?_ | refine u_lr ?_ | refine u_qr ?_ | refine u_ls ?_ | refine u_qs ?_ | refine u_t ?_ | refine u_f ?_ | refine v_s ?_ | refine v_o ?_ | refine v_on ?_ | refine v_og ?_ | refine v_q ?_ | refine v_sr ?_ | refine v_k ?_ | refine m_nil ?_)
      refine m_fork ?_ ?_
      · repeat (first | refine v_w (t := 22) ?_ | refine awp_seq ?_ | refine then_n ?_ | refine then_r ?_ | refine then_x ?_ | refine block_n ?_ | refine block_r ?_ | refine block_x ?_ | refine u_y ?_ | refine loop_r ?_ | refine loop_x ?_ | refine awp_region ?_ | refine awpL_nil ?_ | refine awpQL_nil ?_ | refine awp_block ?_ | refine awp_skip ?_ | refine awp_exit ?_ | refine awp_label ?_ | refine u_dT ?_ | refine u_d ?_ | refine u_w (t := 22) ?_ | refine u_l ?_ | refine u_o ?_ | refine u_q ?_ | refine u_lr ?_ | refine u_qr ?_ | refine u_ls ?_ | refine u_qs ?_ | refine u_t ?_ | refine u_f ?_ | refine v_s ?_ | refine v_o ?_ | refine v_on ?_ | refine v_og ?_ | refine v_q ?_ | refine v_sr ?_ | refine v_k ?_ | refine m_nil ?_)
        refine v_on ?_ (ho := by (intro rest; apply wo_mapInsertP; (iterate 6 exact rfl); exact pairIs; exact rfl))
        repeat (first | refine awp_seq ?_ | refine then_n ?_ | refine then_r ?_ | refine then_x ?_ | refine block_n ?_ | refine block_r ?_ | refine block_x ?_ | refine u_y ?_ | refine loop_r ?_ | refine loop_x ?_ | refine awp_region ?_ | refine awpL_nil ?_ | refine awpQL_nil ?_ | refine awp_block ?_ | refine awp_skip ?_ | refine awp_exit ?_ | refine awp_label ?_ | refine u_dT ?_ | refine u_d ?_ | refine u_l ?_ | refine u_o ?_ | refine u_q ?_ | refine u_lr ?_ | refine u_qr ?_ | refine u_ls ?_ | refine u_qs ?_ | refine u_t ?_ | refine u_f ?_ | refine v_s ?_ | refine v_o ?_ | refine v_on ?_ | refine v_og ?_ | refine v_q ?_ | refine v_sr ?_ | refine v_k ?_ | refine m_nil ?_)
        exact ⟨by ((repeat (first | exact trivial | (refine ⟨?_, ?_⟩; (focus (first | rfl | (simp [lk, argsS, args0]; done) | (simp [lk, argsS, args0]; omega))))))), perm_of_sort rfl⟩
      · refine v_on ?_ (ho := by (intro rest; apply wo_mapInsertP; (iterate 6 exact rfl); exact pairIs; exact rfl))
        repeat (first | refine v_w (t := 22) ?_ | refine awp_seq ?_ | refine then_n ?_ | refine then_r ?_ | refine then_x ?_ | refine block_n ?_ | refine block_r ?_ | refine block_x ?_ | refine u_y ?_ | refine loop_r ?_ | refine loop_x ?_ | refine awp_region ?_ | refine awpL_nil ?_ | refine awpQL_nil ?_ | refine awp_block ?_ | refine awp_skip ?_ | refine awp_exit ?_ | refine awp_label ?_ | refine u_dT ?_ | refine u_d ?_ | refine u_w (t := 22) ?_ | refine u_l ?_ | refine u_o ?_ | refine u_q ?_ | refine u_lr ?_ | refine u_qr ?_ | refine u_ls ?_ | refine u_qs ?_ | refine u_t ?_ | refine u_f ?_ | refine v_s ?_ | refine v_o ?_ | refine v_on ?_ | refine v_og ?_ | refine v_q ?_ | refine v_sr ?_ | refine v_k ?_ | refine m_nil ?_)
        exact ⟨by ((repeat (first | exact trivial | (refine ⟨?_, ?_⟩; (focus (first | rfl | (simp [lk, argsS, args0]; done) | (simp [lk, argsS, args0]; omega))))))), perm_of_sort rfl⟩
  · repeat (first | refine awp_seq ?_ | refine then_n ?_ | refine then_r ?_ | refine then_x ?_ | refine block_n ?_ | refine block_r ?_ | refine block_x ?_ | refine u_y ?_ | refine loop_r ?_ | refine loop_x ?_ | refine awp_region ?_ | refine awpL_nil ?_ | refine awpQL_nil ?_ | refine awp_block ?_ | refine awp_skip ?_ | refine awp_exit ?_ | refine awp_label ?_ | refine u_dT ?_ | refine u_d ?_ | refine u_l ?_ | refine u_o ?_ | refine u_q ?_ | refine u_lr ?_ | refine u_qr ?_ | refine u_ls ?_ | refine u_qs ?_ | refine u_t ?_ | refine u_f ?_ | refine v_s ?_ | refine v_o ?_ | refine v_on ?_ | refine v_og ?_ | refine v_q ?_ | refine v_sr ?_ | refine v_k ?_ | refine m_nil ?_)
    refine awp_loop (fun i : Nat => i ≤ I) (fun i => [(4, .d (.ptr (mach s o nx ou))), (5, .d (.ptr (mach s' o' nx' ou'))), (10, .own 22), (11, .own 23), (12, .d (.int .i64 i))]) (fun i => [(22, .arr 116 2 (plD (lstP nx nx' i))), (23, .map (wmD (lstP nx nx' i)))]) (fun i => I + 1 - i) 0 (by omega) ?_ rfl ?_
    · ((repeat (first | exact trivial | (refine ⟨?_, ?_⟩; (focus (first | rfl | (simp [lk, argsS, args0]; done) | (simp [lk, argsS, args0]; omega)))))))
    · intro i hi
      have hoki := hok i
      have hlen := hoki.len hs.2 hs'.2
      have hpli := hpl (lstP nx nx' i)
      by_cases hlt : i < (lstP nx nx' i).length
      · obtain ⟨p, hp⟩ : ∃ p, (lstP nx nx' i)[i]? = some p := ⟨_, List.getElem?_eq_getElem hlt⟩
        have hnext := lstP_next hp
        have hhit := fun x => srch_hit (x := x) hS hi hp
        have hgo := srch_go hS hi hp
        have hpm := List.mem_of_getElem? hp
        have hpl0 := hoki.lt p hpm
        have hwl := hoki.wl p hpm
        have hpre := letP_pre nx nx' p (lstP nx nx' i)
        have hokx := letP_ok m m' he hoki hpm
        have hel : (plD (lstP nx nx' i))[(i : Int).toNat]? = some (.agg [.int .i64 ((p.1 / 16 : Nat) : Int), .int .i64 ((p.1 % 16 : Nat) : Int)]) := by
          unfold plD
          rw [List.getElem?_map, Int.toNat_natCast, hp]
          rfl
        have hdf : ∀ x, difP ou ou' p.1 x = decide (¬ at2 ou x (p.1 / 16 : Nat) = at2 ou' x (p.1 % 16 : Nat)) := fun _ => rfl
        have hnx := fun x (hx : x < nx.length) => nxP_ok m m' he (c := p.1) (x := x) hx hpl0
        generalize hc : lstP nx nx' i = L at *
        have h0 : L = letP nx nx' p L 0 := rfl
        repeat (first | refine awp_seq ?_ | refine then_n ?_ | refine then_r ?_ | refine then_x ?_ | refine block_n ?_ | refine block_r ?_ | refine block_x ?_ | refine u_y ?_ | refine loop_r ?_ | refine loop_x ?_ | refine awp_region ?_ | refine awpL_nil ?_ | refine awpQL_nil ?_ | refine awp_block ?_ | refine awp_skip ?_ | refine awp_exit ?_ | refine awp_label ?_ | refine u_dT ?_ | refine u_d ?_ | ((first | apply x_l | apply x_q | apply x_lr | apply x_qr); (focus (first | (apply wa_loadEltA; (iterate 6 (focus (first | exact rfl | (first | assumption | omega | (simp; omega) | (simp; done) | rfl))))))); exact rfl) | (apply v_x; (iterate 2 exact rfl); (focus (intro ok0 nw hle; (first | (apply wa_loadEltA; (iterate 6 (focus (first | exact rfl | (first | assumption | omega | (simp; omega) | (simp; done) | rfl)))))))); (iterate 2 exact rfl)) | refine u_l ?_ | refine u_o ?_ | refine u_q ?_ | refine u_lr ?_ | refine u_qr ?_ | refine u_ls ?_ | refine u_qs ?_ | refine u_t ?_ | refine u_f ?_ | refine v_s ?_ | refine v_o ?_ | refine v_on ?_ | refine v_og ?_ | refine v_q ?_ | refine v_sr ?_ | refine v_k ?_ | refine m_nil ?_)
        refine awp_freezeB 13 rfl rfl rfl ?_
        refine awp_perm [(22, .arr 116 2 (plD (letP nx nx' p L 0))), (23, .map (wmD (letP nx nx' p L 0)))] rfl ?_
        refine awp_loop (fun x : Nat => x ≤ nx.length ∧ ∀ y, y < x → difP ou ou' p.1 y = false) (fun x => [(4, .d (.ptr (mach s o nx ou))), (5, .d (.ptr (mach s' o' nx' ou'))), (10, .own 22), (11, .own 23), (12, .d (.int .i64 i)), (13, .d (.ptr (.agg [.int .i64 ((p.1 / 16 : Nat) : Int), .int .i64 ((p.1 % 16 : Nat) : Int)]))), (41, .d (.int .i64 nx.length)), (42, .d (.int .i64 x))])
          (fun x => [(22, .arr 116 2 (plD (letP nx nx' p L x))), (23, .map (wmD (letP nx nx' p L x)))]) (fun x => nx.length - x) 0 (by exact ⟨by omega, fun y h => by omega⟩) ?_ rfl ?_
        · refine ⟨rfl, rfl, rfl, rfl, rfl, rfl, ?_, rfl, trivial⟩
          exact congrArg (fun n : Nat => SV.d (.int .i64 n)) hle
        · rintro x ⟨hx, hb⟩
          have hokk := hokx x hx
          have hlenk := hokk.len hs.2 hs'.2
          have hplk := hpl (letP nx nx' p L x)
          by_cases hxl : x < nx.length
          · obtain ⟨t, ht⟩ := hpre x
            have hpi' : (letP nx nx' p L x)[i]? = some p := by rw [ht, List.getElem?_append_left hlt]; exact hp
            have hstep : letP nx nx' p L (x + 1) = addP (letP nx nx' p L x) (nxP nx nx' p.1 x) (p.2 ++ [(x : Int)]) := rfl
            obtain ⟨n1, n2, n3, n4⟩ := hnx x hxl
            have hget := wm_get hokk.nd hpi'
            have hnone := wm_none (c := nxP nx nx' p.1 x) (L := letP nx nx' p L x)
            have hput := wm_put (c := nxP nx nx' p.1 x) (w := p.2 ++ [(x : Int)]) (L := letP nx nx' p L x)
            have hkeys := wm_keys (letP nx nx' p L x)
            have hmet : nxP nx nx' p.1 x ∈ (letP nx nx' p L x).map (·.1) → ∃ (q : Nat × List Int) (j : Nat), (letP nx nx' p L x)[j]? = some q ∧ q.1 = nxP nx nx' p.1 x := fun h => by
              obtain ⟨q, hq, hq2⟩ := List.mem_map.1 h
              obtain ⟨j, hj, hj2⟩ := List.getElem_of_mem hq
              exact ⟨q, j, by rw [List.getElem?_eq_getElem hj, hj2], hq2⟩
            have hnd := hokk.nd
            generalize letP nx nx' p L x = K at *
            have hg1 : MGetP ((p.1 / 16 : Nat) : Int) ((p.1 % 16 : Nat) : Int) (wmD K) (some (ints p.2)) := ⟨hget⟩
            have e1 := hclo p.2 (by omega)
            have hx' : 0 ≤ (x : Int) ∧ (x : Int) < nx.length := by omega
            have ro1 := el_row2 (xs := ou) (l := (x : Int)) (by omega)
            have ro2 := el_row2 (xs := ou') (l := (x : Int)) (by omega)
            have rn1 := el_row2 (xs := nx) (l := (x : Int)) (by omega)
            have rn2 := el_row2 (xs := nx') (l := (x : Int)) (by omega)
            have l1 := tbl_row m.ou (l := (x : Int)) (by omega)
            have l2 := tbl_row m'.ou (l := (x : Int)) (by omega)
            have l3 := tbl_row m.nx (l := (x : Int)) (by omega)
            have l4 := tbl_row m'.nx (l := (x : Int)) (by omega)
            have eo1 : (List.map (D.int .i64) (row ou x))[((p.1 / 16 : Nat) : Int).toNat]? = some (.int .i64 (at2 ou x (p.1 / 16 : Nat))) := el_int2 (ns := row ou x) (q := ((p.1 / 16 : Nat) : Int)) (by omega)
            have eo2 : (List.map (D.int .i64) (row ou' x))[((p.1 % 16 : Nat) : Int).toNat]? = some (.int .i64 (at2 ou' x (p.1 % 16 : Nat))) := el_int2 (ns := row ou' x) (q := ((p.1 % 16 : Nat) : Int)) (by omega)
            have en1 : (List.map (D.int .i64) (row nx x))[((p.1 / 16 : Nat) : Int).toNat]? = some (.int .i64 (at2 nx x (p.1 / 16 : Nat))) := el_int2 (ns := row nx x) (q := ((p.1 / 16 : Nat) : Int)) (by omega)
            have en2 : (List.map (D.int .i64) (row nx' x))[((p.1 % 16 : Nat) : Int).toNat]? = some (.int .i64 (at2 nx' x (p.1 % 16 : Nat))) := el_int2 (ns := row nx' x) (q := ((p.1 % 16 : Nat) : Int)) (by omega)
            have hdx := hdf x
            have hwm : (p.2.map (D.int .i64)).length = p.2.length := by simp
            repeat (first | refine awp_seq ?_ | refine then_n ?_ | refine then_r ?_ | refine then_x ?_ | refine block_n ?_ | refine block_r ?_ | refine block_x ?_ | refine u_y ?_ | refine loop_r ?_ | refine loop_x ?_ | refine awp_region ?_ | refine awpL_nil ?_ | refine awpQL_nil ?_ | refine awp_block ?_ | refine awp_skip ?_ | refine awp_exit ?_ | refine awp_label ?_ | refine u_dT ?_ | refine u_d ?_ | ((first | apply x_l | apply x_q | apply x_lr | apply x_qr); (focus (first | (apply wa_gotP; (iterate 10 (focus (first | exact rfl | (first | assumption | omega | (simp; omega) | (simp; done) | rfl))))))); exact rfl) | (apply v_x; (iterate 2 exact rfl); (focus (intro ok0 nw hle; (first | (apply wa_gotP; (iterate 10 (focus (first | exact rfl | (first | assumption | omega | (simp; omega) | (simp; done) | rfl)))))))); (iterate 2 exact rfl)) | refine u_l ?_ | refine u_o ?_ | refine u_q ?_ | refine u_lr ?_ | refine u_qr ?_ | refine u_ls ?_ | refine u_qs ?_ | refine u_t ?_ | refine u_f ?_ | refine v_s ?_ | refine v_o ?_ | refine v_on ?_ | refine v_og ?_ | refine v_q ?_ | refine v_sr ?_ | refine v_k ?_ | refine m_nil ?_)
            refine hcl [] [(30000, 500)] e1 ?_
            cases hd : difP ou ou' p.1 x
            · rw [hd] at hdx
              have hcd : (!decide (at2 ou x (p.1 / 16 : Nat) = at2 ou' x (p.1 % 16 : Nat))) = false := by simpa using hdx
              repeat (first | refine awp_seq ?_ | refine then_n ?_ | refine then_r ?_ | refine then_x ?_ | refine block_n ?_ | refine block_r ?_ | refine block_x ?_ | refine u_y ?_ | refine loop_r ?_ | refine loop_x ?_ | refine awp_region ?_ | refine awpL_nil ?_ | refine awpQL_nil ?_ | refine awp_block ?_ | refine awp_skip ?_ | refine awp_exit ?_ | refine awp_label ?_ | refine u_l ?_ | refine u_o ?_ | refine u_q ?_ | refine u_lr ?_ | refine u_qr ?_ | refine u_ls ?_ | refine u_qs ?_ | refine u_t ?_ | refine u_f ?_ | refine v_s ?_ | refine v_o ?_ | refine v_on ?_ | refine v_og ?_ | refine v_q ?_ | refine v_sr ?_ | refine v_k ?_ | refine m_nil ?_)
              refine awp_freeze 500 rfl rfl ?_
              refine u_d ?_
              repeat (first | refine awp_seq ?_ | refine then_n ?_ | refine then_r ?_ | refine then_x ?_ | refine block_n ?_ | refine block_r ?_ | refine block_x ?_ | refine u_y ?_ | refine loop_r ?_ | refine loop_x ?_ | refine awp_region ?_ | refine awpL_nil ?_ | refine awpQL_nil ?_ | refine awp_block ?_ | refine awp_skip ?_ | refine awp_exit ?_ | refine awp_label ?_ | refine u_l ?_ | refine u_o ?_ | refine u_q ?_ | refine u_lr ?_ | refine u_qr ?_ | refine u_ls ?_ | refine u_qs ?_ | refine u_t ?_ | refine u_f ?_ | refine v_s ?_ | refine v_o ?_ | refine v_on ?_ | refine v_og ?_ | refine v_q ?_ | refine v_sr ?_ | refine v_k ?_ | refine m_nil ?_)
              refine u_m [(19, [16]), (20, [16])] (.tk [16] [0, 1, 2, 3, 4, 5, 6, 7, 8, 9, 10, 11, 12, 13, 14, 15, 16, 17, 18] (.tk [] [19, 20] .done)) ?_
              repeat (first | refine awp_seq ?_ | refine then_n ?_ | refine then_r ?_ | refine then_x ?_ | refine block_n ?_ | refine block_r ?_ | refine block_x ?_ | refine u_y ?_ | refine loop_r ?_ | refine loop_x ?_ | refine awpL_nil ?_ | refine awpQL_nil ?_ | refine awp_block ?_ | refine awp_skip ?_ | refine awp_exit ?_ | refine awp_label ?_ | refine u_dT ?_ | refine u_d ?_ | refine u_l ?_ | refine u_o ?_ | refine u_q ?_ | refine u_lr ?_ | refine u_qr ?_ | refine u_ls ?_ | refine u_qs ?_ | refine u_t ?_ | refine u_f ?_ | refine v_s ?_ | refine v_o ?_ | refine v_on ?_ | refine v_og ?_ | refine v_q ?_ | refine v_sr ?_ | refine v_k ?_ | refine m_nil ?_)
              refine awp_freezeB 16 rfl rfl rfl ?_
              by_cases hmem : nxP nx nx' p.1 x ∈ K.map (·.1)
              · obtain ⟨q, j, hj1, hj2⟩ := hmet hmem
                have hg2 := wm_get hnd hj1
                rw [hj2, n1, n2] at hg2
                have hg2' : MGetP (at2 nx x (p.1 / 16 : Nat)) (at2 nx' x (p.1 % 16 : Nat)) (wmD K) (some (ints q.2)) := ⟨hg2⟩
                have hadd : addP K (nxP nx nx' p.1 x) (p.2 ++ [(x : Int)]) = K := if_pos hmem
                rw [hadd] at hstep
                repeat (first | refine awp_seq ?_ | refine then_n ?_ | refine then_r ?_ | refine then_x ?_ | refine block_n ?_ | refine block_r ?_ | refine block_x ?_ | refine u_y ?_ | refine loop_r ?_ | refine loop_x ?_ | refine awp_region ?_ | refine awpL_nil ?_ | refine awpQL_nil ?_ | refine awp_block ?_ | refine awp_skip ?_ | refine awp_exit ?_ | refine awp_label ?_ | refine u_dT ?_ | refine u_d ?_ | ((first | apply x_l | apply x_q | apply x_lr | apply x_qr); (focus (first | (apply wa_gotP; (iterate 10 (focus (first | exact rfl | (first | assumption | omega | (simp; omega) | (simp; done) | rfl))))))); exact rfl) | (apply v_x; (iterate 2 exact rfl); (focus (intro ok0 nw hle; (first | (apply wa_gotP; (iterate 10 (focus (first | exact rfl | (first | assumption | omega | (simp; omega) | (simp; done) | rfl)))))))); (iterate 2 exact rfl)) | refine u_l ?_ | refine u_o ?_ | refine u_q ?_ | refine u_lr ?_ | refine u_qr ?_ | refine u_ls ?_ | refine u_qs ?_ | refine u_t ?_ | refine u_f ?_ | refine v_s ?_ | refine v_o ?_ | refine v_on ?_ | refine v_og ?_ | refine v_q ?_ | refine v_sr ?_ | refine v_k ?_ | refine m_nil ?_)
                refine loop_n (x + 1) ⟨by omega, fun y hy => ?_⟩ ?_ ?_ (by omega)
                · by_cases e : y = x
                  · subst e; exact hd
                  · exact hb y (by omega)
                · ((repeat (first | exact trivial | (refine ⟨?_, ?_⟩; (focus (first | rfl | (simp [lk, argsS, args0]; done) | (simp [lk, argsS, args0]; omega)))))))
                · rw [hstep]; rfl
              · have hg2 := hnone hmem
                rw [n1, n2] at hg2
                have hg2' : MGetP (at2 nx x (p.1 / 16 : Nat)) (at2 nx' x (p.1 % 16 : Nat)) (wmD K) none := ⟨hg2⟩
                have hadd : addP K (nxP nx nx' p.1 x) (p.2 ++ [(x : Int)]) = K ++ [(nxP nx nx' p.1 x, p.2 ++ [(x : Int)])] := if_neg hmem
                rw [hadd] at hstep
                have hput' := hput hmem
                rw [n1, n2] at hput'
                have hpl2 : plD (K ++ [(nxP nx nx' p.1 x, p.2 ++ [(x : Int)])]) = plD K ++ [.agg [.int .i64 (at2 nx x (p.1 / 16 : Nat)), .int .i64 (at2 nx' x (p.1 % 16 : Nat))]] := by
                  have : prD (nxP nx nx' p.1 x) = .agg [.int .i64 (at2 nx x (p.1 / 16 : Nat)), .int .i64 (at2 nx' x (p.1 % 16 : Nat))] := by
                    unfold prD pairD
                    rw [n1, n2]
                  simp [plD, this]
                repeat (first | refine awp_seq ?_ | refine then_n ?_ | refine then_r ?_ | refine then_x ?_ | refine block_n ?_ | refine block_r ?_ | refine block_x ?_ | refine u_y ?_ | refine loop_r ?_ | refine loop_x ?_ | refine awp_region ?_ | refine awpL_nil ?_ | refine awpQL_nil ?_ | refine awp_block ?_ | refine awp_skip ?_ | refine awp_exit ?_ | refine awp_label ?_ | refine u_dT ?_ | refine u_d ?_ | ((first | apply x_l | apply x_q | apply x_lr | apply x_qr); (focus (first | (apply wa_gotP; (iterate 10 (focus (first | exact rfl | (first | assumption | omega | (simp; omega) | (simp; done) | rfl))))))); exact rfl) | (apply v_x; (iterate 2 exact rfl); (focus (intro ok0 nw hle; (first | (apply wa_gotP; (iterate 10 (focus (first | exact rfl | (first | assumption | omega | (simp; omega) | (simp; done) | rfl)))))))); (iterate 2 exact rfl)) | refine u_l ?_ | refine u_o ?_ | refine u_q ?_ | refine u_lr ?_ | refine u_qr ?_ | refine u_ls ?_ | refine u_qs ?_ | refine u_t ?_ | refine u_f ?_ | refine v_s ?_ | refine v_o ?_ | refine v_on ?_ | refine v_og ?_ | refine v_q ?_ | refine v_sr ?_ | refine v_k ?_ | refine m_nil ?_)
                (apply lto; (focus (apply wo_mapUpdateP; (iterate 6 exact rfl); exact pairIs; exact hkeys)))
                repeat (first | refine awp_seq ?_ | refine then_n ?_ | refine then_r ?_ | refine then_x ?_ | refine block_n ?_ | refine block_r ?_ | refine block_x ?_ | refine u_y ?_ | refine loop_r ?_ | refine loop_x ?_ | refine awp_region ?_ | refine awpL_nil ?_ | refine awpQL_nil ?_ | refine awp_block ?_ | refine awp_skip ?_ | refine awp_exit ?_ | refine awp_label ?_ | refine u_dT ?_ | refine u_d ?_ | refine u_l ?_ | refine u_o ?_ | refine u_q ?_ | refine u_lr ?_ | refine u_qr ?_ | refine u_ls ?_ | refine u_qs ?_ | refine u_t ?_ | refine u_f ?_ | refine v_s ?_ | refine v_o ?_ | refine v_on ?_ | refine v_og ?_ | refine v_q ?_ | refine v_sr ?_ | refine v_k ?_ | refine m_nil ?_)
                refine loop_n (x + 1) ⟨by omega, fun y hy => ?_⟩ ?_ ?_ (by omega)
                · by_cases e : y = x
                  · subst e; exact hd
                  · exact hb y (by omega)
                · ((repeat (first | exact trivial | (refine ⟨?_, ?_⟩; (focus (first | rfl | (simp [lk, argsS, args0]; done) | (simp [lk, argsS, args0]; omega)))))))
                · have hints : ints (p.2 ++ [(x : Int)]) = D.lst (p.2.map (.int .i64) ++ [.int .i64 (x : Int)]) := by simp [ints]
                  rw [hstep, hpl2, ← hput', hints]
                  rfl
            · rw [hd] at hdx
              have hcd : (!decide (at2 ou x (p.1 / 16 : Nat) = at2 ou' x (p.1 % 16 : Nat))) = true := by simpa using hdx.symm
              have hR := hhit x hxl hd hb
              subst hR
              repeat (first | refine awp_seq ?_ | refine then_n ?_ | refine then_r ?_ | refine then_x ?_ | refine block_n ?_ | refine block_r ?_ | refine block_x ?_ | refine u_y ?_ | refine loop_r ?_ | refine loop_x ?_ | refine awp_region ?_ | refine awpL_nil ?_ | refine awpQL_nil ?_ | refine awp_block ?_ | refine awp_skip ?_ | refine awp_exit ?_ | refine awp_label ?_ | refine u_dT ?_ | refine u_d ?_ | refine u_l ?_ | refine u_o ?_ | refine u_q ?_ | refine u_lr ?_ | refine u_qr ?_ | refine u_ls ?_ | refine u_qs ?_ | refine u_t ?_ | refine u_f ?_ | refine v_s ?_ | refine v_o ?_ | refine v_on ?_ | refine v_og ?_ | refine v_q ?_ | refine v_sr ?_ | refine v_k ?_ | refine m_nil ?_)
              (refine awp_ret ?_; (repeat (first | refine then_r ?_ | refine block_r ?_ | refine loop_r ?_)); apply ret_ok (.inr rfl); (focus exact rfl))
              simp [ints]
          · have : x = nx.length := by omega
            subst this
            have hiI := hgo hb
            rw [← hnext]
            repeat (first | refine awp_seq ?_ | refine then_n ?_ | refine then_r ?_ | refine then_x ?_ | refine block_n ?_ | refine block_r ?_ | refine block_x ?_ | refine u_y ?_ | refine loop_r ?_ | refine loop_x ?_ | refine awp_region ?_ | refine awpL_nil ?_ | refine awpQL_nil ?_ | refine awp_block ?_ | refine awp_skip ?_ | refine awp_exit ?_ | refine awp_label ?_ | refine u_dT ?_ | refine u_d ?_ | refine u_l ?_ | refine u_o ?_ | refine u_q ?_ | refine u_lr ?_ | refine u_qr ?_ | refine u_ls ?_ | refine u_qs ?_ | refine u_t ?_ | refine u_f ?_ | refine v_s ?_ | refine v_o ?_ | refine v_on ?_ | refine v_og ?_ | refine v_q ?_ | refine v_sr ?_ | refine v_k ?_ | refine m_nil ?_)
            refine loop_n (i + 1) (by omega) ?_ rfl (by omega)
            ((repeat (first | exact trivial | (refine ⟨?_, ?_⟩; (focus (first | rfl | (simp [lk, argsS, args0]; done) | (simp [lk, argsS, args0]; omega)))))))
      · have hR := srch_end hS hi (by omega)
        subst hR
        repeat (first | refine awp_seq ?_ | refine then_n ?_ | refine then_r ?_ | refine then_x ?_ | refine block_n ?_ | refine block_r ?_ | refine block_x ?_ | refine u_y ?_ | refine loop_r ?_ | refine loop_x ?_ | refine awp_region ?_ | refine awpL_nil ?_ | refine awpQL_nil ?_ | refine awp_block ?_ | refine awp_skip ?_ | refine awp_exit ?_ | refine awp_label ?_ | refine u_dT ?_ | refine u_d ?_ | refine u_l ?_ | refine u_o ?_ | refine u_q ?_ | refine u_lr ?_ | refine u_qr ?_ | refine u_ls ?_ | refine u_qs ?_ | refine u_t ?_ | refine u_f ?_ | refine v_s ?_ | refine v_o ?_ | refine v_on ?_ | refine v_og ?_ | refine v_q ?_ | refine v_sr ?_ | refine v_k ?_ | refine m_nil ?_)
        refine awp_nilSlot 8 7777 2 1 rfl rfl rfl ?_
        (refine awp_ret ?_; (repeat (first | refine then_r ?_ | refine block_r ?_ | refine loop_r ?_)); apply ret_ok (.inr rfl); (focus exact rfl))
        rfl
end Go.Proofs.Ythcaccakbmooeaa
