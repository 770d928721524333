/- StateCover in the program, and its law. No condition. -/
import Derived.Test.YtfemhnmggobhjaaIb
import Derived.Test.YtfemhnmggobhjaaFwZa
namespace Go.Proofs.Ytfemhnmggobhjaa
open Go
attribute [local irreducible] awp awpL awpQL awpQ awpM pWalk Qt AC thenQ blockQ loopQ OpTo
set_option linter.unusedVariables false
set_option linter.unusedSimpArgs false
set_option maxHeartbeats 2000000
attribute [local irreducible] HC HX

theorem rws_wrd (L : PL) : rws (wrd L) = L.map fun p => p.2.map (.int .i64) := by simp [rws, wrd]
theorem tags_noneC {n : Nat} {bs : List (Option Nat)} {xs : List (List Int)} {i : Nat} {w : List Int} (T : Tags n bs (rws xs)) (hx : xs[i]? = some w) (hb : bs[i]? = some none) : w.map (D.int .i64) = [] := by
  have := T.emp i hb
  rw [show (rws xs)[i]? = some (w.map (.int .i64)) by simp [rws, hx]] at this
  exact Option.some.inj this
theorem wrd_snoc (L : PL) (c : Nat) (w : List Int) : rws (wrd (L ++ [(c, w)])) = rws (wrd L) ++ [w.map (.int .i64)] := by simp [rws, wrd]
theorem wrd_len (L : PL) : (rws (wrd L)).length = L.length := by simp [rws, wrd]
theorem ordD_snoc (L : PL) (c : Nat) (w : List Int) : ordD (L ++ [(c, w)]) = ordD L ++ [.int .i64 (c : Nat)] := by simp [ordD]

theorem impl_firstWords {s o : Int} {nx ou : List (List Int)} (m : MV s o nx ou) :
    HX Try.prog 50 [.d (mach s o nx ou)] [] (ι := List (Option Nat)) (fun n bs => Tags n bs (rws (wrd (covL nx)))) (fun _ => .tup [.own 30000, .own 30001]) (fun bs => [(30000, .arr 2 1 (ordD (covL nx))), (30001, .map (kvC 2 bs (covL nx)))]) := by
  have hs := m.s1
  have hn := m.n1
  have hle : (List.map ints nx).length = nx.length := by simp
  have hlen := fun i => lstC_len m i
  have hokk := fun i => lstC_ok m i
  have hrl := fun l (hl : 0 ≤ l ∧ l < (nx.length : Int)) => tbl_row m.nx hl
  unfold mach
  refine hx_intro tabIs _ Try.func50 rfl rfl Try.ntmps50 rfl rfl rfl ?_ fun w0 ok0 XM XA anc => ?_
  · exact fun _ => likeIn_nil
  repeat (first | refine v_w (t := 14) ?_ | refine v_w (t := 12) ?_ | refine awp_seq ?_ | refine then_n ?_ | refine then_r ?_ | refine then_x ?_ | refine block_n ?_ | refine block_r ?_ | refine block_x ?_ | refine u_y ?_ | refine loop_r ?_ | refine loop_x ?_ | refine awp_region ?_ | refine awpL_nil ?_ | refine awpQL_nil ?_ | refine awp_block ?_ | refine awp_skip ?_ | refine awp_exit ?_ | refine awp_label ?_ | refine u_dT ?_ | refine u_d ?_ | refine u_w (t := 12) ?_ | refine u_w (t := 14) ?_ | refine u_l ?_ | refine u_o ?_ | refine u_q ?_ | refine u_lr ?_ | refine u_qr ?_ | refine u_ls ?_ | refine u_qs ?_ | refine u_t ?_ | refine u_f ?_ | refine v_s ?_ | refine v_o ?_ | refine v_on ?_ | refine v_og ?_ | refine v_q ?_ | refine v_sr ?_ | refine v_k ?_ | refine m_nil ?_)
  refine awpL_tagFirst 14 rfl rfl fun ob T0 => ?_
  (apply lto; (focus (apply wo_mapInsert; (iterate 9 exact rfl))))
  repeat (first | refine awp_seq ?_ | refine then_n ?_ | refine then_r ?_ | refine then_x ?_ | refine block_n ?_ | refine block_r ?_ | refine block_x ?_ | refine u_y ?_ | refine loop_r ?_ | refine loop_x ?_ | refine awp_region ?_ | refine awpL_nil ?_ | refine awpQL_nil ?_ | refine awp_block ?_ | refine awp_skip ?_ | refine awp_exit ?_ | refine awp_label ?_ | refine u_dT ?_ | refine u_d ?_ | refine u_l ?_ | refine u_o ?_ | refine u_q ?_ | refine u_lr ?_ | refine u_qr ?_ | refine u_ls ?_ | refine u_qs ?_ | refine u_t ?_ | refine u_f ?_ | refine v_s ?_ | refine v_o ?_ | refine v_on ?_ | refine v_og ?_ | refine v_q ?_ | refine v_sr ?_ | refine v_k ?_ | refine m_nil ?_)
  refine awp_permTo [(12, .arr 2 1 (ordD (lstC nx 0))), (13, .map (kvC 2 [ob] (lstC nx 0)))] (by as_aux_lemma => kernel_rfl) ?_
  refine awp_loop (fun q : Nat × List (Option Nat) => q.1 ≤ 10 ∧ Tags w0.heap.size q.2 (rws (wrd (lstC nx q.1)))) (fun q => [(1, .d (.ptr (.agg [.int .i64 s, .int .i64 o, rows nx, rows ou]))), (4, .own 12), (5, .own 13), (6, .d (.int .i64 q.1))])
    (fun q => [(12, .arr 2 1 (ordD (lstC nx q.1))), (13, .map (kvC 2 q.2 (lstC nx q.1)))]) (fun q => 10 - q.1) (0, [ob]) ⟨Nat.zero_le _, T0⟩ ?_ rfl ?_
  · ((repeat (first | exact trivial | (refine ⟨?_, ?_⟩; (focus (first | rfl | (simp [lk, argsS, args0]; done) | (simp [lk, argsS, args0]; omega)))))))
  · rintro ⟨i, bs⟩ ⟨hi, T⟩
    dsimp only at hi T ⊢
    have hl := hlen i
    have hlo : (ordD (lstC nx i)).length = (lstC nx i).length := by simp [ordD]
    by_cases hlt : i < (lstC nx i).length
    · have hp : (lstC nx i)[i]? = some (lstC nx i)[i] := List.getElem?_eq_getElem hlt
      have hpm : (lstC nx i)[i] ∈ lstC nx i := List.getElem_mem hlt
      have hnx := lstC_next hp
      have hlo0 := (hokk i).lt _ hpm
      have hwl := (hokk i).wl _ hpm
      have hok := letC_ok m (hokk i) hpm
      have hpre := letC_pre nx (lstC nx i)[i] (lstC nx i)
      generalize (lstC nx i)[i] = p at *
      have x0 : (ordD (lstC nx i))[(i : Int).toNat]? = some (.int .i64 (p.1 : Nat)) := by rw [Int.toNat_natCast]; simp [ordD, hp]
      repeat (first | refine awp_seq ?_ | refine then_n ?_ | refine then_r ?_ | refine then_x ?_ | refine block_n ?_ | refine block_r ?_ | refine block_x ?_ | refine u_y ?_ | refine loop_r ?_ | refine loop_x ?_ | refine awp_region ?_ | refine awpL_nil ?_ | refine awpQL_nil ?_ | refine awp_block ?_ | refine awp_skip ?_ | refine awp_exit ?_ | refine awp_label ?_ | refine u_dT ?_ | refine u_d ?_ | refine u_l ?_ | refine u_o ?_ | refine u_q ?_ | refine u_lr ?_ | refine u_qr ?_ | refine u_ls ?_ | refine u_qs ?_ | refine u_t ?_ | refine u_f ?_ | refine v_s ?_ | refine v_o ?_ | refine v_on ?_ | refine v_og ?_ | refine v_q ?_ | refine v_sr ?_ | refine v_k ?_ | refine m_nil ?_)
      refine awp_loop (fun q : Nat × List (Option Nat) => q.1 ≤ nx.length ∧ Tags w0.heap.size q.2 (rws (wrd (letC nx p (lstC nx i) q.1)))) (fun q => [(1, .d (.ptr (.agg [.int .i64 s, .int .i64 o, rows nx, rows ou]))), (4, .own 12), (5, .own 13), (6, .d (.int .i64 i)), (7, .d (.int .i64 (p.1 : Nat))), (27, .d (rows nx)), (28, .d (.int .i64 (List.map ints nx).length)), (29, .d (.int .i64 q.1))])
        (fun q => [(12, .arr 2 1 (ordD (letC nx p (lstC nx i) q.1))), (13, .map (kvC 2 q.2 (letC nx p (lstC nx i) q.1)))]) (fun q => nx.length - q.1) (0, bs) ⟨Nat.zero_le _, T⟩ ?_ rfl ?_
      · ((repeat (first | exact trivial | (refine ⟨?_, ?_⟩; (focus (first | rfl | (simp [lk, argsS, args0]; done) | (simp [lk, argsS, args0]; omega)))))))
      · rintro ⟨k, cs⟩ ⟨hk, T2⟩
        dsimp only at hk T2 ⊢
        have hokk2 := hok k hk
        have hlk := hokk2.len hs
        obtain ⟨t, ht⟩ := hpre k
        have hpk : (letC nx p (lstC nx i) k)[i]? = some p := by rw [ht, List.getElem?_append_left hlt]; exact hp
        have hTl := T2.len
        rw [wrd_len] at hTl
        by_cases hkn : k < nx.length
        · have hst : letC nx p (lstC nx i) (k + 1) = addP (letC nx p (lstC nx i) k) (nxC nx p.1 k) (p.2 ++ [(k : Int)]) := rfl
          obtain ⟨c1, c2, c3⟩ := nxC_ok m (c := p.1) hkn hlo0
          have hiL : i < (letC nx p (lstC nx i) k).length := by rw [ht, List.length_append]; omega
          generalize letC nx p (lstC nx i) k = L at *
          have hlL : (ordD L).length = L.length := by simp [ordD]
          have x1 := el_row2 (xs := nx) (l := (k : Int)) (by omega)
          have hr := hrl (k : Int) (by omega)
          have x2 := el_int2 (ns := row nx (k : Int)) (q := ((p.1 : Nat) : Int)) (by omega)
          have hat : (row nx (k : Int)).getD ((p.1 : Nat) : Int).toNat 0 = ((nxC nx p.1 k : Nat) : Int) := by rw [c1]; rfl
          rw [hat] at x2
          generalize nxC nx p.1 k = c at *
          have hkeys : keysI .i64 (kvC 2 cs L) = true := kvC_keys cs L
          by_cases hm : c ∈ L.map (·.1)
          · rw [addP_old hm] at hst
            obtain ⟨q, hq, hqe⟩ := List.mem_map.1 hm
            obtain ⟨j, hj, e⟩ := List.getElem_of_mem hq
            have hLj : L[j]? = some q := by rw [List.getElem?_eq_getElem hj, e]
            have hg : MGt ((c : Nat) : Int) (kvC 2 cs L) (some (tagD 2 1 (cs[j]'(by omega)) (q.2.map (.int .i64)))) := ⟨by rw [← hqe]; exact kvC_get cs L j _ q hokk2.nd (List.getElem?_eq_getElem (by omega)) hLj⟩
            repeat (first | refine awp_seq ?_ | refine then_n ?_ | refine then_r ?_ | refine then_x ?_ | refine block_n ?_ | refine block_r ?_ | refine block_x ?_ | refine u_y ?_ | refine loop_r ?_ | refine loop_x ?_ | refine awp_region ?_ | refine awpL_nil ?_ | refine awpQL_nil ?_ | refine awp_block ?_ | refine awp_skip ?_ | refine awp_exit ?_ | refine awp_label ?_ | refine u_dT ?_ | refine u_d ?_ | ((first | apply x_l | apply x_q | apply x_lr | apply x_qr); (focus (first | (apply wa_gt; (iterate 11 (focus (first | exact rfl | (first | assumption | omega | (simp; omega) | (simp; done) | rfl))))))); exact rfl) | (apply v_x; (iterate 2 exact rfl); (focus (intro ok0 nw hle; (first | (apply wa_gt; (iterate 11 (focus (first | exact rfl | (first | assumption | omega | (simp; omega) | (simp; done) | rfl)))))))); (iterate 2 exact rfl)) | refine u_l ?_ | refine u_o ?_ | refine u_q ?_ | refine u_lr ?_ | refine u_qr ?_ | refine u_ls ?_ | refine u_qs ?_ | refine u_t ?_ | refine u_f ?_ | refine v_s ?_ | refine v_o ?_ | refine v_on ?_ | refine v_og ?_ | refine v_q ?_ | refine v_sr ?_ | refine v_k ?_ | refine m_nil ?_)
            refine loop_n (k + 1, cs) ⟨by show k + 1 ≤ _; omega, by rw [hst]; exact T2⟩ ?_ ?_ (by show _ - (k + 1) < _ - k; omega)
            · ((repeat (first | exact trivial | (refine ⟨?_, ?_⟩; (focus (first | rfl | (simp [lk, argsS, args0]; done) | (simp [lk, argsS, args0]; omega)))))))
            · show [_, _] = _
              rw [hst]
          · rw [addP_new hm] at hst
            have hg : MGt ((c : Nat) : Int) (kvC 2 cs L) none := ⟨kvC_none cs L hm⟩
            have hb2 : cs[i]? = some (cs[i]'(by omega)) := List.getElem?_eq_getElem (by omega)
            have hg2 : MGt ((p.1 : Nat) : Int) (kvC 2 cs L) (some (tagD 2 1 (cs[i]'(by omega)) (p.2.map (.int .i64)))) := ⟨kvC_get cs L i _ p hokk2.nd hb2 hpk⟩
            have hbn : cs[i]'(by omega) = none → p.2.map (D.int .i64) = [] := fun hn => tags_noneC (xs := wrd L) (i := i) T2 (by simp [wrd, hpk]) (by rw [hb2, hn])
            have e2 := HC.le1 (impl_cloneH (ns := p.2) (by omega)) (tagD_le (e := 2) (sz := 1) hbn)
            have hmt := kvC_tags (e := 2) cs L (by omega)
            generalize cs[i]'(by omega) = b at *
            have hw : (p.2 ++ [(k : Int)]).map (D.int .i64) = p.2.map (D.int .i64) ++ [.int .i64 k] := by simp
            have hwb : (p.2.map (D.int .i64)).length + 1 ≤ 1099511627776 := by simp; omega
            repeat (first | refine awp_seq ?_ | refine then_n ?_ | refine then_r ?_ | refine then_x ?_ | refine block_n ?_ | refine block_r ?_ | refine block_x ?_ | refine u_y ?_ | refine loop_r ?_ | refine loop_x ?_ | refine awp_region ?_ | refine awpL_nil ?_ | refine awpQL_nil ?_ | refine awp_block ?_ | refine awp_skip ?_ | refine awp_exit ?_ | refine awp_label ?_ | ((first | apply x_l | apply x_q | apply x_lr | apply x_qr); (focus (first | (apply wa_gt; (iterate 11 (focus (first | exact rfl | (first | assumption | omega | (simp; omega) | (simp; done) | rfl))))))); exact rfl) | (apply v_x; (iterate 2 exact rfl); (focus (intro ok0 nw hle; (first | (apply wa_gt; (iterate 11 (focus (first | exact rfl | (first | assumption | omega | (simp; omega) | (simp; done) | rfl)))))))); (iterate 2 exact rfl)) | refine u_l ?_ | refine u_o ?_ | refine u_q ?_ | refine u_lr ?_ | refine u_qr ?_ | refine u_ls ?_ | refine u_qs ?_ | refine u_t ?_ | refine u_f ?_ | refine v_s ?_ | refine v_o ?_ | refine v_on ?_ | refine v_og ?_ | refine v_q ?_ | refine v_sr ?_ | refine v_k ?_ | refine m_nil ?_)
            refine awp_planT 12 [(8, [500]), (11, [500])] (.tk [500] [0, 1, 2, 3, 4, 5, 6, 7, 9, 10] (.tk [] [8, 11] .done)) mixedIs (by as_aux_lemma => kernel_rfl) rfl ?_
            repeat (first | refine awp_seq ?_ | refine then_n ?_ | refine then_r ?_ | refine then_x ?_ | refine block_n ?_ | refine block_r ?_ | refine block_x ?_ | refine u_y ?_ | refine loop_r ?_ | refine loop_x ?_ | refine awp_region ?_ | refine awpL_nil ?_ | refine awpQL_nil ?_ | refine awp_block ?_ | refine awp_skip ?_ | refine awp_exit ?_ | refine awp_label ?_ | refine u_dT ?_ | refine u_d ?_ | ((first | apply x_l | apply x_q | apply x_lr | apply x_qr); (focus (first | (apply wa_gt; (iterate 11 (focus (first | exact rfl | (first | assumption | omega | (simp; omega) | (simp; done) | rfl))))))); exact rfl) | (apply v_x; (iterate 2 exact rfl); (focus (intro ok0 nw hle; (first | (apply wa_gt; (iterate 11 (focus (first | exact rfl | (first | assumption | omega | (simp; omega) | (simp; done) | rfl)))))))); (iterate 2 exact rfl)) | refine u_l ?_ | refine u_o ?_ | refine u_q ?_ | refine u_lr ?_ | refine u_qr ?_ | refine u_ls ?_ | refine u_qs ?_ | refine u_t ?_ | refine u_f ?_ | refine v_s ?_ | refine v_o ?_ | refine v_on ?_ | refine v_og ?_ | refine v_q ?_ | refine v_sr ?_ | refine v_k ?_ | refine m_nil ?_)
            refine hclM [] [(30000, 500)] e2 ?_
            repeat (first | refine awp_seq ?_ | refine then_n ?_ | refine then_r ?_ | refine then_x ?_ | refine block_n ?_ | refine block_r ?_ | refine block_x ?_ | refine u_y ?_ | refine loop_r ?_ | refine loop_x ?_ | refine awp_region ?_ | refine awpL_nil ?_ | refine awpQL_nil ?_ | refine awp_block ?_ | refine awp_skip ?_ | refine awp_exit ?_ | refine awp_label ?_ | refine u_dT ?_ | refine u_d ?_ | refine u_l ?_ | refine u_o ?_ | refine u_q ?_ | refine u_lr ?_ | refine u_qr ?_ | refine u_ls ?_ | refine u_qs ?_ | refine u_t ?_ | refine u_f ?_ | refine v_s ?_ | refine v_o ?_ | refine v_on ?_ | refine v_og ?_ | refine v_q ?_ | refine v_sr ?_ | refine v_k ?_ | refine m_nil ?_)
            refine awpL_tagMap 500 13 T2 rfl rfl hmt rfl fun ob' T3 => ?_
            (apply lto; (focus (apply wo_mapUpdate; (iterate 8 exact rfl); exact hkeys)))
            repeat (first | refine awp_seq ?_ | refine then_n ?_ | refine then_r ?_ | refine then_x ?_ | refine block_n ?_ | refine block_r ?_ | refine block_x ?_ | refine u_y ?_ | refine loop_r ?_ | refine loop_x ?_ | refine awpL_nil ?_ | refine awpQL_nil ?_ | refine awp_block ?_ | refine awp_skip ?_ | refine awp_exit ?_ | refine awp_label ?_ | refine u_dT ?_ | refine u_d ?_ | refine u_l ?_ | refine u_o ?_ | refine u_q ?_ | refine u_lr ?_ | refine u_qr ?_ | refine u_ls ?_ | refine u_qs ?_ | refine u_t ?_ | refine u_f ?_ | refine v_s ?_ | refine v_o ?_ | refine v_on ?_ | refine v_og ?_ | refine v_q ?_ | refine v_sr ?_ | refine v_k ?_ | refine m_nil ?_)
            refine awp_region ?_
            repeat (first | refine awp_seq ?_ | refine then_n ?_ | refine then_r ?_ | refine then_x ?_ | refine block_n ?_ | refine block_r ?_ | refine block_x ?_ | refine u_y ?_ | refine loop_r ?_ | refine loop_x ?_ | refine awpL_nil ?_ | refine awpQL_nil ?_ | refine awp_block ?_ | refine awp_skip ?_ | refine awp_exit ?_ | refine awp_label ?_ | refine u_dT ?_ | refine u_d ?_ | refine u_l ?_ | refine u_o ?_ | refine u_q ?_ | refine u_lr ?_ | refine u_qr ?_ | refine u_ls ?_ | refine u_qs ?_ | refine u_t ?_ | refine u_f ?_ | refine v_s ?_ | refine v_o ?_ | refine v_on ?_ | refine v_og ?_ | refine v_q ?_ | refine v_sr ?_ | refine v_k ?_ | refine m_nil ?_)
            refine awp_perm _ rfl ?_
            repeat (first | refine awp_seq ?_ | refine then_n ?_ | refine then_r ?_ | refine then_x ?_ | refine block_n ?_ | refine block_r ?_ | refine block_x ?_ | refine u_y ?_ | refine loop_r ?_ | refine loop_x ?_ | refine awp_region ?_ | refine awpL_nil ?_ | refine awpQL_nil ?_ | refine awp_block ?_ | refine awp_skip ?_ | refine awp_exit ?_ | refine awp_label ?_ | refine u_dT ?_ | refine u_d ?_ | refine u_l ?_ | refine u_o ?_ | refine u_q ?_ | refine u_lr ?_ | refine u_qr ?_ | refine u_ls ?_ | refine u_qs ?_ | refine u_t ?_ | refine u_f ?_ | refine v_s ?_ | refine v_o ?_ | refine v_on ?_ | refine v_og ?_ | refine v_q ?_ | refine v_sr ?_ | refine v_k ?_ | refine m_nil ?_)
            refine loop_n (k + 1, cs ++ [ob']) ⟨by show k + 1 ≤ _; omega, by rw [hst, wrd_snoc, hw]; exact T3⟩ ?_ ?_ (by show _ - (k + 1) < _ - k; omega)
            · ((repeat (first | exact trivial | (refine ⟨?_, ?_⟩; (focus (first | rfl | (simp [lk, argsS, args0]; done) | (simp [lk, argsS, args0]; omega)))))))
            · show [_, _] = _
              rw [hst, ordD_snoc, ← kvC_put cs L (by omega) hm, hw]
              rfl
        · have hke : k = nx.length := by omega
          subst hke
          repeat (first | refine awp_seq ?_ | refine then_n ?_ | refine then_r ?_ | refine then_x ?_ | refine block_n ?_ | refine block_r ?_ | refine block_x ?_ | refine u_y ?_ | refine loop_r ?_ | refine loop_x ?_ | refine awp_region ?_ | refine awpL_nil ?_ | refine awpQL_nil ?_ | refine awp_block ?_ | refine awp_skip ?_ | refine awp_exit ?_ | refine awp_label ?_ | refine u_dT ?_ | refine u_d ?_ | refine u_l ?_ | refine u_o ?_ | refine u_q ?_ | refine u_lr ?_ | refine u_qr ?_ | refine u_ls ?_ | refine u_qs ?_ | refine u_t ?_ | refine u_f ?_ | refine v_s ?_ | refine v_o ?_ | refine v_on ?_ | refine v_og ?_ | refine v_q ?_ | refine v_sr ?_ | refine v_k ?_ | refine m_nil ?_)
          refine loop_n (i + 1, cs) ⟨by show i + 1 ≤ _; omega, by rw [hnx]; exact T2⟩ ?_ ?_ (by show _ - (i + 1) < _ - i; omega)
          · ((repeat (first | exact trivial | (refine ⟨?_, ?_⟩; (focus (first | rfl | (simp [lk, argsS, args0]; done) | (simp [lk, argsS, args0]; omega)))))))
          · show [_, _] = _
            rw [hnx]
    · have hce := covL_eq m hi (by omega)
      rw [hce] at hlo hlt T ⊢
      repeat (first | refine awp_seq ?_ | refine then_n ?_ | refine then_r ?_ | refine then_x ?_ | refine block_n ?_ | refine block_r ?_ | refine block_x ?_ | refine u_y ?_ | refine loop_r ?_ | refine loop_x ?_ | refine awp_region ?_ | refine awpL_nil ?_ | refine awpQL_nil ?_ | refine awp_block ?_ | refine awp_skip ?_ | refine awp_exit ?_ | refine awp_label ?_ | refine u_dT ?_ | refine u_d ?_ | refine u_l ?_ | refine u_o ?_ | refine u_q ?_ | refine u_lr ?_ | refine u_qr ?_ | refine u_ls ?_ | refine u_qs ?_ | refine u_t ?_ | refine u_f ?_ | refine v_s ?_ | refine v_o ?_ | refine v_on ?_ | refine v_og ?_ | refine v_q ?_ | refine v_sr ?_ | refine v_k ?_ | refine m_nil ?_)
      (refine awp_ret ?_; (repeat (first | refine then_r ?_ | refine block_r ?_ | refine loop_r ?_)); refine ⟨bs, T, u_rH [(12, 30000), (13, 30001)] ?_ ?_⟩)
      · rfl
      · rfl
end Go.Proofs.Ytfemhnmggobhjaa
