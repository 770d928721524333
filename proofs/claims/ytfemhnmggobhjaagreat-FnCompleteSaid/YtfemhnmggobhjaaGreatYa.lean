/- The search for a word that tells two states apart, from any pair, in the program; what the word is. No condition. Printed by genya.py. -/
import Derived.Test.YtfemhnmggobhjaaGreatJa
import Derived.Test.YtfemhnmggobhjaaGreatNh
import Derived.Test.YtfemhnmggobhjaaGreatFwW
namespace Go.Proofs.YtfemhnmggobhjaaGreat
open Go
attribute [local irreducible] awp awpL awpQL awpQ awpM pWalk Qt AC thenQ blockQ loopQ OpTo
set_option linter.unusedVariables false
set_option linter.unusedSimpArgs false
set_option maxHeartbeats 2000000
attribute [local irreducible] HC
theorem impl_apartQ {s o s' o' : Int} {c0 : Nat} {nx ou nx' ou' : List (List Int)} {I : Nat} {R : List Int × Bool} (m : MV s o nx ou) (m' : MV s' o' nx' ou') (he : nx'.length = nx.length) (hc0 : ((c0 / 16 : Nat) : Int) < s /\ ((c0 % 16 : Nat) : Int) < s') (hS : Srq c0 nx ou nx' ou' I R) (hI : I <= 1000) :
    AC Tryz.prog 82 [mach s o nx ou, mach s' o' nx' ou', .int .i64 ((c0 / 16 : Nat) : Int), .int .i64 ((c0 % 16 : Nat) : Int)] (.tup [ints R.1, .bool R.2]) := by
  have hs := m.s1
  have hs' := m'.s1
  have hn := m.n1
  have heq := m.eq
  have heq' := m'.eq
  have hle : (List.map ints nx).length = nx.length := by simp
  have hok := fun i => lstQ_ok m m' he hc0 i
  have hpl : ∀ L : PL, (plD L).length = L.length := fun L => by simp [plD]
  have hclo : ∀ w : List Int, w.length <= 1048576 -> HC Tryz.prog 121 [.d (ints w)] [] (.own 30000) [(30000, .arr 2 1 (w.map (.int .i64)))] := fun w h => impl_cloneH h
  have hpi := pairIs
  refine ac_intro tabIs _ Tryz.func82 rfl rfl Tryz.ntmps82 rfl rfl fun w0 ok0 he0 => ?_
  repeat (first | refine zcn ?_ | refine zv ?_)
  refine u_mJ [(3, [22]), (4, [23]), (9, [23])] (.tk [22, 23] [0, 1, 2, 5, 6, 7, 8] (.fork 3 4 (.tk [] [4, 9] (.tk [22] [10] (.tk [23] [11] (.tk [] [12] .done)))) (.fork 3 9 (.tk [] [9] (.tk [22] [10] (.tk [23] [11] (.tk [] [12] .done)))) (.tk [22] [10] (.tk [] [3] (.tk [23] [11] (.tk [] [12] .done)))))))
    [(4, .d (.ptr (mach s o nx ou))), (5, .d (.ptr (mach s' o' nx' ou'))), (10, .own 22), (11, .own 23)]
    [(22, .arr 127 2 (plD (lstQ c0 nx nx' 0))), (23, .map (wmD (lstQ c0 nx nx' 0)))] ?_ ?_
  . repeat (first | refine zc ?_ | refine zv ?_)
    refine m_fork ?_ ?_
    . repeat (first | refine v_w (t := 22) ?_ | refine zc ?_ | refine u_w (t := 22) ?_ | refine zv ?_)
      refine v_on ?_ (ho := by (intro rest; apply wo_mapInsertP; (iterate 6 exact rfl); exact pairIs; exact rfl))
      repeat (first | refine zc ?_ | refine zv ?_)
      exact ⟨by exact zs, perm_of_sort rfl⟩
    . repeat (first | refine zc ?_ | refine zv ?_)
      refine m_fork ?_ ?_
      . repeat (first | refine v_w (t := 22) ?_ | refine zc ?_ | refine u_w (t := 22) ?_ | refine zv ?_)
        refine v_on ?_ (ho := by (intro rest; apply wo_mapInsertP; (iterate 6 exact rfl); exact pairIs; exact rfl))
        repeat (first | refine zc ?_ | refine zv ?_)
        exact ⟨by exact zs, perm_of_sort rfl⟩
      . refine v_on ?_ (ho := by (intro rest; apply wo_mapInsertP; (iterate 6 exact rfl); exact pairIs; exact rfl))
        repeat (first | refine v_w (t := 22) ?_ | refine zc ?_ | refine u_w (t := 22) ?_ | refine zv ?_)
        exact ⟨by exact zs, perm_of_sort rfl⟩
  . repeat (first | refine zc ?_ | refine zv ?_)
    refine awp_loop (fun i : Nat => i <= I) (fun i => [(4, .d (.ptr (mach s o nx ou))), (5, .d (.ptr (mach s' o' nx' ou'))), (10, .own 22), (11, .own 23), (12, .d (.int .i64 i))]) (fun i => [(22, .arr 127 2 (plD (lstQ c0 nx nx' i))), (23, .map (wmD (lstQ c0 nx nx' i)))]) (fun i => I + 1 - i) 0 (by omega) ?_ rfl ?_
    . exact zs
    . intro i hi
      have hoki := hok i
      have hlen := hoki.len hs.2 hs'.2
      have hpli := hpl (lstQ c0 nx nx' i)
      by_cases hlt : i < (lstQ c0 nx nx' i).length
      . obtain ⟨p, hp⟩ : ∃ p, (lstQ c0 nx nx' i)[i]? = some p := ⟨_, List.getElem?_eq_getElem hlt⟩
        have hnext := lstQ_next hp
        have hhit := fun x => srq_hit (x := x) hS hi hp
        have hgo := srq_go hS hi hp
        have hpm := List.mem_of_getElem? hp
        have hpl0 := hoki.lt p hpm
        have hwl := hoki.wl p hpm
        have hpre := letP_pre nx nx' p (lstQ c0 nx nx' i)
        have hokx := letP_ok m m' he hoki hpm
        have hel : (plD (lstQ c0 nx nx' i))[(i : Int).toNat]? = some (.agg [.int .i64 ((p.1 / 16 : Nat) : Int), .int .i64 ((p.1 % 16 : Nat) : Int)]) := by
          unfold plD
          rw [List.getElem?_map, Int.toNat_natCast, hp]
          rfl
        have hdf : ∀ x, difP ou ou' p.1 x = decide (¬ at2 ou x (p.1 / 16 : Nat) = at2 ou' x (p.1 % 16 : Nat)) := fun _ => rfl
        have hnx := fun x (hx : x < nx.length) => nxP_ok m m' he (c := p.1) (x := x) hx hpl0
        generalize hc : lstQ c0 nx nx' i = L at *
        have h0 : L = letP nx nx' p L 0 := rfl
        repeat (first | refine zc ?_ | ((first | apply x_l | apply x_q | apply x_lr | apply x_qr); (focus (first | (apply wa_loadEltA; (iterate 6 (focus (first | exact rfl | (first | assumption | omega | (simp; omega) | (simp; done) | rfl))))))); exact rfl) | (apply v_x; (iterate 2 exact rfl); (focus (intro ok0 nw hle; (first | (apply wa_loadEltA; (iterate 6 (focus (first | exact rfl | (first | assumption | omega | (simp; omega) | (simp; done) | rfl)))))))); (iterate 2 exact rfl)) | refine zv ?_)
        refine awp_freezeB 13 rfl rfl rfl ?_
        refine awp_perm [(22, .arr 127 2 (plD (letP nx nx' p L 0))), (23, .map (wmD (letP nx nx' p L 0)))] rfl ?_
        refine awp_loop (fun x : Nat => x <= nx.length /\ ∀ y, y < x -> difP ou ou' p.1 y = false) (fun x => [(4, .d (.ptr (mach s o nx ou))), (5, .d (.ptr (mach s' o' nx' ou'))), (10, .own 22), (11, .own 23), (12, .d (.int .i64 i)), (13, .d (.ptr (.agg [.int .i64 ((p.1 / 16 : Nat) : Int), .int .i64 ((p.1 % 16 : Nat) : Int)]))), (41, .d (.int .i64 nx.length)), (42, .d (.int .i64 x))])
          (fun x => [(22, .arr 127 2 (plD (letP nx nx' p L x))), (23, .map (wmD (letP nx nx' p L x)))]) (fun x => nx.length - x) 0 (by exact ⟨by omega, fun y h => by omega⟩) ?_ rfl ?_
        . refine ⟨rfl, rfl, rfl, rfl, rfl, rfl, ?_, rfl, trivial⟩
          exact congrArg (fun n : Nat => SV.d (.int .i64 n)) hle
        . rintro x ⟨hx, hb⟩
          have hokk := hokx x hx
          have hlenk := hokk.len hs.2 hs'.2
          have hplk := hpl (letP nx nx' p L x)
          by_cases hxl : x < nx.length
          . obtain ⟨t, ht⟩ := hpre x
            have hpi' : (letP nx nx' p L x)[i]? = some p := by rw [ht, List.getElem?_append_left hlt]; exact hp
            have hstep : letP nx nx' p L (x + 1) = addP (letP nx nx' p L x) (nxP nx nx' p.1 x) (p.2 ++ [(x : Int)]) := rfl
            obtain ⟨n1, n2, n3, n4⟩ := hnx x hxl
            have hget := wm_get hokk.nd hpi'
            have hnone := wm_none (c := nxP nx nx' p.1 x) (L := letP nx nx' p L x)
            have hput := wm_put (c := nxP nx nx' p.1 x) (w := p.2 ++ [(x : Int)]) (L := letP nx nx' p L x)
            have hkeys := wm_keys (letP nx nx' p L x)
            have hmet : nxP nx nx' p.1 x ∈ (letP nx nx' p L x).map (·.1) -> ∃ (q : Nat × List Int) (j : Nat), (letP nx nx' p L x)[j]? = some q /\ q.1 = nxP nx nx' p.1 x := fun h => by
              obtain ⟨q, hq, hq2⟩ := List.mem_map.1 h
              obtain ⟨j, hj, hj2⟩ := List.getElem_of_mem hq
              exact ⟨q, j, by rw [List.getElem?_eq_getElem hj, hj2], hq2⟩
            have hnd := hokk.nd
            generalize letP nx nx' p L x = K at *
            have hg1 : MGetP ((p.1 / 16 : Nat) : Int) ((p.1 % 16 : Nat) : Int) (wmD K) (some (ints p.2)) := ⟨hget⟩
            have e1 := hclo p.2 (by omega)
            have hx' : 0 <= (x : Int) /\ (x : Int) < nx.length := by omega
            have ro1 := el_row2 (xs := ou) (l := (x : Int)) (by omega)
            have ro2 := el_row2 (xs := ou') (l := (x : Int)) (by omega)
            have rn1 := el_row2 (xs := nx) (l := (x : Int)) (by omega)
            have rn2 := el_row2 (xs := nx') (l := (x : Int)) (by omega)
            have l1 := tbl_row m.ou (l := (x : Int)) (by omega)
            have l2 := tbl_row m'.ou (l := (x : Int)) (by omega)
            have l3 := tbl_row m.nx (l := (x : Int)) (by omega)
            have l4 := tbl_row m'.nx (l := (x : Int)) (by omega)
            have eo1 : (List.map (D.int .i64) (row ou x))[((p.1 / 16 : Nat) : Int).toNat]? = some (.int .i64 (at2 ou x (p.1 / 16 : Nat))) := el_int2 (ns := row ou x) (q := ((p.1 / 16 : Nat) : Int)) (by omega)
            have eo2 : (List.map (D.int .i64) (row ou' x))[((p.1 % 16 : Nat) : Int).toNat]? = some (.int .i64 (at2 ou' x (p.1 % 16 : Nat))) := el_int2 (ns := row ou' x) (q := ((p.1 % 16 : Nat) : Int)) (by omega)
            have en1 : (List.map (D.int .i64) (row nx x))[((p.1 / 16 : Nat) : Int).toNat]? = some (.int .i64 (at2 nx x (p.1 / 16 : Nat))) := el_int2 (ns := row nx x) (q := ((p.1 / 16 : Nat) : Int)) (by omega)
            have en2 : (List.map (D.int .i64) (row nx' x))[((p.1 % 16 : Nat) : Int).toNat]? = some (.int .i64 (at2 nx' x (p.1 % 16 : Nat))) := el_int2 (ns := row nx' x) (q := ((p.1 % 16 : Nat) : Int)) (by omega)
            have hdx := hdf x
            have hwm : (p.2.map (D.int .i64)).length = p.2.length := by simp
            repeat (first | refine zc ?_ | ((first | apply x_l | apply x_q | apply x_lr | apply x_qr); (focus (first | (apply wa_gotP; (iterate 10 (focus (first | exact rfl | (first | assumption | omega | (simp; omega) | (simp; done) | rfl))))))); exact rfl) | (apply v_x; (iterate 2 exact rfl); (focus (intro ok0 nw hle; (first | (apply wa_gotP; (iterate 10 (focus (first | exact rfl | (first | assumption | omega | (simp; omega) | (simp; done) | rfl)))))))); (iterate 2 exact rfl)) | refine zv ?_)
            refine hcl [] [(30000, 500)] e1 ?_
            cases hd : difP ou ou' p.1 x
            . rw [hd] at hdx
              have hcd : (!decide (at2 ou x (p.1 / 16 : Nat) = at2 ou' x (p.1 % 16 : Nat))) = false := by simpa using hdx
              repeat (first | refine zcn ?_ | refine zv ?_)
              refine awp_freeze 500 rfl rfl ?_
              refine u_d ?_
              repeat (first | refine zcn ?_ | refine zv ?_)
              refine u_m [(19, [16]), (20, [16])] (.tk [16] [0, 1, 2, 3, 4, 5, 6, 7, 8, 9, 10, 11, 12, 13, 14, 15, 16, 17, 18] (.tk [] [19, 20] .done)) ?_
              repeat (first | refine zcr ?_ | refine zv ?_)
              refine awp_freezeB 16 rfl rfl rfl ?_
              by_cases hmem : nxP nx nx' p.1 x ∈ K.map (·.1)
              . obtain ⟨q, j, hj1, hj2⟩ := hmet hmem
                have hg2 := wm_get hnd hj1
                rw [hj2, n1, n2] at hg2
                have hg2' : MGetP (at2 nx x (p.1 / 16 : Nat)) (at2 nx' x (p.1 % 16 : Nat)) (wmD K) (some (ints q.2)) := ⟨hg2⟩
                have hadd : addP K (nxP nx nx' p.1 x) (p.2 ++ [(x : Int)]) = K := if_pos hmem
                rw [hadd] at hstep
                repeat (first | refine zc ?_ | ((first | apply x_l | apply x_q | apply x_lr | apply x_qr); (focus (first | (apply wa_gotP; (iterate 10 (focus (first | exact rfl | (first | assumption | omega | (simp; omega) | (simp; done) | rfl))))))); exact rfl) | (apply v_x; (iterate 2 exact rfl); (focus (intro ok0 nw hle; (first | (apply wa_gotP; (iterate 10 (focus (first | exact rfl | (first | assumption | omega | (simp; omega) | (simp; done) | rfl)))))))); (iterate 2 exact rfl)) | refine zv ?_)
                refine loop_n (x + 1) ⟨by omega, fun y hy => ?_⟩ ?_ ?_ (by omega)
                . by_cases e : y = x
                  . subst e; exact hd
                  . exact hb y (by omega)
                . exact zs
                . rw [hstep]; rfl
              . have hg2 := hnone hmem
                rw [n1, n2] at hg2
                have hg2' : MGetP (at2 nx x (p.1 / 16 : Nat)) (at2 nx' x (p.1 % 16 : Nat)) (wmD K) none := ⟨hg2⟩
                have hadd : addP K (nxP nx nx' p.1 x) (p.2 ++ [(x : Int)]) = K ++ [(nxP nx nx' p.1 x, p.2 ++ [(x : Int)])] := if_neg hmem
                rw [hadd] at hstep
                have hput' := hput hmem
                rw [n1, n2] at hput'
                have hpl2 : plD (K ++ [(nxP nx nx' p.1 x, p.2 ++ [(x : Int)])]) = plD K ++ [.agg [.int .i64 (at2 nx x (p.1 / 16 : Nat)), .int .i64 (at2 nx' x (p.1 % 16 : Nat))]] := by
                  have : prD (nxP nx nx' p.1 x) = .agg [.int .i64 (at2 nx x (p.1 / 16 : Nat)), .int .i64 (at2 nx' x (p.1 % 16 : Nat))] := by
                    unfold prD pairD
                    rw [n1, n2]
                  simp [plD, this]
                repeat (first | refine zc ?_ | ((first | apply x_l | apply x_q | apply x_lr | apply x_qr); (focus (first | (apply wa_gotP; (iterate 10 (focus (first | exact rfl | (first | assumption | omega | (simp; omega) | (simp; done) | rfl))))))); exact rfl) | (apply v_x; (iterate 2 exact rfl); (focus (intro ok0 nw hle; (first | (apply wa_gotP; (iterate 10 (focus (first | exact rfl | (first | assumption | omega | (simp; omega) | (simp; done) | rfl)))))))); (iterate 2 exact rfl)) | refine zv ?_)
                (apply lto; (focus (apply wo_mapUpdateP; (iterate 6 exact rfl); exact pairIs; exact hkeys)))
                repeat (first | refine zc ?_ | refine zv ?_)
                refine loop_n (x + 1) ⟨by omega, fun y hy => ?_⟩ ?_ ?_ (by omega)
                . by_cases e : y = x
                  . subst e; exact hd
                  . exact hb y (by omega)
                . exact zs
                . have hints : ints (p.2 ++ [(x : Int)]) = D.lst (p.2.map (.int .i64) ++ [.int .i64 (x : Int)]) := by simp [ints]
                  rw [hstep, hpl2, <- hput', hints]
                  rfl
            . rw [hd] at hdx
              have hcd : (!decide (at2 ou x (p.1 / 16 : Nat) = at2 ou' x (p.1 % 16 : Nat))) = true := by simpa using hdx.symm
              have hR := hhit x hxl hd hb
              subst hR
              repeat (first | refine zc ?_ | refine zv ?_)
              refine zt ?_
              simp [ints]
          . have : x = nx.length := by omega
            subst this
            have hiI := hgo hb
            rw [<- hnext]
            repeat (first | refine zc ?_ | refine zv ?_)
            refine loop_n (i + 1) (by omega) ?_ rfl (by omega)
            exact zs
      . have hR := srq_end hS hi (by omega)
        subst hR
        repeat (first | refine zc ?_ | refine zv ?_)
        refine awp_nilSlot 8 7777 2 1 rfl rfl rfl ?_
        refine zt ?_
        rfl
section
variable {s o s' o' : Int} {nx ou nx' ou' : List (List Int)} {c0 : Nat}
theorem lstQ_pre (c0 : Nat) (nx nx' : List (List Int)) (i : Nat) : ∀ d, ∃ t, lstQ c0 nx nx' (i + d) = lstQ c0 nx nx' i ++ t
  | 0 => ⟨[], by simp⟩
  | d + 1 => by
    obtain ⟨t, ht⟩ := lstQ_pre c0 nx nx' i d
    have h : lstQ c0 nx nx' (i + (d + 1)) = match (lstQ c0 nx nx' (i + d))[i + d]? with
      | some p => letP nx nx' p (lstQ c0 nx nx' (i + d)) nx.length
      | none => lstQ c0 nx nx' (i + d) := rfl
    cases hp : (lstQ c0 nx nx' (i + d))[i + d]? with
    | some p =>
      rw [hp] at h
      obtain ⟨u, hu⟩ := letP_pre nx nx' p (lstQ c0 nx nx' (i + d)) nx.length
      exact ⟨t ++ u, by rw [h, <- List.append_assoc, <- ht]; exact hu⟩
    | none =>
      rw [hp] at h
      exact ⟨t, by rw [h]; exact ht⟩
theorem srq_same (m : MV s o nx ou) (m' : MV s' o' nx' ou') (he : nx'.length = nx.length) (hc0 : ((c0 / 16 : Nat) : Int) < s /\ ((c0 % 16 : Nat) : Int) < s') {I : Nat} {R : List Int × Bool} (hS : Srq c0 nx ou nx' ou' I R) (hR : R.2 = false) :
    ∀ (w : List Int) (c : Nat), c ∈ (lstQ c0 nx nx' I).map (·.1) -> (∀ l ∈ w, 0 <= l /\ l < nx.length) -> runO nx ou (c / 16 : Nat) w = runO nx' ou' (c % 16 : Nat) w := by
  have hlen : (lstQ c0 nx nx' I).length <= I := by
    rcases hS.fin with h | ⟨p, x0, _, _, _, _, h⟩
    . exact h.1
    . rw [h] at hR; cases hR
  have hok := lstQ_ok m m' he hc0 I
  have key : ∀ c, c ∈ (lstQ c0 nx nx' I).map (·.1) -> ∃ p : Nat × List Int, p.1 = c /\ (∀ x, x < nx.length -> difP ou ou' c x = false) /\ (∀ x, x < nx.length -> nxP nx nx' c x ∈ (lstQ c0 nx nx' I).map (·.1)) /\ ((c / 16 : Nat) : Int) < s /\ ((c % 16 : Nat) : Int) < s' := by
    intro c hc
    obtain ⟨p, hp, rfl⟩ := List.mem_map.1 hc
    obtain ⟨j, hj, e⟩ := List.getElem_of_mem hp
    obtain ⟨q, hq, hd⟩ := hS.old j (by omega)
    obtain ⟨t, ht⟩ := lstQ_pre c0 nx nx' j (I - j)
    rw [show j + (I - j) = I by omega] at ht
    have hqp : q = p := by
      have h1 : (lstQ c0 nx nx' I)[j]? = some q := by
        have hlt : j < (lstQ c0 nx nx' j).length := by
          rcases Nat.lt_or_ge j (lstQ c0 nx nx' j).length with h | h
          . exact h
          . rw [List.getElem?_eq_none h] at hq; cases hq
        rw [ht, List.getElem?_append_left hlt]; exact hq
      rw [List.getElem?_eq_getElem hj, e] at h1
      exact (Option.some.inj h1).symm
    subst hqp
    refine ⟨q, rfl, hd, fun x hx => ?_, hok.lt q hp⟩
    have h1 := letP_mem nx nx' q (lstQ c0 nx nx' j) nx.length x hx
    have h2 : lstQ c0 nx nx' (j + 1) = letP nx nx' q (lstQ c0 nx nx' j) nx.length := by
      conv => lhs; unfold lstQ
      rw [hq]
    obtain ⟨u, hu⟩ := lstQ_pre c0 nx nx' (j + 1) (I - (j + 1))
    rw [show j + 1 + (I - (j + 1)) = I by omega] at hu
    rw [hu, List.map_append, h2]
    exact List.mem_append_left _ h1
  intro w
  induction w with
  | nil => intro c _ _; rfl
  | cons l w ih =>
    intro c hc hw
    obtain ⟨p, rfl, hd, hn, b1, b2⟩ := key c hc
    have hl := hw l (List.mem_cons_self ..)
    have hx : l.toNat < nx.length := by omega
    have hlx : ((l.toNat : Nat) : Int) = l := by omega
    have hd0 := hd l.toNat hx
    unfold difP at hd0
    rw [hlx] at hd0
    have hd1 : at2 ou l (p.1 / 16 : Nat) = at2 ou' l (p.1 % 16 : Nat) := by
      have := of_decide_eq_false hd0
      exact Classical.not_not.1 this
    obtain ⟨n1, n2, -, -⟩ := nxP_ok m m' he (c := p.1) hx ⟨b1, b2⟩
    rw [hlx] at n1 n2
    have hi := ih _ (hn l.toNat hx) (fun l' h' => hw l' (List.mem_cons_of_mem _ h'))
    rw [n1, n2] at hi
    show at2 ou l _ :: runO nx ou _ w = at2 ou' l _ :: runO nx' ou' _ w
    rw [hd1, hi]
end
structure RQ (c0 : Nat) (nx nx' : List (List Int)) (p : Nat × List Int) : Prop where
  el : ∀ l ∈ p.2, 0 <= l /\ l < (nx.length : Int)
  r1 : runS nx ((c0 / 16 : Nat) : Int) p.2 = ((p.1 / 16 : Nat) : Int)
  r2 : runS nx' ((c0 % 16 : Nat) : Int) p.2 = ((p.1 % 16 : Nat) : Int)
section
variable {s o s' o' : Int} {nx ou nx' ou' : List (List Int)} {c0 : Nat}
theorem letP_rq (m : MV s o nx ou) (m' : MV s' o' nx' ou') (he : nx'.length = nx.length) {p : Nat × List Int} {L : PL} (hok : POk s s' L) (hp : p ∈ L) (h : ∀ q ∈ L, RQ c0 nx nx' q) : ∀ k, k <= nx.length -> ∀ q ∈ letP nx nx' p L k, RQ c0 nx nx' q
  | 0, _ => h
  | k + 1, hk => by
    have ih := letP_rq m m' he hok hp h k (by omega)
    obtain ⟨n1, n2, -, -⟩ := nxP_ok m m' he (c := p.1) (x := k) (by omega) (hok.lt p hp)
    intro q hq
    have hq : q ∈ addP (letP nx nx' p L k) (nxP nx nx' p.1 k) (p.2 ++ [(k : Int)]) := hq
    unfold addP at hq
    split at hq
    . exact ih q hq
    . rcases List.mem_append.1 hq with h1 | h1
      . exact ih q h1
      . simp only [List.mem_singleton] at h1
        subst h1
        have hr := h p hp
        refine ⟨fun l hl => ?_, ?_, ?_⟩
        . rcases List.mem_append.1 hl with h2 | h2
          . exact hr.el l h2
          . simp only [List.mem_singleton] at h2; omega
        . show runS nx ((c0 / 16 : Nat) : Int) (p.2 ++ [(k : Int)]) = _
          rw [runS_snoc, hr.r1]; exact n1.symm
        . show runS nx' ((c0 % 16 : Nat) : Int) (p.2 ++ [(k : Int)]) = _
          rw [runS_snoc, hr.r2]; exact n2.symm
theorem lstQ_rq (m : MV s o nx ou) (m' : MV s' o' nx' ou') (he : nx'.length = nx.length) (hc0 : ((c0 / 16 : Nat) : Int) < s /\ ((c0 % 16 : Nat) : Int) < s') : ∀ i, ∀ q ∈ lstQ c0 nx nx' i, RQ c0 nx nx' q
  | 0 => by
    intro q hq
    simp only [lstQ, List.mem_singleton] at hq
    subst hq
    exact ⟨by simp, by simp [runS], by simp [runS]⟩
  | i + 1 => by
    have ih := lstQ_rq m m' he hc0 i
    unfold lstQ
    split
    . rename_i p hp
      exact letP_rq m m' he (lstQ_ok m m' he hc0 i) (List.mem_of_getElem? hp) ih nx.length (Nat.le_refl _)
    . exact ih
end
theorem lstQ_zero (c0 : Nat) (nx nx' : List (List Int)) (I : Nat) : c0 ∈ (lstQ c0 nx nx' I).map (·.1) := by
  obtain ⟨t, ht⟩ := lstQ_pre c0 nx nx' 0 I
  rw [show 0 + I = I by omega] at ht
  rw [ht]
  simp [lstQ]
section
variable {s o : Int} {nx ou : List (List Int)} {a b : Nat}
theorem apQ_srq (m : MV s o nx ou) (ha : (a : Int) < s) (hb : (b : Int) < s) : (a * 16 + b) / 16 = a /\ (a * 16 + b) % 16 = b /\ ∃ I, I <= 160 /\ Srq (a * 16 + b) nx ou nx ou I (apQ nx ou (a * 16 + b)) := by
  have hs := m.s1
  have h1 : (a * 16 + b) / 16 = a := by omega
  have h2 : (a * 16 + b) % 16 = b := by omega
  refine ⟨h1, h2, ?_⟩
  obtain ⟨I, R, k1, k2⟩ := srq_ex (c0 := a * 16 + b) m m rfl (by rw [h1, h2]; exact ⟨ha, hb⟩)
  have h : ∃ R, ∃ I, I <= 160 /\ Srq (a * 16 + b) nx ou nx ou I R := ⟨R, I, k1, k2⟩
  have : apQ nx ou (a * 16 + b) = Classical.choose h := by unfold apQ; exact dif_pos h
  rw [this]
  exact Classical.choose_spec h
theorem impl_apartP (m : MV s o nx ou) (ha : (a : Int) < s) (hb : (b : Int) < s) :
    AC Tryz.prog 82 [mach s o nx ou, mach s o nx ou, .int .i64 (a : Nat), .int .i64 (b : Nat)] (.tup [ints (apQ nx ou (a * 16 + b)).1, .bool (apQ nx ou (a * 16 + b)).2]) := by
  obtain ⟨h1, h2, I, hI, hS⟩ := apQ_srq m ha hb
  have := impl_apartQ m m rfl (c0 := a * 16 + b) (by rw [h1, h2]; exact ⟨ha, hb⟩) hS (by omega)
  rw [h1, h2] at this
  exact this
theorem apQ_same (m : MV s o nx ou) (ha : (a : Int) < s) (hb : (b : Int) < s) (hR : (apQ nx ou (a * 16 + b)).2 = false) (w : List Int) (hw : ∀ l ∈ w, 0 <= l /\ l < (nx.length : Int)) : runO nx ou a w = runO nx ou b w := by
  obtain ⟨h1, h2, I, hI, hS⟩ := apQ_srq m ha hb
  have := srq_same m m rfl (c0 := a * 16 + b) (by rw [h1, h2]; exact ⟨ha, hb⟩) hS hR w _ (lstQ_zero _ nx nx I) hw
  rw [h1, h2] at this
  exact this
theorem apQ_diff (m : MV s o nx ou) (ha : (a : Int) < s) (hb : (b : Int) < s) {w : List Int} (hw : ∀ l ∈ w, 0 <= l /\ l < (nx.length : Int)) (hd : ¬ runO nx ou a w = runO nx ou b w) : (apQ nx ou (a * 16 + b)).2 = true := by
  cases h : (apQ nx ou (a * 16 + b)).2 with
  | true => rfl
  | false => exact absurd (apQ_same m ha hb h w hw) hd
theorem apQ_word (m : MV s o nx ou) (ha : (a : Int) < s) (hb : (b : Int) < s) (hR : (apQ nx ou (a * 16 + b)).2 = true) :
    (apQ nx ou (a * 16 + b)).1.length <= 161 /\ (∀ l ∈ (apQ nx ou (a * 16 + b)).1, 0 <= l /\ l < (nx.length : Int)) /\ ¬ runO nx ou a (apQ nx ou (a * 16 + b)).1 = runO nx ou b (apQ nx ou (a * 16 + b)).1 := by
  obtain ⟨e1, e2, I, hI, hS⟩ := apQ_srq m ha hb
  have hc0 : (((a * 16 + b) / 16 : Nat) : Int) < s /\ (((a * 16 + b) % 16 : Nat) : Int) < s := by rw [e1, e2]; exact ⟨ha, hb⟩
  rcases hS.fin with ⟨-, h⟩ | ⟨p, x0, h1, h2, h3, -, h5⟩
  . rw [h] at hR; cases hR
  . rw [h5]
    have hp := List.mem_of_getElem? h1
    have rp := lstQ_rq m m rfl hc0 I p hp
    have hl := (lstQ_ok m m rfl hc0 I).wl p hp
    have hl2 := (lstQ_ok m m rfl hc0 I).len m.s1.2 m.s1.2
    have r1 := rp.r1
    have r2 := rp.r2
    rw [e1] at r1
    rw [e2] at r2
    refine ⟨by simp; omega, fun l hl => ?_, fun e => ?_⟩
    . rcases List.mem_append.1 hl with h | h
      . exact rp.el l h
      . simp only [List.mem_singleton] at h; omega
    . dsimp only at e
      rw [runO_snoc, runO_snoc, r1, r2] at e
      have := List.append_inj_right' e rfl
      simp only [List.cons.injEq, and_true] at this
      unfold difP at h3
      simp only [decide_eq_true_eq] at h3
      exact h3 this
end
end Go.Proofs.YtfemhnmggobhjaaGreat
namespace Go.Proofs.YtfemhnmggobhjaaGreat
open Go
attribute [local irreducible] awp awpL awpQL awpQ awpM pWalk Qt AC thenQ blockQ loopQ OpTo
set_option linter.unusedVariables false
set_option linter.unusedSimpArgs false
set_option maxHeartbeats 2000000
attribute [local irreducible] HC
def tlT (nx ou : List (List Int)) (a b : Nat) (out : List (List Int)) : Bool := out.any fun w => !decide (runO nx ou a w = runO nx ou b w)
noncomputable def tlS (nx ou : List (List Int)) (a b : Nat) (out : List (List Int)) : List (List Int) := if tlT nx ou a b out then out else out ++ [(apQ nx ou (a * 16 + b)).1]
noncomputable def tlB (nx ou : List (List Int)) (a : Nat) (out : List (List Int)) : Nat -> List (List Int)
  | 0 => out
  | j + 1 => tlS nx ou a (a + 1 + j) (tlB nx ou a out j)
noncomputable def tlA (nx ou : List (List Int)) (S : Nat) : Nat -> List (List Int)
  | 0 => []
  | a + 1 => tlB nx ou a (tlA nx ou S a) (S - (a + 1))
def tlO (nx ou : List (List Int)) (S : Nat) : Prop := ∀ a b : Nat, a < b -> b < S -> (apQ nx ou (a * 16 + b)).2 = true
structure TlK (n k : Nat) (out : List (List Int)) : Prop where
  len : out.length <= k
  wl : ∀ w ∈ out, w.length <= 161 /\ ∀ l ∈ w, 0 <= l /\ l < (n : Int)
theorem tlS_pre (nx ou : List (List Int)) (a b : Nat) (out : List (List Int)) : ∃ t, tlS nx ou a b out = out ++ t := by
  unfold tlS
  split
  . exact ⟨[], by simp⟩
  . exact ⟨_, rfl⟩
theorem tlB_pre (nx ou : List (List Int)) (a : Nat) (out : List (List Int)) : ∀ j, ∃ t, tlB nx ou a out j = out ++ t
  | 0 => ⟨[], by simp [tlB]⟩
  | j + 1 => by
    obtain ⟨t, ht⟩ := tlB_pre nx ou a out j
    obtain ⟨u, hu⟩ := tlS_pre nx ou a (a + 1 + j) (tlB nx ou a out j)
    exact ⟨t ++ u, by show tlS _ _ _ _ _ = _; rw [hu, ht, List.append_assoc]⟩
section
variable {s o : Int} {nx ou : List (List Int)}
theorem tlS_ok (m : MV s o nx ou) {a b k : Nat} {out : List (List Int)} (ha : (a : Int) < s) (hb : (b : Int) < s) (hR : (apQ nx ou (a * 16 + b)).2 = true) (h : TlK nx.length k out) : TlK nx.length (k + 1) (tlS nx ou a b out) := by
  have h1 := h.len
  unfold tlS
  split
  . exact ⟨by omega, h.wl⟩
  . have hw := apQ_word m ha hb hR
    refine ⟨by rw [List.length_append]; simp; omega, fun w hw' => ?_⟩
    rcases List.mem_append.1 hw' with hw' | hw'
    . exact h.wl w hw'
    . simp only [List.mem_singleton] at hw'; subst hw'; exact ⟨hw.1, hw.2.1⟩
theorem tlB_ok (m : MV s o nx ou) {a k : Nat} {out : List (List Int)} (h : TlK nx.length k out) : ∀ j, ((a + j : Nat) : Int) < s -> (∀ i, i < j -> (apQ nx ou (a * 16 + (a + 1 + i))).2 = true) -> TlK nx.length (k + j) (tlB nx ou a out j)
  | 0, _, _ => h
  | j + 1, hj, hR => tlS_ok m (by omega) (by omega) (hR j (by omega)) (tlB_ok m h j (by omega) fun i hi => hR i (by omega))
theorem tlA_ok (m : MV s o nx ou) : ∀ a : Nat, (a : Int) <= s -> (∀ a' b : Nat, a' < a -> a' < b -> (b : Int) < s -> (apQ nx ou (a' * 16 + b)).2 = true) -> TlK nx.length (a * 10) (tlA nx ou s.toNat a)
  | 0, _, _ => ⟨by simp [tlA], by simp [tlA]⟩
  | a + 1, ha, hR => by
    have hs := m.s1
    have := tlB_ok m (a := a) (tlA_ok m a (by omega) fun a' b h1 h2 h3 => hR a' b (by omega) h2 h3) (s.toNat - (a + 1)) (by omega) (fun i hi => hR a (a + 1 + i) (by omega) (by omega) (by omega))
    exact ⟨by have := this.len; show (tlB _ _ _ _ _).length <= _; omega, this.wl⟩
theorem tlB_tells (m : MV s o nx ou) {a : Nat} {out : List (List Int)} : ∀ j, ((a + j : Nat) : Int) < s -> (∀ i, i < j -> (apQ nx ou (a * 16 + (a + 1 + i))).2 = true) -> ∀ i, i < j -> ∃ w ∈ tlB nx ou a out j, runO nx ou a w ≠ runO nx ou ((a + 1 + i : Nat) : Int) w
  | 0, _, _, i, hi => by omega
  | j + 1, hj, hR, i, hi => by
    have hst : tlB nx ou a out (j + 1) = tlS nx ou a (a + 1 + j) (tlB nx ou a out j) := rfl
    by_cases e : i = j
    . subst e
      rw [hst]
      unfold tlS
      split
      . rename_i h
        unfold tlT at h
        obtain ⟨w, hw, hw2⟩ := List.any_eq_true.1 h
        exact ⟨w, hw, by simpa using hw2⟩
      . exact ⟨_, List.mem_append_right _ (List.mem_singleton.2 rfl), (apQ_word m (by omega) (by omega) (hR i (by omega))).2.2⟩
    . obtain ⟨w, hw, hw2⟩ := tlB_tells m j (by omega) (fun i hi => hR i (by omega)) i (by omega)
      obtain ⟨t, ht⟩ := tlS_pre nx ou a (a + 1 + j) (tlB nx ou a out j)
      exact ⟨w, by rw [hst, ht]; exact List.mem_append_left _ hw, hw2⟩
theorem tlA_tells (m : MV s o nx ou) : ∀ a : Nat, (a : Int) <= s -> (∀ a' b : Nat, a' < a -> a' < b -> (b : Int) < s -> (apQ nx ou (a' * 16 + b)).2 = true) -> ∀ p q : Nat, p < a -> p < q -> (q : Int) < s -> ∃ w ∈ tlA nx ou s.toNat a, runO nx ou p w ≠ runO nx ou q w
  | 0, _, _, p, q, hp, _, _ => by omega
  | a + 1, ha, hR, p, q, hp, hpq, hq => by
    have hs := m.s1
    have hst : tlA nx ou s.toNat (a + 1) = tlB nx ou a (tlA nx ou s.toNat a) (s.toNat - (a + 1)) := rfl
    by_cases e : p = a
    . subst e
      obtain ⟨w, hw, hw2⟩ := tlB_tells m (a := p) (out := tlA nx ou s.toNat p) (s.toNat - (p + 1)) (by omega) (fun i hi => hR p (p + 1 + i) (by omega) (by omega) (by omega)) (q - (p + 1)) (by omega)
      rw [show p + 1 + (q - (p + 1)) = q by omega] at hw2
      exact ⟨w, by rw [hst]; exact hw, hw2⟩
    . obtain ⟨w, hw, hw2⟩ := tlA_tells m a (by omega) (fun a' b h1 h2 h3 => hR a' b (by omega) h2 h3) p q (by omega) hpq hq
      obtain ⟨t, ht⟩ := tlB_pre nx ou a (tlA nx ou s.toNat a) (s.toNat - (a + 1))
      exact ⟨w, by rw [hst, ht]; exact List.mem_append_left _ hw, hw2⟩
end
noncomputable def tsD (s : Int) (nx ou : List (List Int)) : List (List Int) × Bool := open Classical in if tlO nx ou s.toNat then (tlA nx ou s.toNat s.toNat, true) else ([], false)
theorem spec_l06TellingSet {s o : Int} {nx ou : List (List Int)} (m : MV s o nx ou) : AC Tryz.prog 42 [.ptr (mach s o nx ou)] (.tup [rows (tsD s nx ou).1, .bool (tsD s nx ou).2]) := by
  have hs := m.s1
  have hbad : ∀ a b : Nat, a < b -> (b : Int) < s -> (apQ nx ou (a * 16 + b)).2 = false -> tsD s nx ou = ([], false) := fun a b h1 h2 h3 => by
    unfold tsD
    exact if_neg fun h => by have := h a b h1 (by omega); rw [h3] at this; cases this
  have hgood : (∀ a' b : Nat, a' < s.toNat -> a' < b -> (b : Int) < s -> (apQ nx ou (a' * 16 + b)).2 = true) -> tsD s nx ou = (tlA nx ou s.toNat s.toNat, true) := fun h => by
    unfold tsD
    exact if_pos fun a b h1 h2 => h a b (by omega) h1 (by omega)
  have hap := fun (a b : Nat) (ha : (a : Int) < s) (hb : (b : Int) < s) => spec_l06ApartP m ha hb
  have hrun := fun (q : Nat) (w : List Int) (hq : (q : Int) < s) (h1 : w.length <= 400) (h2 : ∀ l ∈ w, 0 <= l /\ l < nx.length) => spec_l06Run m (q0 := (q : Int)) (by omega) h1 h2
  have hAok := fun a => tlA_ok m a
  unfold mach at *
  refine ac_intro tabIs _ Tryz.func42 rfl rfl Tryz.ntmps42 rfl rfl fun w0 ok0 he0 => ?_
  repeat (first | refine v_w (t := 15) ?_ | refine zc ?_ | refine u_w (t := 15) ?_ | refine zv ?_)
  refine awp_loop (fun a : Nat => (a : Int) <= s /\ ∀ a' b : Nat, a' < a -> a' < b -> (b : Int) < s -> (apQ nx ou (a' * 16 + b)).2 = true) (fun a => [(0, .d (.ptr (.agg [.int .i64 s, .int .i64 o, rows nx, rows ou]))), (4, .own 15), (5, .d (.int .i64 a))]) (fun a => [(15, .arr 43 1 ((tlA nx ou s.toNat a).map ints))]) (fun a => s.toNat - a) 0 ⟨by omega, fun a' b h => by omega⟩ ?_ rfl ?_
  . exact zs
  . rintro a ⟨ha, hR⟩
    by_cases hlt : (a : Int) < s
    . have hk := hAok a ha hR
      have hBok := fun j (hj : ((a + j : Nat) : Int) < s) h => tlB_ok m (a := a) hk j hj h
      have hst : tlA nx ou s.toNat (a + 1) = tlB nx ou a (tlA nx ou s.toNat a) (s.toNat - (a + 1)) := rfl
      generalize tlA nx ou s.toNat a = A at *
      repeat (first | refine zc ?_ | refine zv ?_)
      refine awp_loop (fun j : Nat => ((a + 1 + j : Nat) : Int) <= s /\ ∀ i, i < j -> (apQ nx ou (a * 16 + (a + 1 + i))).2 = true) (fun j => [(0, .d (.ptr (.agg [.int .i64 s, .int .i64 o, rows nx, rows ou]))), (4, .own 15), (5, .d (.int .i64 a)), (6, .d (.int .i64 ((a + 1 + j : Nat) : Int)))]) (fun j => [(15, .arr 43 1 ((tlB nx ou a A j).map ints))]) (fun j => s.toNat - (a + 1 + j)) 0 ⟨by omega, fun i h => by omega⟩ ?_ rfl ?_
      . refine ⟨rfl, rfl, rfl, ?_, trivial⟩
        show SV.d (.int .i64 ((a : Int) + 1)) = _
        rfl
      . rintro j ⟨hj, hR2⟩
        by_cases hjl : ((a + 1 + j : Nat) : Int) < s
        . have hkj := hBok j (by omega) hR2
          have hkl := hkj.len
          have hst2 : tlB nx ou a A (j + 1) = tlS nx ou a (a + 1 + j) (tlB nx ou a A j) := rfl
          have e1 := hap a (a + 1 + j) hlt hjl
          have hdiff := fun w hw hd => apQ_diff m (a := a) (b := a + 1 + j) (w := w) hlt hjl hw hd
          have hbd := hbad a (a + 1 + j) (by omega) hjl
          generalize hB : tlB nx ou a A j = B at *
          have hBm : (List.map ints B).length = B.length := by simp
          unfold tlS tlT at hst2
          have hR3 : (apQ nx ou (a * 16 + (a + 1 + j))).2 = true -> ∀ i, i < j + 1 -> (apQ nx ou (a * 16 + (a + 1 + i))).2 = true := fun h i hi => by
            by_cases e : i = j
            . subst e; exact h
            . exact hR2 i (by omega)
          have hTr : B.any (fun w => !decide (runO nx ou a w = runO nx ou ((a + 1 + j : Nat) : Int) w)) = true -> (apQ nx ou (a * 16 + (a + 1 + j))).2 = true := fun h => by
            obtain ⟨w, hw, hw2⟩ := List.any_eq_true.1 h
            exact hdiff w (hkj.wl w hw).2 (by simpa using hw2)
          clear hdiff hBok hap
          generalize hbb : a + 1 + j = b at *
          generalize apQ nx ou (a * 16 + b) = Q at *
          repeat (first | refine zc ?_ | refine zv ?_)
          refine awp_loop (fun i : Nat => i <= B.length) (fun i => [(0, .d (.ptr (.agg [.int .i64 s, .int .i64 o, rows nx, rows ou]))), (4, .own 15), (5, .d (.int .i64 a)), (6, .d (.int .i64 (b : Nat))), (7, .d (.bool ((B.take i).any fun w => !decide (runO nx ou a w = runO nx ou b w)))), (8, .d (.int .i64 i))]) (fun i => [(15, .arr 43 1 (B.map ints))]) (fun i => B.length - i) 0 (by omega) ?_ rfl ?_
          . exact zs
          . intro i hi
            have hT0 : ∀ (hh : B.any (fun w => !decide (runO nx ou a w = runO nx ou b w)) = true), tlB nx ou a A (j + 1) = B := fun hh => by rw [hst2, if_pos hh]
            have hN6 : ((b : Nat) : Int) + 1 = ((a + 1 + (j + 1) : Nat) : Int) := by omega
            by_cases hil : i < B.length
            . have hx0 : (B.map ints)[(i : Int).toNat]? = some (ints B[i]) := by rw [Int.toNat_natCast]; simp [hil]
              have hwi := hkj.wl _ (List.getElem_mem hil)
              have hnx : (B.take (i + 1)).any (fun w => !decide (runO nx ou a w = runO nx ou b w)) = ((B.take i).any (fun w => !decide (runO nx ou a w = runO nx ou b w)) || !decide (runO nx ou a B[i] = runO nx ou b B[i])) := by
                rw [List.take_succ_eq_append_getElem hil, List.any_append]; simp
              have hall : (B.take i).any (fun w => !decide (runO nx ou a w = runO nx ou b w)) = true -> B.any (fun w => !decide (runO nx ou a w = runO nx ou b w)) = true := fun h => by
                obtain ⟨w, hw, hw2⟩ := List.any_eq_true.1 h
                exact List.any_eq_true.2 ⟨w, List.mem_of_mem_take hw, hw2⟩
              have e2 := hrun a B[i] hlt (by omega) hwi.2
              have e3 := hrun b B[i] hjl (by omega) hwi.2
              have e4 := spec_l00Same (a := runO nx ou a B[i]) (b := runO nx ou b B[i]) (by rw [runO_length]; omega) (by rw [runO_length]; omega)
              generalize B[i] = w at *
              generalize runO nx ou a w = ra at *
              generalize runO nx ou b w = rb at *
              generalize hany : (B.take i).any (fun w => !decide (runO nx ou a w = runO nx ou b w)) = t0 at *
              cases t0 with
              | false =>
                rw [Bool.false_or] at hnx
                repeat (first | refine zc ?_ | refine zk (e := by exact e2) (n := ?_) | refine zk (e := by exact e3) (n := ?_) | refine zk (e := by exact e4) (n := ?_) | refine zv ?_ | refine zg ?_)
                refine loop_n (i + 1) (by omega) ?_ rfl (by omega)
                rw [hnx]
                exact zs
              | true =>
                have hB2 := hT0 (hall rfl)
                repeat (first | refine zc ?_ | refine zv ?_ | refine zg ?_)
                refine loop_n (j + 1) ⟨by omega, hR3 (hTr (hall rfl))⟩ ?_ ?_ (by omega)
                . refine ⟨rfl, rfl, rfl, ?_, trivial⟩
                  exact congrArg (fun n : Int => SV.d (.int .i64 n)) hN6
                . rw [hB2]
            . have hie : i = B.length := by omega
              subst hie
              rw [List.take_length]
              generalize hany : B.any (fun w => !decide (runO nx ou a w = runO nx ou b w)) = t0 at *
              cases t0 with
              | true =>
                have hB2 := hT0 rfl
                repeat (first | refine zc ?_ | refine zv ?_ | refine zg ?_)
                refine loop_n (j + 1) ⟨by omega, hR3 (hTr rfl)⟩ ?_ ?_ (by omega)
                . refine ⟨rfl, rfl, rfl, ?_, trivial⟩
                  exact congrArg (fun n : Int => SV.d (.int .i64 n)) hN6
                . rw [hB2]
              | false =>
                rw [if_neg (by simp)] at hst2
                cases hq : Q.2 with
                | true =>
                  rw [hq] at e1
                  repeat (first | refine zc ?_ | refine zk (e := by exact e1) (n := ?_) | refine zv ?_ | refine zg ?_)
                  refine loop_n (j + 1) ⟨by omega, hR3 hq⟩ ?_ ?_ (by omega)
                  . refine ⟨rfl, rfl, rfl, ?_, trivial⟩
                    exact congrArg (fun n : Int => SV.d (.int .i64 n)) hN6
                  . rw [hst2, List.map_append]; rfl
                | false =>
                  rw [hq] at e1
                  rw [hbd hq]
                  repeat (first | refine zc ?_ | refine zk (e := by exact e1) (n := ?_) | refine zv ?_ | refine zg ?_)
                  refine zt ?_
                  rfl
        . have hje : j = s.toNat - (a + 1) := by omega
          subst hje
          rw [<- hst]
          repeat (first | refine zc ?_ | refine zv ?_)
          refine loop_n (a + 1) ⟨by omega, fun a' b h1 h2 h3 => ?_⟩ ?_ rfl (by omega)
          . by_cases e : a' = a
            . subst e
              have := hR2 (b - (a' + 1)) (by omega)
              rwa [show a' + 1 + (b - (a' + 1)) = b by omega] at this
            . exact hR a' b (by omega) h2 h3
          . exact zs
    . have hae : a = s.toNat := by omega
      subst hae
      rw [hgood hR]
      repeat (first | refine zc ?_ | refine zv ?_)
      refine zt ?_
      rfl
theorem impl_tellingSet1 {s o : Int} {nx ou : List (List Int)} (m : MV s o nx ou) {a b : Nat} (ha : (a : Int) < s) (hb : (b : Int) < s) {w : List Int} (hl : w.length <= 400) (hw : ∀ l ∈ w, 0 <= l /\ l < nx.length) :
    AC Tryz.prog 104 [ints w, .ptr (mach s o nx ou), .ptr (.int .i64 a), .ptr (.int .i64 b)] (.bool (!decide (runO nx ou a w = runO nx ou b w))) := by
  have e1 := impl_outputs m (q0 := (a : Int)) (by omega) hl hw
  have e2 := impl_outputs m (q0 := (b : Int)) (by omega) hl hw
  have e3 := slices_EqualI (a := runO nx ou a w) (b := runO nx ou b w) (by rw [runO_length]; omega) (by rw [runO_length]; omega)
  unfold mach at *
  refine ac_intro tabIs _ Tryz.func104 rfl rfl Tryz.ntmps104 rfl rfl fun w0 ok0 he0 => ?_
  repeat (first | refine zc ?_ | refine zk (e := by exact e1) (n := ?_) | refine zk (e := by exact e2) (n := ?_) | refine zk (e := by exact e3) (n := ?_) | refine zv ?_)
  refine zt ?_
  rfl
theorem impl_tellingSet {s o : Int} {nx ou : List (List Int)} (m : MV s o nx ou) : AC Tryz.prog 53 [mach s o nx ou] (.tup [rows (tsD s nx ou).1, .bool (tsD s nx ou).2]) := by
  have hs := m.s1
  have hbad : ∀ a b : Nat, a < b -> (b : Int) < s -> (apQ nx ou (a * 16 + b)).2 = false -> tsD s nx ou = ([], false) := fun a b h1 h2 h3 => by
    unfold tsD
    exact if_neg fun h => by have := h a b h1 (by omega); rw [h3] at this; cases this
  have hgood : (∀ a' b : Nat, a' < s.toNat -> a' < b -> (b : Int) < s -> (apQ nx ou (a' * 16 + b)).2 = true) -> tsD s nx ou = (tlA nx ou s.toNat s.toNat, true) := fun h => by
    unfold tsD
    exact if_pos fun a b h1 h2 => h a b (by omega) h1 (by omega)
  have hap := fun (a b : Nat) (ha : (a : Int) < s) (hb : (b : Int) < s) => impl_apartP m ha hb
  have hcon : ∀ (a b : Nat) (B : List (List Int)), (a : Int) < s -> (b : Int) < s -> B.length <= 1000 -> (∀ w ∈ B, w.length <= 161 /\ ∀ l ∈ w, 0 <= l /\ l < (nx.length : Int)) ->
      AC Tryz.prog 103 [rows B, .fn 104 [.ptr (mach s o nx ou), .ptr (.int .i64 a), .ptr (.int .i64 b)]] (.bool (tlT nx ou a b B)) := fun a b B h1 h2 h3 h4 =>
    containsFunc_row (cap := [.ptr (mach s o nx ou), .ptr (.int .i64 a), .ptr (.int .i64 b)]) (fun w => !decide (runO nx ou a w = runO nx ou b w)) (fun w hw => impl_tellingSet1 m h1 h2 (by have := (h4 w hw).1; omega) (h4 w hw).2) (by omega)
  have hAok := fun a => tlA_ok m a
  unfold mach at *
  refine ac_intro tabIs _ Tryz.func53 rfl rfl Tryz.ntmps53 rfl rfl fun w0 ok0 he0 => ?_
  repeat (first | refine v_w (t := 9) ?_ | refine zc ?_ | refine u_w (t := 9) ?_ | refine zv ?_)
  refine awp_loop (fun a : Nat => (a : Int) <= s /\ ∀ a' b : Nat, a' < a -> a' < b -> (b : Int) < s -> (apQ nx ou (a' * 16 + b)).2 = true) (fun a => [(1, .d (.ptr (.agg [.int .i64 s, .int .i64 o, rows nx, rows ou]))), (4, .own 9), (11, .d (.int .i64 s)), (12, .d (.int .i64 a))]) (fun a => [(9, .arr 43 1 ((tlA nx ou s.toNat a).map ints))]) (fun a => s.toNat - a) 0 ⟨by omega, fun a' b h => by omega⟩ ?_ rfl ?_
  . exact zs
  . rintro a ⟨ha, hR⟩
    by_cases hlt : (a : Int) < s
    . have hk := hAok a ha hR
      have hBok := fun j (hj : ((a + j : Nat) : Int) < s) h => tlB_ok m (a := a) hk j hj h
      have hst : tlA nx ou s.toNat (a + 1) = tlB nx ou a (tlA nx ou s.toNat a) (s.toNat - (a + 1)) := rfl
      generalize tlA nx ou s.toNat a = A at *
      repeat (first | refine zc ?_ | refine zv ?_)
      refine awp_freezeB 5 rfl rfl rfl ?_
      refine awp_perm [(6, .box [.d (.int .i64 ((a : Int) + 1))]), (9, .arr 43 1 (A.map ints))] rfl ?_
      refine awp_loop (fun j : Nat => ((a + 1 + j : Nat) : Int) <= s /\ ∀ i, i < j -> (apQ nx ou (a * 16 + (a + 1 + i))).2 = true) (fun j => [(1, .d (.ptr (.agg [.int .i64 s, .int .i64 o, rows nx, rows ou]))), (4, .own 9), (5, .d (.ptr (.int .i64 a))), (6, .ref 6 0), (11, .d (.int .i64 s)), (12, .d (.int .i64 a))]) (fun j => [(6, .box [.d (.int .i64 ((a + 1 + j : Nat) : Int))]), (9, .arr 43 1 ((tlB nx ou a A j).map ints))]) (fun j => s.toNat - (a + 1 + j)) 0 ⟨by omega, fun i h => by omega⟩ ?_ rfl ?_
      . exact zs
      . rintro j ⟨hj, hR2⟩
        by_cases hjl : ((a + 1 + j : Nat) : Int) < s
        . have hkj := hBok j (by omega) hR2
          have hkl := hkj.len
          have hst2 : tlB nx ou a A (j + 1) = tlS nx ou a (a + 1 + j) (tlB nx ou a A j) := rfl
          have e1 := hap a (a + 1 + j) hlt hjl
          have hbd := hbad a (a + 1 + j) (by omega) hjl
          have e2 := hcon a (a + 1 + j) (tlB nx ou a A j) hlt hjl (by omega) hkj.wl
          have hR3 : (apQ nx ou (a * 16 + (a + 1 + j))).2 = true -> ∀ i, i < j + 1 -> (apQ nx ou (a * 16 + (a + 1 + i))).2 = true := fun h i hi => by
            by_cases e : i = j
            . subst e; exact h
            . exact hR2 i (by omega)
          clear hBok hap hcon
          have hN6 : ((a + 1 + j : Nat) : Int) + 1 = ((a + 1 + (j + 1) : Nat) : Int) := by omega
          generalize hB : tlB nx ou a A j = B at *
          have hBm : (List.map ints B).length = B.length := by simp
          unfold tlS at hst2
          generalize hbb : a + 1 + j = b at *
          generalize apQ nx ou (a * 16 + b) = Q at *
          generalize tlT nx ou a b B = t0 at *
          cases hq : Q.2 with
          | false =>
            rw [hq] at e1
            rw [hbd hq]
            repeat (first | refine zc ?_ | refine zk (e := by exact e1) (n := ?_) | refine zv ?_)
            refine awp_nilSlot 2 300 43 1 rfl rfl rfl ?_
            refine zt ?_
            rfl
          | true =>
            rw [hq] at e1
            cases t0 with
            | true =>
              rw [if_pos rfl] at hst2
              repeat (first | refine zc ?_ | refine zk (e := by exact e1) (n := ?_) | refine zv ?_)
              refine awpL_freezeB 6 rfl rfl rfl ?_
              repeat (first | refine zc ?_ | refine zk (e := by exact e2) (n := ?_) | refine zv ?_)
              refine loop_n (j + 1) ⟨by omega, hR3 hq⟩ ?_ ?_ (by omega)
              . exact zs
              . rw [hst2, <- hN6]; rfl
            | false =>
              rw [if_neg (by simp)] at hst2
              repeat (first | refine zc ?_ | refine zk (e := by exact e1) (n := ?_) | refine zv ?_)
              refine awpL_freezeB 6 rfl rfl rfl ?_
              repeat (first | refine zc ?_ | refine zk (e := by exact e2) (n := ?_) | refine zv ?_)
              refine loop_n (j + 1) ⟨by omega, hR3 hq⟩ ?_ ?_ (by omega)
              . exact zs
              . rw [hst2, <- hN6, List.map_append]; rfl
        . have hje : j = s.toNat - (a + 1) := by omega
          subst hje
          rw [<- hst]
          refine awp_freezeB 6 rfl rfl rfl ?_
          repeat (first | refine zc ?_ | refine zv ?_)
          refine loop_n (a + 1) ⟨by omega, fun a' b h1 h2 h3 => ?_⟩ ?_ rfl (by omega)
          . by_cases e : a' = a
            . subst e
              have := hR2 (b - (a' + 1)) (by omega)
              rwa [show a' + 1 + (b - (a' + 1)) = b by omega] at this
            . exact hR a' b (by omega) h2 h3
          . exact zs
    . have hae : a = s.toNat := by omega
      subst hae
      rw [hgood hR]
      repeat (first | refine zc ?_ | refine zv ?_)
      refine zt ?_
      rfl
end Go.Proofs.YtfemhnmggobhjaaGreat
