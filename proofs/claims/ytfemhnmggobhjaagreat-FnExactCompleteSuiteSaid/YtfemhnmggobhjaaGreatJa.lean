/- The search for a word that tells two states apart, from any pair. No condition. -/
import Derived.Test.YtfemhnmggobhjaaGreatCa
import Derived.Test.YtfemhnmggobhjaaGreatIa
import Derived.Test.YtfemhnmggobhjaaGreatKe
import Derived.Test.YtfemhnmggobhjaaGreatEd
import Derived.Test.YtfemhnmggobhjaaGreatPe
namespace Go.Proofs.YtfemhnmggobhjaaGreat
open Go
attribute [local irreducible] awp awpL awpQL awpQ awpM pWalk Qt AC thenQ blockQ loopQ OpTo
set_option linter.unusedVariables false
set_option linter.unusedSimpArgs false
set_option maxHeartbeats 2000000
attribute [local irreducible] HC

def lstQ (c0 : Nat) (nx nx' : List (List Int)) : Nat → PL
  | 0 => [(c0, [])]
  | i + 1 => match (lstQ c0 nx nx' i)[i]? with
    | some p => letP nx nx' p (lstQ c0 nx nx' i) nx.length
    | none => lstQ c0 nx nx' i

section
variable {s o s' o' : Int} {nx ou nx' ou' : List (List Int)} {c0 : Nat}
theorem lstQ_ok (m : MV s o nx ou) (m' : MV s' o' nx' ou') (he : nx'.length = nx.length) (hc0 : ((c0 / 16 : Nat) : Int) < s ∧ ((c0 % 16 : Nat) : Int) < s') : ∀ i, POk s s' (lstQ c0 nx nx' i)
  | 0 => by
    have h1 := m.s1
    have h2 := m'.s1
    refine ⟨by simp [lstQ], fun p hp => ?_, fun p hp => ?_⟩
    · simp only [lstQ, List.mem_singleton] at hp; subst hp; exact hc0
    · simp only [lstQ, List.mem_singleton] at hp; subst hp; simp [lstQ]
  | i + 1 => by
    have ih := lstQ_ok m m' he hc0 i
    unfold lstQ
    split
    · rename_i p hp
      exact letP_ok m m' he ih (List.mem_of_getElem? hp) nx.length (Nat.le_refl _)
    · exact ih

/-- How the search ends. -/
structure Srq (c0 : Nat) (nx ou nx' ou' : List (List Int)) (I : Nat) (R : List Int × Bool) : Prop where
  old : ∀ i, i < I → ∃ p, (lstQ c0 nx nx' i)[i]? = some p ∧ ∀ x, x < nx.length → difP ou ou' p.1 x = false
  fin : ((lstQ c0 nx nx' I).length ≤ I ∧ R = ([], false)) ∨ ∃ p x0, (lstQ c0 nx nx' I)[I]? = some p ∧ x0 < nx.length ∧ difP ou ou' p.1 x0 = true ∧ (∀ x, x < x0 → difP ou ou' p.1 x = false) ∧ R = (p.2 ++ [(x0 : Int)], true)
theorem srq_ex (m : MV s o nx ou) (m' : MV s' o' nx' ou') (he : nx'.length = nx.length) (hc0 : ((c0 / 16 : Nat) : Int) < s ∧ ((c0 % 16 : Nat) : Int) < s') : ∃ I R, I ≤ 160 ∧ Srq c0 nx ou nx' ou' I R := by
  have hl := fun i => (lstQ_ok m m' he hc0 i).len m.s1.2 m'.s1.2
  obtain ⟨I, h1, h2, h3⟩ := firstEx (P := fun i => ∀ p, (lstQ c0 nx nx' i)[i]? = some p → ∃ x, x < nx.length ∧ difP ou ou' p.1 x = true) 160 fun p hp => by
    rw [List.getElem?_eq_none (hl 160)] at hp
    cases hp
  have hold : ∀ i, i < I → ∃ p, (lstQ c0 nx nx' i)[i]? = some p ∧ ∀ x, x < nx.length → difP ou ou' p.1 x = false := fun i hi => by
    have hn := h3 i hi
    cases hp : (lstQ c0 nx nx' i)[i]? with
    | none => exact absurd (fun p hp' => by rw [hp] at hp'; cases hp') hn
    | some p =>
      refine ⟨p, rfl, fun x hx => ?_⟩
      cases hd : difP ou ou' p.1 x with
      | false => rfl
      | true => exact absurd (fun p' hp' => by rw [hp] at hp'; cases hp'; exact ⟨x, hx, hd⟩) hn
  cases hp : (lstQ c0 nx nx' I)[I]? with
  | none =>
    have : (lstQ c0 nx nx' I).length ≤ I := by
      rcases Nat.lt_or_ge I (lstQ c0 nx nx' I).length with h | h
      · rw [List.getElem?_eq_getElem h] at hp; cases hp
      · exact h
    exact ⟨I, _, h1, hold, .inl ⟨this, rfl⟩⟩
  | some p =>
    obtain ⟨x, hx, hd⟩ := h2 p hp
    obtain ⟨x0, k1, ⟨k2, k3⟩, k4⟩ := firstEx (P := fun x => x < nx.length ∧ difP ou ou' p.1 x = true) x ⟨hx, hd⟩
    refine ⟨I, _, h1, hold, .inr ⟨p, x0, hp, k2, k3, fun y hy => ?_, rfl⟩⟩
    cases hd : difP ou ou' p.1 y with
    | false => rfl
    | true => exact absurd ⟨by omega, hd⟩ (k4 y hy)
end
theorem srq_hit {c0 : Nat} {nx ou nx' ou' : List (List Int)} {I i x : Nat} {R : List Int × Bool} {p : Nat × List Int} (hS : Srq c0 nx ou nx' ou' I R) (hi : i ≤ I) (hp : (lstQ c0 nx nx' i)[i]? = some p) (hx : x < nx.length) (hd : difP ou ou' p.1 x = true) (hb : ∀ y, y < x → difP ou ou' p.1 y = false) : R = (p.2 ++ [(x : Int)], true) := by
  rcases Nat.lt_or_ge i I with h | h
  · obtain ⟨p', h1, h2⟩ := hS.old i h
    rw [hp] at h1
    cases h1
    rw [h2 x hx] at hd
    cases hd
  · have : i = I := by omega
    subst this
    rcases hS.fin with ⟨h1, _⟩ | ⟨p', x0, h1, h2, h3, h4, h5⟩
    · rw [List.getElem?_eq_none h1] at hp; cases hp
    · rw [hp] at h1
      cases h1
      have : x = x0 := by
        rcases Nat.lt_trichotomy x x0 with h | h | h
        · rw [h4 x h] at hd; cases hd
        · exact h
        · rw [hb x0 h] at h3; cases h3
      subst this
      exact h5
theorem srq_go {c0 : Nat} {nx ou nx' ou' : List (List Int)} {I i : Nat} {R : List Int × Bool} {p : Nat × List Int} (hS : Srq c0 nx ou nx' ou' I R) (hi : i ≤ I) (hp : (lstQ c0 nx nx' i)[i]? = some p) (hb : ∀ y, y < nx.length → difP ou ou' p.1 y = false) : i < I := by
  rcases Nat.lt_or_ge i I with h | h
  · exact h
  · have : i = I := by omega
    subst this
    rcases hS.fin with ⟨h1, _⟩ | ⟨p', x0, h1, h2, h3, h4, h5⟩
    · rw [List.getElem?_eq_none h1] at hp; cases hp
    · rw [hp] at h1
      cases h1
      rw [hb x0 h2] at h3; cases h3
theorem srq_end {c0 : Nat} {nx ou nx' ou' : List (List Int)} {I i : Nat} {R : List Int × Bool} (hS : Srq c0 nx ou nx' ou' I R) (hi : i ≤ I) (hp : (lstQ c0 nx nx' i).length ≤ i) : R = ([], false) := by
  rcases Nat.lt_or_ge i I with h | h
  · obtain ⟨p', h1, h2⟩ := hS.old i h
    rw [List.getElem?_eq_none hp] at h1; cases h1
  · have : i = I := by omega
    subst this
    rcases hS.fin with ⟨h1, h2⟩ | ⟨p', x0, h1, _⟩
    · exact h2
    · rw [List.getElem?_eq_none hp] at h1; cases h1
theorem lstQ_next {c0 : Nat} {nx nx' : List (List Int)} {i : Nat} {p : Nat × List Int} (hp : (lstQ c0 nx nx' i)[i]? = some p) : lstQ c0 nx nx' (i + 1) = letP nx nx' p (lstQ c0 nx nx' i) nx.length := by
  show (match (lstQ c0 nx nx' i)[i]? with
    | some p => letP nx nx' p (lstQ c0 nx nx' i) nx.length
    | none => lstQ c0 nx nx' i) = _
  rw [hp]
theorem spec_findC {s o s' o' : Int} {c0 : Nat} {nx ou nx' ou' : List (List Int)} {I : Nat} {R : List Int × Bool} (m : MV s o nx ou) (m' : MV s' o' nx' ou') (he : nx'.length = nx.length) (hc0 : ((c0 / 16 : Nat) : Int) < s ∧ ((c0 % 16 : Nat) : Int) < s') (hS : Srq c0 nx ou nx' ou' I R) (hI : I ≤ 1000) :
    HC Tryz.prog 131 [.ref 20000 0, .d (.int .i64 ((c0 / 16 : Nat) : Int)), .d (.int .i64 ((c0 % 16 : Nat) : Int))] [(20000, .box [.d (.ptr (mach s o nx ou)), .d (.ptr (mach s' o' nx' ou')), .d .nils, .d .nils])] (.d (.tup [ints R.1, .bool R.2])) [] := by
  have hs := m.s1
  have hs' := m'.s1
  have hn := m.n1
  have heq := m.eq
  have heq' := m'.eq
  have hle : (List.map ints nx).length = nx.length := by simp
  have hok := fun i => lstQ_ok m m' he hc0 i
  have hpl : ∀ L : PL, ((prL L).map ints).length = L.length := fun L => by simp [prL]
  have hwlL : ∀ L : PL, ((wdL L).map ints).length = L.length := fun L => by simp [wdL]
  have hclo : ∀ w : List Int, w.length ≤ 1048576 → HC Tryz.prog 45 [.d (ints w)] [] (.own 30000) [(30000, .arr 2 1 (w.map (.int .i64)))] := fun w h => spec_l00OwnH h
  refine hc_intro tabIs _ Tryz.func131 rfl rfl Tryz.ntmps131 rfl rfl rfl ?_ fun w0 ok0 XM XA anc => ?_
  · intro p hp h
    simp only [List.mem_singleton] at hp
    subst hp
    cases h
  repeat (first | refine v_w (t := 22) ?_ | refine v_w (t := 17) ?_ | refine zc ?_ | refine u_w (t := 17) ?_ | refine u_w (t := 22) ?_ | refine zv ?_)
  refine awp_loop (fun i : Nat => i ≤ I) (fun i => [(0, .ref 20000 0), (8, .d (.int .i64 i))]) (fun i => [(22, .arr 43 1 ((wdL (lstQ c0 nx nx' i)).map ints)), (17, .arr 43 1 ((prL (lstQ c0 nx nx' i)).map ints)), (20000, .box [.d (.ptr (mach s o nx ou)), .d (.ptr (mach s' o' nx' ou')), .own 17, .own 22])]) (fun i => I + 1 - i) 0 (by omega) ?_ rfl ?_
  · exact zs
  · intro i hi
    have hoki := hok i
    have hlen := hoki.len hs.2 hs'.2
    have hpli := hpl (lstQ c0 nx nx' i)
    have hwli := hwlL (lstQ c0 nx nx' i)
    by_cases hlt : i < (lstQ c0 nx nx' i).length
    · obtain ⟨p, hp⟩ : ∃ p, (lstQ c0 nx nx' i)[i]? = some p := ⟨_, List.getElem?_eq_getElem hlt⟩
      have hnext := lstQ_next hp
      have hhit := fun x => srq_hit (x := x) hS hi hp
      have hgo := srq_go hS hi hp
      have hpm := List.mem_of_getElem? hp
      have hpl0 := hoki.lt p hpm
      have hwl := hoki.wl p hpm
      have hpre := letP_pre nx nx' p (lstQ c0 nx nx' i)
      have hokx := letP_ok m m' he hoki hpm
      have hel : ((prL (lstQ c0 nx nx' i)).map ints)[(i : Int).toNat]? = some (.lst [.int .i64 ((p.1 / 16 : Nat) : Int), .int .i64 ((p.1 % 16 : Nat) : Int)]) := by
        unfold prL
        rw [List.getElem?_map, List.getElem?_map, Int.toNat_natCast, hp]
        rfl
      have hdf : ∀ x, difP ou ou' p.1 x = decide (¬ at2 ou x (p.1 / 16 : Nat) = at2 ou' x (p.1 % 16 : Nat)) := fun _ => rfl
      have hnx := fun x (hx : x < nx.length) => nxP_ok m m' he (c := p.1) (x := x) hx hpl0
      generalize hc : lstQ c0 nx nx' i = L at *
      have h0 : L = letP nx nx' p L 0 := rfl
      repeat (first | refine zc ?_ | refine zv ?_)
      refine awp_loop (fun x : Nat => x ≤ nx.length ∧ ∀ y, y < x → difP ou ou' p.1 y = false) (fun x => [(0, .ref 20000 0), (8, .d (.int .i64 i)), (9, .d (.lst [.int .i64 ((p.1 / 16 : Nat) : Int), .int .i64 ((p.1 % 16 : Nat) : Int)])), (10, .d (.int .i64 x))])
        (fun x => [(22, .arr 43 1 ((wdL (letP nx nx' p L x)).map ints)), (17, .arr 43 1 ((prL (letP nx nx' p L x)).map ints)), (20000, .box [.d (.ptr (mach s o nx ou)), .d (.ptr (mach s' o' nx' ou')), .own 17, .own 22])]) (fun x => nx.length - x) 0 (by exact ⟨by omega, fun y h => by omega⟩) ?_ rfl ?_
      · exact zs
      · rintro x ⟨hx, hb⟩
        have hokk := hokx x hx
        have hlenk := hokk.len hs.2 hs'.2
        have hplk := hpl (letP nx nx' p L x)
        have hwlk := hwlL (letP nx nx' p L x)
        by_cases hxl : x < nx.length
        · obtain ⟨t, ht⟩ := hpre x
          have hpi' : (letP nx nx' p L x)[i]? = some p := by rw [ht, List.getElem?_append_left hlt]; exact hp
          have hstep : letP nx nx' p L (x + 1) = addP (letP nx nx' p L x) (nxP nx nx' p.1 x) (p.2 ++ [(x : Int)]) := rfl
          obtain ⟨n1, n2, n3, n4⟩ := hnx x hxl
          have hfind := spec_l01FindE (ls := prL (letP nx nx' p L x)) (w := [at2 nx x (p.1 / 16 : Nat), at2 nx' x (p.1 % 16 : Nat)]) (by rw [prL_length]; omega) (fun v hv => by
            unfold prL at hv
            obtain ⟨q, _, rfl⟩ := List.mem_map.1 hv
            simp) (by simp)
          have hmem := mem_prL (c := nxP nx nx' p.1 x) (L := letP nx nx' p L x)
          rw [n1, n2] at hmem
          have helw : ((wdL (letP nx nx' p L x)).map ints)[(i : Int).toNat]? = some (ints p.2) := by
            unfold wdL
            rw [List.getElem?_map, List.getElem?_map, Int.toNat_natCast, hpi']
            rfl
          generalize letP nx nx' p L x = K at *
          have c0 : [D.int .i64 ((p.1 / 16 : Nat) : Int), D.int .i64 ((p.1 % 16 : Nat) : Int)][(0 : Int).toNat]? = some (.int .i64 ((p.1 / 16 : Nat) : Int)) := rfl
          have c1 : [D.int .i64 ((p.1 / 16 : Nat) : Int), D.int .i64 ((p.1 % 16 : Nat) : Int)][(1 : Int).toNat]? = some (.int .i64 ((p.1 % 16 : Nat) : Int)) := rfl
          have hiK : i < K.length := by rw [ht, List.length_append]; omega
          have e1 := hclo p.2 (by omega)
          have ro1 := el_row2 (xs := ou) (l := (x : Int)) (by omega)
          have ro2 := el_row2 (xs := ou') (l := (x : Int)) (by omega)
          have rn1 := el_row2 (xs := nx) (l := (x : Int)) (by omega)
          have rn2 := el_row2 (xs := nx') (l := (x : Int)) (by omega)
          have l1 := tbl_row m.ou (l := (x : Int)) (by omega)
          have l2 := tbl_row m'.ou (l := (x : Int)) (by omega)
          have l3 := tbl_row m.nx (l := (x : Int)) (by omega)
          have l4 := tbl_row m'.nx (l := (x : Int)) (by omega)
          have eo1 : (List.map (D.int .i64) (row ou x))[((p.1 / 16 : Nat) : Int).toNat]? = some (.int .i64 (at2 ou x (p.1 / 16 : Nat))) := el_int2 (ns := row ou x) (q := ((p.1 / 16 : Nat) : Int)) (by omega)
          have eo2 : (List.map (D.int .i64) (row ou' x))[((p.1 % 16 : Nat) : Int).toNat]? = some (.int .i64 (at2 ou' x (p.1 % 16 : Nat))) := el_int2 (ns := row ou' x) (q := ((p.1 % 16 : Nat) : Int)) (by omega)
          have en1 : (List.map (D.int .i64) (row nx x))[((p.1 / 16 : Nat) : Int).toNat]? = some (.int .i64 (at2 nx x (p.1 / 16 : Nat))) := el_int2 (ns := row nx x) (q := ((p.1 / 16 : Nat) : Int)) (by omega)
          have en2 : (List.map (D.int .i64) (row nx' x))[((p.1 % 16 : Nat) : Int).toNat]? = some (.int .i64 (at2 nx' x (p.1 % 16 : Nat))) := el_int2 (ns := row nx' x) (q := ((p.1 % 16 : Nat) : Int)) (by omega)
          have hdx := hdf x
          have hwm : (p.2.map (D.int .i64)).length = p.2.length := by simp
          have hints : ints (p.2 ++ [(x : Int)]) = D.lst (p.2.map (.int .i64) ++ [.int .i64 (x : Int)]) := by simp [ints]
          repeat (first | refine zc ?_ | refine zv ?_)
          refine hcl [] [(30000, 500)] e1 ?_
          repeat (first | refine zcn ?_ | refine zv ?_)
          refine awp_freeze 500 rfl rfl ?_
          cases hd : difP ou ou' p.1 x
          · rw [hd] at hdx
            have hcd : (!decide (at2 ou x (p.1 / 16 : Nat) = at2 ou' x (p.1 % 16 : Nat))) = false := by simpa using hdx
            obtain ⟨r, r1, r2, e2⟩ := hfind
            by_cases hm : nxP nx nx' p.1 x ∈ K.map (·.1)
            · have hr := r1 (hmem.2 hm)
              have hadd : addP K (nxP nx nx' p.1 x) (p.2 ++ [(x : Int)]) = K := if_pos hm
              rw [hadd] at hstep
              repeat (first | refine zc ?_ | ((first | apply c_l | apply c_q | apply c_lr | apply c_qr); (iterate 2 exact rfl); (focus (first | exact e2)); (iterate 2 exact rfl)) | (apply v_c; (iterate 4 exact rfl); (focus (first | exact e2)); (iterate 2 exact rfl)) | refine zv ?_)
              refine loop_n (x + 1) ⟨by omega, fun y hy => ?_⟩ ?_ ?_ (by omega)
              · by_cases e : y = x
                · subst e; exact hd
                · exact hb y (by omega)
              · exact zs
              · rw [hstep]; rfl
            · have hr := r2 fun h => hm (hmem.1 h)
              have hadd : addP K (nxP nx nx' p.1 x) (p.2 ++ [(x : Int)]) = K ++ [(nxP nx nx' p.1 x, p.2 ++ [(x : Int)])] := if_neg hm
              rw [hadd] at hstep
              have hp2 : (prL (K ++ [(nxP nx nx' p.1 x, p.2 ++ [(x : Int)])])).map ints = (prL K).map ints ++ [.lst [.int .i64 (at2 nx x (p.1 / 16 : Nat)), .int .i64 (at2 nx' x (p.1 % 16 : Nat))]] := by
                simp only [prL, List.map_append, List.map_cons, List.map_nil, n1, n2]
                rfl
              have hw2 : (wdL (K ++ [(nxP nx nx' p.1 x, p.2 ++ [(x : Int)])])).map ints = (wdL K).map ints ++ [D.lst (p.2.map (.int .i64) ++ [.int .i64 (x : Int)])] := by
                simp only [wdL, List.map_append, List.map_cons, List.map_nil, hints]
              repeat (first | refine zc ?_ | ((first | apply c_l | apply c_q | apply c_lr | apply c_qr); (iterate 2 exact rfl); (focus (first | exact e2)); (iterate 2 exact rfl)) | (apply v_c; (iterate 4 exact rfl); (focus (first | exact e2)); (iterate 2 exact rfl)) | refine zv ?_)
              refine loop_n (x + 1) ⟨by omega, fun y hy => ?_⟩ ?_ ?_ (by omega)
              · by_cases e : y = x
                · subst e; exact hd
                · exact hb y (by omega)
              · exact zs
              · rw [hstep, hp2, hw2]; rfl
          · rw [hd] at hdx
            have hcd : (!decide (at2 ou x (p.1 / 16 : Nat) = at2 ou' x (p.1 % 16 : Nat))) = true := by simpa using hdx.symm
            have hR := hhit x hxl hd hb
            subst hR
            repeat (first | refine zc ?_ | refine zv ?_)
            (refine awp_ret ?_; (repeat (first | refine then_r ?_ | refine block_r ?_ | refine loop_r ?_)); refine u_rH [] ?_ ?_)
            · rw [hints]; rfl
            · rfl
        · have : x = nx.length := by omega
          subst this
          have hiI := hgo hb
          rw [← hnext]
          repeat (first | refine zc ?_ | refine zv ?_)
          refine loop_n (i + 1) (by omega) ?_ rfl (by omega)
          exact zs
    · have hR := srq_end hS hi (by omega)
      subst hR
      repeat (first | refine zc ?_ | refine zv ?_)
      (refine awp_ret ?_; (repeat (first | refine then_r ?_ | refine block_r ?_ | refine loop_r ?_)); refine u_rH [] ?_ ?_)
      · rfl
      · rfl

/-- The first word that tells two states of a machine apart, and whether there is one. -/
noncomputable def apQ (nx ou : List (List Int)) (c0 : Nat) : List Int × Bool := open Classical in if h : ∃ R, ∃ I, I ≤ 160 ∧ Srq c0 nx ou nx ou I R then Classical.choose h else ([], false)
theorem spec_l06Apart {s o : Int} {nx ou : List (List Int)} {c0 : Nat} (m : MV s o nx ou) (hc0 : ((c0 / 16 : Nat) : Int) < s ∧ ((c0 % 16 : Nat) : Int) < s) :
    AC Tryz.prog 98 [.ptr (mach s o nx ou), .int .i64 ((c0 / 16 : Nat) : Int), .int .i64 ((c0 % 16 : Nat) : Int)] (.tup [ints (apQ nx ou c0).1, .bool (apQ nx ou c0).2]) := by
  obtain ⟨I, hI, hS⟩ : ∃ I, I ≤ 160 ∧ Srq c0 nx ou nx ou I (apQ nx ou c0) := by
    obtain ⟨I, R, h1, h2⟩ := srq_ex m m rfl hc0
    have h : ∃ R, ∃ I, I ≤ 160 ∧ Srq c0 nx ou nx ou I R := ⟨R, I, h1, h2⟩
    have : apQ nx ou c0 = Classical.choose h := by unfold apQ; exact dif_pos h
    rw [this]
    exact Classical.choose_spec h
  have e1 := spec_findC m m rfl hc0 hS (by omega)
  generalize apQ nx ou c0 = R at *
  refine ac_intro tabIs _ Tryz.func98 rfl rfl Tryz.ntmps98 rfl rfl fun w0 ok0 => ?_
  repeat (first | refine v_w (t := 12) ?_ | refine zc ?_ | refine u_w (t := 12) ?_ | refine zv ?_)
  refine hcl [(12, 20000)] [] e1 ?_
  repeat (first | refine zc ?_ | refine zv ?_)
  (refine awp_ret ?_; (repeat (first | refine then_r ?_ | refine block_r ?_ | refine loop_r ?_)); apply ret_ok (.inr rfl); (focus exact rfl))
  rfl
theorem spec_l06ApartP {s o : Int} {nx ou : List (List Int)} {a b : Nat} (m : MV s o nx ou) (ha : (a : Int) < s) (hb : (b : Int) < s) :
    AC Tryz.prog 98 [.ptr (mach s o nx ou), .int .i64 (a : Nat), .int .i64 (b : Nat)] (.tup [ints (apQ nx ou (a * 16 + b)).1, .bool (apQ nx ou (a * 16 + b)).2]) := by
  have hs := m.s1
  have h1 : (a * 16 + b) / 16 = a := by omega
  have h2 : (a * 16 + b) % 16 = b := by omega
  have := spec_l06Apart (c0 := a * 16 + b) m (by rw [h1, h2]; exact ⟨ha, hb⟩)
  rw [h1, h2] at this
  exact this
end Go.Proofs.YtfemhnmggobhjaaGreat

/-! The machine of picked states, in the reference. No condition. -/
namespace Go.Proofs.YtfemhnmggobhjaaGreat
open Go
attribute [local irreducible] awp awpL awpQL awpQ awpM pWalk Qt AC thenQ blockQ loopQ OpTo
set_option linter.unusedVariables false
set_option linter.unusedSimpArgs false
set_option maxHeartbeats 2000000
attribute [local irreducible] HC

def natI (l : List Nat) : List Int := l.map fun q : Nat => (q : Int)

@[simp] theorem natI_length (l : List Nat) : (natI l).length = l.length := by simp [natI]
theorem natI_get {l : List Nat} {i q : Nat} (h : l[i]? = some q) : ((natI l).map (D.int .i64))[(i : Int).toNat]? = some (.int .i64 q) := by rw [Int.toNat_natCast]; simp [natI, h]
end Go.Proofs.YtfemhnmggobhjaaGreat

/-! Classes, the reduced machine, the trimmed one, in the reference. No condition. -/
namespace Go.Proofs.YtfemhnmggobhjaaGreat
open Go
attribute [local irreducible] awp awpL awpQL awpQ awpM pWalk Qt AC thenQ blockQ loopQ OpTo
set_option linter.unusedVariables false
set_option linter.unusedSimpArgs false
set_option maxHeartbeats 2000000
attribute [local irreducible] HC

/-! ### Classes, plain -/
section
variable (B : Nat → Nat → Bool)
variable {B}
end

end Go.Proofs.YtfemhnmggobhjaaGreat

/-! The reference's draw of a machine that is mostly reduced and trimmed. No condition. -/
namespace Go.Proofs.YtfemhnmggobhjaaGreat
open Go
attribute [local irreducible] awp awpL awpQL awpQ awpM pWalk Qt AC thenQ blockQ loopQ OpTo
set_option linter.unusedVariables false
set_option linter.unusedSimpArgs false
set_option maxHeartbeats 2000000
attribute [local irreducible] HC

end Go.Proofs.YtfemhnmggobhjaaGreat

/-! The law of Survivor. No condition. -/
namespace Go.Proofs.YtfemhnmggobhjaaGreat
open Go
attribute [local irreducible] awp awpL awpQL awpQ awpM pWalk Qt AC thenQ blockQ loopQ OpTo
set_option linter.unusedVariables false
set_option linter.unusedSimpArgs false
set_option maxHeartbeats 2000000
attribute [local irreducible] HC

theorem runO_snoc (nx ou : List (List Int)) : ∀ (w : List Int) (q l : Int), runO nx ou q (w ++ [l]) = runO nx ou q w ++ [at2 ou l (runS nx q w)]
  | [], q, l => by simp [runO, runS]
  | a :: w, q, l => by simp [runO, runS, runO_snoc nx ou w]
theorem runS_snoc (nx : List (List Int)) : ∀ (w : List Int) (q l : Int), runS nx q (w ++ [l]) = at2 nx l (runS nx q w)
  | [], q, l => by simp [runS]
  | a :: w, q, l => by simp [runS, runS_snoc nx w]
section
variable {s o s' o' : Int} {nx ou nx' ou' : List (List Int)}
end
end Go.Proofs.YtfemhnmggobhjaaGreat

/-! The law of Survivor. No condition. -/
namespace Go.Proofs.YtfemhnmggobhjaaGreat
open Go
attribute [local irreducible] awp awpL awpQL awpQ awpM pWalk Qt AC thenQ blockQ loopQ OpTo
set_option linter.unusedVariables false
set_option linter.unusedSimpArgs false
set_option maxHeartbeats 2000000
attribute [local irreducible] HC

end Go.Proofs.YtfemhnmggobhjaaGreat
