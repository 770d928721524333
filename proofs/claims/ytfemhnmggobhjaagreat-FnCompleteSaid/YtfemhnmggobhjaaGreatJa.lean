/- The search for a word that tells two states apart, from any pair. No condition. -/
import Derived.Test.YtfemhnmggobhjaaGreatCa
import Derived.Test.YtfemhnmggobhjaaGreatIa
import Derived.Test.YtfemhnmggobhjaaGreatKe
import Derived.Test.YtfemhnmggobhjaaGreatEd
import Derived.Test.YtfemhnmggobhjaaGreatPe
namespace Go.Proofs.YtfemhnmggobhjaaGreat
open Go
attribute [local irreducible] awp awpL awpQL awpQ awpM pWalk Qt AC thenQ blockQ loopQ OpTo
set_option linter.unusedVariables false
set_option linter.unusedSimpArgs false
set_option maxHeartbeats 2000000
attribute [local irreducible] HC
def lstQ (c0 : Nat) (nx nx' : List (List Int)) : Nat -> PL
  | 0 => [(c0, [])]
  | i + 1 => match (lstQ c0 nx nx' i)[i]? with
    | some p => letP nx nx' p (lstQ c0 nx nx' i) nx.length
    | none => lstQ c0 nx nx' i
section
variable {s o s' o' : Int} {nx ou nx' ou' : List (List Int)} {c0 : Nat}
theorem lstQ_ok (m : MV s o nx ou) (m' : MV s' o' nx' ou') (he : nx'.length = nx.length) (hc0 : ((c0 / 16 : Nat) : Int) < s /\ ((c0 % 16 : Nat) : Int) < s') : ∀ i, POk s s' (lstQ c0 nx nx' i)
  | 0 => by
    have h1 := m.s1
    have h2 := m'.s1
    refine ⟨by simp [lstQ], fun p hp => ?_, fun p hp => ?_⟩
    . simp only [lstQ, List.mem_singleton] at hp; subst hp; exact hc0
    . simp only [lstQ, List.mem_singleton] at hp; subst hp; simp [lstQ]
  | i + 1 => by
    have ih := lstQ_ok m m' he hc0 i
    unfold lstQ
    split
    . rename_i p hp
      exact letP_ok m m' he ih (List.mem_of_getElem? hp) nx.length (Nat.le_refl _)
    . exact ih
structure Srq (c0 : Nat) (nx ou nx' ou' : List (List Int)) (I : Nat) (R : List Int × Bool) : Prop where
  old : ∀ i, i < I -> ∃ p, (lstQ c0 nx nx' i)[i]? = some p /\ ∀ x, x < nx.length -> difP ou ou' p.1 x = false
  fin : ((lstQ c0 nx nx' I).length <= I /\ R = ([], false)) \/ ∃ p x0, (lstQ c0 nx nx' I)[I]? = some p /\ x0 < nx.length /\ difP ou ou' p.1 x0 = true /\ (∀ x, x < x0 -> difP ou ou' p.1 x = false) /\ R = (p.2 ++ [(x0 : Int)], true)
theorem srq_ex (m : MV s o nx ou) (m' : MV s' o' nx' ou') (he : nx'.length = nx.length) (hc0 : ((c0 / 16 : Nat) : Int) < s /\ ((c0 % 16 : Nat) : Int) < s') : ∃ I R, I <= 160 /\ Srq c0 nx ou nx' ou' I R := by
  have hl := fun i => (lstQ_ok m m' he hc0 i).len m.s1.2 m'.s1.2
  obtain ⟨I, h1, h2, h3⟩ := firstEx (P := fun i => ∀ p, (lstQ c0 nx nx' i)[i]? = some p -> ∃ x, x < nx.length /\ difP ou ou' p.1 x = true) 160 fun p hp => by
    rw [List.getElem?_eq_none (hl 160)] at hp
    cases hp
  have hold : ∀ i, i < I -> ∃ p, (lstQ c0 nx nx' i)[i]? = some p /\ ∀ x, x < nx.length -> difP ou ou' p.1 x = false := fun i hi => by
    have hn := h3 i hi
    cases hp : (lstQ c0 nx nx' i)[i]? with
    | none => exact absurd (fun p hp' => by rw [hp] at hp'; cases hp') hn
    | some p =>
      refine ⟨p, rfl, fun x hx => ?_⟩
      cases hd : difP ou ou' p.1 x with
      | false => rfl
      | true => exact absurd (fun p' hp' => by rw [hp] at hp'; cases hp'; exact ⟨x, hx, hd⟩) hn
  cases hp : (lstQ c0 nx nx' I)[I]? with
  | none =>
    have : (lstQ c0 nx nx' I).length <= I := by
      rcases Nat.lt_or_ge I (lstQ c0 nx nx' I).length with h | h
      . rw [List.getElem?_eq_getElem h] at hp; cases hp
      . exact h
    exact ⟨I, _, h1, hold, .inl ⟨this, rfl⟩⟩
  | some p =>
    obtain ⟨x, hx, hd⟩ := h2 p hp
    obtain ⟨x0, k1, ⟨k2, k3⟩, k4⟩ := firstEx (P := fun x => x < nx.length /\ difP ou ou' p.1 x = true) x ⟨hx, hd⟩
    refine ⟨I, _, h1, hold, .inr ⟨p, x0, hp, k2, k3, fun y hy => ?_, rfl⟩⟩
    cases hd : difP ou ou' p.1 y with
    | false => rfl
    | true => exact absurd ⟨by omega, hd⟩ (k4 y hy)
end
theorem srq_hit {c0 : Nat} {nx ou nx' ou' : List (List Int)} {I i x : Nat} {R : List Int × Bool} {p : Nat × List Int} (hS : Srq c0 nx ou nx' ou' I R) (hi : i <= I) (hp : (lstQ c0 nx nx' i)[i]? = some p) (hx : x < nx.length) (hd : difP ou ou' p.1 x = true) (hb : ∀ y, y < x -> difP ou ou' p.1 y = false) : R = (p.2 ++ [(x : Int)], true) := by
  rcases Nat.lt_or_ge i I with h | h
  . obtain ⟨p', h1, h2⟩ := hS.old i h
    rw [hp] at h1
    cases h1
    rw [h2 x hx] at hd
    cases hd
  . have : i = I := by omega
    subst this
    rcases hS.fin with ⟨h1, _⟩ | ⟨p', x0, h1, h2, h3, h4, h5⟩
    . rw [List.getElem?_eq_none h1] at hp; cases hp
    . rw [hp] at h1
      cases h1
      have : x = x0 := by
        rcases Nat.lt_trichotomy x x0 with h | h | h
        . rw [h4 x h] at hd; cases hd
        . exact h
        . rw [hb x0 h] at h3; cases h3
      subst this
      exact h5
theorem srq_go {c0 : Nat} {nx ou nx' ou' : List (List Int)} {I i : Nat} {R : List Int × Bool} {p : Nat × List Int} (hS : Srq c0 nx ou nx' ou' I R) (hi : i <= I) (hp : (lstQ c0 nx nx' i)[i]? = some p) (hb : ∀ y, y < nx.length -> difP ou ou' p.1 y = false) : i < I := by
  rcases Nat.lt_or_ge i I with h | h
  . exact h
  . have : i = I := by omega
    subst this
    rcases hS.fin with ⟨h1, _⟩ | ⟨p', x0, h1, h2, h3, h4, h5⟩
    . rw [List.getElem?_eq_none h1] at hp; cases hp
    . rw [hp] at h1
      cases h1
      rw [hb x0 h2] at h3; cases h3
theorem srq_end {c0 : Nat} {nx ou nx' ou' : List (List Int)} {I i : Nat} {R : List Int × Bool} (hS : Srq c0 nx ou nx' ou' I R) (hi : i <= I) (hp : (lstQ c0 nx nx' i).length <= i) : R = ([], false) := by
  rcases Nat.lt_or_ge i I with h | h
  . obtain ⟨p', h1, h2⟩ := hS.old i h
    rw [List.getElem?_eq_none hp] at h1; cases h1
  . have : i = I := by omega
    subst this
    rcases hS.fin with ⟨h1, h2⟩ | ⟨p', x0, h1, _⟩
    . exact h2
    . rw [List.getElem?_eq_none hp] at h1; cases h1
theorem lstQ_next {c0 : Nat} {nx nx' : List (List Int)} {i : Nat} {p : Nat × List Int} (hp : (lstQ c0 nx nx' i)[i]? = some p) : lstQ c0 nx nx' (i + 1) = letP nx nx' p (lstQ c0 nx nx' i) nx.length := by
  show (match (lstQ c0 nx nx' i)[i]? with
    | some p => letP nx nx' p (lstQ c0 nx nx' i) nx.length
    | none => lstQ c0 nx nx' i) = _
  rw [hp]
theorem spec_findC {s o s' o' : Int} {c0 : Nat} {nx ou nx' ou' : List (List Int)} {I : Nat} {R : List Int × Bool} (m : MV s o nx ou) (m' : MV s' o' nx' ou') (he : nx'.length = nx.length) (hc0 : ((c0 / 16 : Nat) : Int) < s /\ ((c0 % 16 : Nat) : Int) < s') (hS : Srq c0 nx ou nx' ou' I R) (hI : I <= 1000) :
    HC Tryz.prog 131 [.ref 20000 0, .d (.int .i64 ((c0 / 16 : Nat) : Int)), .d (.int .i64 ((c0 % 16 : Nat) : Int))] [(20000, .box [.d (.ptr (mach s o nx ou)), .d (.ptr (mach s' o' nx' ou')), .d .nils, .d .nils])] (.d (.tup [ints R.1, .bool R.2])) [] := by
  have hs := m.s1
  have hs' := m'.s1
  have hn := m.n1
  have heq := m.eq
  have heq' := m'.eq
  have hle : (List.map ints nx).length = nx.length := by simp
  have hok := fun i => lstQ_ok m m' he hc0 i
  have hpl : ∀ L : PL, ((prL L).map ints).length = L.length := fun L => by simp [prL]
  have hwlL : ∀ L : PL, ((wdL L).map ints).length = L.length := fun L => by simp [wdL]
  have hclo : ∀ w : List Int, w.length <= 1048576 -> HC Tryz.prog 45 [.d (ints w)] [] (.own 30000) [(30000, .arr 2 1 (w.map (.int .i64)))] := fun w h => spec_l00OwnH h
  refine hc_intro tabIs _ Tryz.func131 rfl rfl Tryz.ntmps131 rfl rfl rfl ?_ fun w0 ok0 XM XA anc he0 hX0 => ?_
  . intro p hp h
    simp only [List.mem_singleton] at hp
    subst hp
    cases h
  repeat (first | refine v_w (t := 22) ?_ | refine v_w (t := 17) ?_ | refine zc ?_ | refine u_w (t := 17) ?_ | refine u_w (t := 22) ?_ | refine zv ?_)
  refine awp_loop (fun i : Nat => i <= I) (fun i => [(0, .ref 20000 0), (8, .d (.int .i64 i))]) (fun i => [(22, .arr 43 1 ((wdL (lstQ c0 nx nx' i)).map ints)), (17, .arr 43 1 ((prL (lstQ c0 nx nx' i)).map ints)), (20000, .box [.d (.ptr (mach s o nx ou)), .d (.ptr (mach s' o' nx' ou')), .own 17, .own 22])]) (fun i => I + 1 - i) 0 (by omega) ?_ rfl ?_
  . exact zs
  . intro i hi
    have hoki := hok i
    have hlen := hoki.len hs.2 hs'.2
    have hpli := hpl (lstQ c0 nx nx' i)
    have hwli := hwlL (lstQ c0 nx nx' i)
    by_cases hlt : i < (lstQ c0 nx nx' i).length
    . obtain ⟨p, hp⟩ : ∃ p, (lstQ c0 nx nx' i)[i]? = some p := ⟨_, List.getElem?_eq_getElem hlt⟩
      have hnext := lstQ_next hp
      have hhit := fun x => srq_hit (x := x) hS hi hp
      have hgo := srq_go hS hi hp
      have hpm := List.mem_of_getElem? hp
      have hpl0 := hoki.lt p hpm
      have hwl := hoki.wl p hpm
      have hpre := letP_pre nx nx' p (lstQ c0 nx nx' i)
      have hokx := letP_ok m m' he hoki hpm
      have hel : ((prL (lstQ c0 nx nx' i)).map ints)[(i : Int).toNat]? = some (.lst [.int .i64 ((p.1 / 16 : Nat) : Int), .int .i64 ((p.1 % 16 : Nat) : Int)]) := by
        unfold prL
        rw [List.getElem?_map, List.getElem?_map, Int.toNat_natCast, hp]
        rfl
      have hdf : ∀ x, difP ou ou' p.1 x = decide (¬ at2 ou x (p.1 / 16 : Nat) = at2 ou' x (p.1 % 16 : Nat)) := fun _ => rfl
      have hnx := fun x (hx : x < nx.length) => nxP_ok m m' he (c := p.1) (x := x) hx hpl0
      generalize hc : lstQ c0 nx nx' i = L at *
      have h0 : L = letP nx nx' p L 0 := rfl
      repeat (first | refine zc ?_ | refine zv ?_)
      refine awp_loop (fun x : Nat => x <= nx.length /\ ∀ y, y < x -> difP ou ou' p.1 y = false) (fun x => [(0, .ref 20000 0), (8, .d (.int .i64 i)), (9, .d (.lst [.int .i64 ((p.1 / 16 : Nat) : Int), .int .i64 ((p.1 % 16 : Nat) : Int)])), (10, .d (.int .i64 x))])
        (fun x => [(22, .arr 43 1 ((wdL (letP nx nx' p L x)).map ints)), (17, .arr 43 1 ((prL (letP nx nx' p L x)).map ints)), (20000, .box [.d (.ptr (mach s o nx ou)), .d (.ptr (mach s' o' nx' ou')), .own 17, .own 22])]) (fun x => nx.length - x) 0 (by exact ⟨by omega, fun y h => by omega⟩) ?_ rfl ?_
      . exact zs
      . rintro x ⟨hx, hb⟩
        have hokk := hokx x hx
        have hlenk := hokk.len hs.2 hs'.2
        have hplk := hpl (letP nx nx' p L x)
        have hwlk := hwlL (letP nx nx' p L x)
        by_cases hxl : x < nx.length
        . obtain ⟨t, ht⟩ := hpre x
          have hpi' : (letP nx nx' p L x)[i]? = some p := by rw [ht, List.getElem?_append_left hlt]; exact hp
          have hstep : letP nx nx' p L (x + 1) = addP (letP nx nx' p L x) (nxP nx nx' p.1 x) (p.2 ++ [(x : Int)]) := rfl
          obtain ⟨n1, n2, n3, n4⟩ := hnx x hxl
          have hfind := spec_l01FindE (ls := prL (letP nx nx' p L x)) (w := [at2 nx x (p.1 / 16 : Nat), at2 nx' x (p.1 % 16 : Nat)]) (by rw [prL_length]; omega) (fun v hv => by
            unfold prL at hv
            obtain ⟨q, _, rfl⟩ := List.mem_map.1 hv
            simp) (by simp)
          have hmem := mem_prL (c := nxP nx nx' p.1 x) (L := letP nx nx' p L x)
          rw [n1, n2] at hmem
          have helw : ((wdL (letP nx nx' p L x)).map ints)[(i : Int).toNat]? = some (ints p.2) := by
            unfold wdL
            rw [List.getElem?_map, List.getElem?_map, Int.toNat_natCast, hpi']
            rfl
          generalize letP nx nx' p L x = K at *
          have c0 : [D.int .i64 ((p.1 / 16 : Nat) : Int), D.int .i64 ((p.1 % 16 : Nat) : Int)][(0 : Int).toNat]? = some (.int .i64 ((p.1 / 16 : Nat) : Int)) := rfl
          have c1 : [D.int .i64 ((p.1 / 16 : Nat) : Int), D.int .i64 ((p.1 % 16 : Nat) : Int)][(1 : Int).toNat]? = some (.int .i64 ((p.1 % 16 : Nat) : Int)) := rfl
          have hiK : i < K.length := by rw [ht, List.length_append]; omega
          have e1 := hclo p.2 (by omega)
          have ro1 := el_row2 (xs := ou) (l := (x : Int)) (by omega)
          have ro2 := el_row2 (xs := ou') (l := (x : Int)) (by omega)
          have rn1 := el_row2 (xs := nx) (l := (x : Int)) (by omega)
          have rn2 := el_row2 (xs := nx') (l := (x : Int)) (by omega)
          have l1 := tbl_row m.ou (l := (x : Int)) (by omega)
          have l2 := tbl_row m'.ou (l := (x : Int)) (by omega)
          have l3 := tbl_row m.nx (l := (x : Int)) (by omega)
          have l4 := tbl_row m'.nx (l := (x : Int)) (by omega)
          have eo1 : (List.map (D.int .i64) (row ou x))[((p.1 / 16 : Nat) : Int).toNat]? = some (.int .i64 (at2 ou x (p.1 / 16 : Nat))) := el_int2 (ns := row ou x) (q := ((p.1 / 16 : Nat) : Int)) (by omega)
          have eo2 : (List.map (D.int .i64) (row ou' x))[((p.1 % 16 : Nat) : Int).toNat]? = some (.int .i64 (at2 ou' x (p.1 % 16 : Nat))) := el_int2 (ns := row ou' x) (q := ((p.1 % 16 : Nat) : Int)) (by omega)
          have en1 : (List.map (D.int .i64) (row nx x))[((p.1 / 16 : Nat) : Int).toNat]? = some (.int .i64 (at2 nx x (p.1 / 16 : Nat))) := el_int2 (ns := row nx x) (q := ((p.1 / 16 : Nat) : Int)) (by omega)
          have en2 : (List.map (D.int .i64) (row nx' x))[((p.1 % 16 : Nat) : Int).toNat]? = some (.int .i64 (at2 nx' x (p.1 % 16 : Nat))) := el_int2 (ns := row nx' x) (q := ((p.1 % 16 : Nat) : Int)) (by omega)
          have hdx := hdf x
          have hwm : (p.2.map (D.int .i64)).length = p.2.length := by simp
          have hints : ints (p.2 ++ [(x : Int)]) = D.lst (p.2.map (.int .i64) ++ [.int .i64 (x : Int)]) := by simp [ints]
          repeat (first | refine zc ?_ | refine zv ?_)
          refine hcl [] [(30000, 500)] e1 ?_
          repeat (first | refine zcn ?_ | refine zv ?_)
          refine awp_freeze 500 rfl rfl ?_
          cases hd : difP ou ou' p.1 x
          . rw [hd] at hdx
            have hcd : (!decide (at2 ou x (p.1 / 16 : Nat) = at2 ou' x (p.1 % 16 : Nat))) = false := by simpa using hdx
            obtain ⟨r, r1, r2, e2⟩ := hfind
            by_cases hm : nxP nx nx' p.1 x ∈ K.map (·.1)
            . have hr := r1 (hmem.2 hm)
              have hadd : addP K (nxP nx nx' p.1 x) (p.2 ++ [(x : Int)]) = K := if_pos hm
              rw [hadd] at hstep
              repeat (first | refine zc ?_ | refine zk (e := by exact e2) (n := ?_) | refine zv ?_)
              refine loop_n (x + 1) ⟨by omega, fun y hy => ?_⟩ ?_ ?_ (by omega)
              . by_cases e : y = x
                . subst e; exact hd
                . exact hb y (by omega)
              . exact zs
              . rw [hstep]; rfl
            . have hr := r2 fun h => hm (hmem.1 h)
              have hadd : addP K (nxP nx nx' p.1 x) (p.2 ++ [(x : Int)]) = K ++ [(nxP nx nx' p.1 x, p.2 ++ [(x : Int)])] := if_neg hm
              rw [hadd] at hstep
              have hp2 : (prL (K ++ [(nxP nx nx' p.1 x, p.2 ++ [(x : Int)])])).map ints = (prL K).map ints ++ [.lst [.int .i64 (at2 nx x (p.1 / 16 : Nat)), .int .i64 (at2 nx' x (p.1 % 16 : Nat))]] := by
                simp only [prL, List.map_append, List.map_cons, List.map_nil, n1, n2]
                rfl
              have hw2 : (wdL (K ++ [(nxP nx nx' p.1 x, p.2 ++ [(x : Int)])])).map ints = (wdL K).map ints ++ [D.lst (p.2.map (.int .i64) ++ [.int .i64 (x : Int)])] := by
                simp only [wdL, List.map_append, List.map_cons, List.map_nil, hints]
              repeat (first | refine zc ?_ | refine zk (e := by exact e2) (n := ?_) | refine zv ?_)
              refine loop_n (x + 1) ⟨by omega, fun y hy => ?_⟩ ?_ ?_ (by omega)
              . by_cases e : y = x
                . subst e; exact hd
                . exact hb y (by omega)
              . exact zs
              . rw [hstep, hp2, hw2]; rfl
          . rw [hd] at hdx
            have hcd : (!decide (at2 ou x (p.1 / 16 : Nat) = at2 ou' x (p.1 % 16 : Nat))) = true := by simpa using hdx.symm
            have hR := hhit x hxl hd hb
            subst hR
            repeat (first | refine zc ?_ | refine zv ?_)
            (refine zb ?_; refine u_rH [] ?_ ?_)
            . rw [hints]; rfl
            . rfl
        . have : x = nx.length := by omega
          subst this
          have hiI := hgo hb
          rw [<- hnext]
          repeat (first | refine zc ?_ | refine zv ?_)
          refine loop_n (i + 1) (by omega) ?_ rfl (by omega)
          exact zs
    . have hR := srq_end hS hi (by omega)
      subst hR
      repeat (first | refine zc ?_ | refine zv ?_)
      (refine zb ?_; refine u_rH [] ?_ ?_)
      . rfl
      . rfl
noncomputable def apQ (nx ou : List (List Int)) (c0 : Nat) : List Int × Bool := open Classical in if h : ∃ R, ∃ I, I <= 160 /\ Srq c0 nx ou nx ou I R then Classical.choose h else ([], false)
theorem spec_l06Apart {s o : Int} {nx ou : List (List Int)} {c0 : Nat} (m : MV s o nx ou) (hc0 : ((c0 / 16 : Nat) : Int) < s /\ ((c0 % 16 : Nat) : Int) < s) :
    AC Tryz.prog 98 [.ptr (mach s o nx ou), .int .i64 ((c0 / 16 : Nat) : Int), .int .i64 ((c0 % 16 : Nat) : Int)] (.tup [ints (apQ nx ou c0).1, .bool (apQ nx ou c0).2]) := by
  obtain ⟨I, hI, hS⟩ : ∃ I, I <= 160 /\ Srq c0 nx ou nx ou I (apQ nx ou c0) := by
    obtain ⟨I, R, h1, h2⟩ := srq_ex m m rfl hc0
    have h : ∃ R, ∃ I, I <= 160 /\ Srq c0 nx ou nx ou I R := ⟨R, I, h1, h2⟩
    have : apQ nx ou c0 = Classical.choose h := by unfold apQ; exact dif_pos h
    rw [this]
    exact Classical.choose_spec h
  have e1 := spec_findC m m rfl hc0 hS (by omega)
  generalize apQ nx ou c0 = R at *
  refine ac_intro tabIs _ Tryz.func98 rfl rfl Tryz.ntmps98 rfl rfl fun w0 ok0 he0 => ?_
  repeat (first | refine v_w (t := 12) ?_ | refine zc ?_ | refine u_w (t := 12) ?_ | refine zv ?_)
  refine hcl [(12, 20000)] [] e1 ?_
  repeat (first | refine zc ?_ | refine zv ?_)
  refine zt ?_
  rfl
theorem spec_l06ApartP {s o : Int} {nx ou : List (List Int)} {a b : Nat} (m : MV s o nx ou) (ha : (a : Int) < s) (hb : (b : Int) < s) :
    AC Tryz.prog 98 [.ptr (mach s o nx ou), .int .i64 (a : Nat), .int .i64 (b : Nat)] (.tup [ints (apQ nx ou (a * 16 + b)).1, .bool (apQ nx ou (a * 16 + b)).2]) := by
  have hs := m.s1
  have h1 : (a * 16 + b) / 16 = a := by omega
  have h2 : (a * 16 + b) % 16 = b := by omega
  have := spec_l06Apart (c0 := a * 16 + b) m (by rw [h1, h2]; exact ⟨ha, hb⟩)
  rw [h1, h2] at this
  exact this
end Go.Proofs.YtfemhnmggobhjaaGreat
namespace Go.Proofs.YtfemhnmggobhjaaGreat
open Go
attribute [local irreducible] awp awpL awpQL awpQ awpM pWalk Qt AC thenQ blockQ loopQ OpTo
set_option linter.unusedVariables false
set_option linter.unusedSimpArgs false
set_option maxHeartbeats 2000000
attribute [local irreducible] HC
def natI (l : List Nat) : List Int := l.map fun q : Nat => (q : Int)
@[simp] theorem natI_length (l : List Nat) : (natI l).length = l.length := by simp [natI]
theorem natI_get {l : List Nat} {i q : Nat} (h : l[i]? = some q) : ((natI l).map (D.int .i64))[(i : Int).toNat]? = some (.int .i64 q) := by rw [Int.toNat_natCast]; simp [natI, h]
def pkN (ord : List Nat) (to : List Int) (r : List Int) : List Int := ord.map fun q => to.getD (r.getD q 0).toNat 0
def pkO (ord : List Nat) (r : List Int) : List Int := ord.map fun q => r.getD q 0
theorem take_snoc {α : Type} {l : List α} {i : Nat} {a : α} (h : l[i]? = some a) : l.take (i + 1) = l.take i ++ [a] := by
  rcases Nat.lt_or_ge i l.length with hi | hi
  . rw [List.getElem?_eq_getElem hi] at h
    rw [List.take_succ_eq_append_getElem hi, Option.some.inj h]
  . simp [hi] at h
theorem mv_pick {s o : Int} {nx ou : List (List Int)} (m : MV s o nx ou) {ord : List Nat} {to : List Int} (h1 : 1 <= ord.length /\ ord.length <= 10) (ho : ∀ q ∈ ord, (q : Int) < s) (hl : (to.length : Int) = s) (ht : ∀ x ∈ to, 0 <= x /\ x < (ord.length : Int)) :
    MV ord.length o (nx.map (pkN ord to)) (ou.map (pkO ord)) := by
  refine ⟨by omega, m.o1, by rw [List.length_map]; exact m.n1, by rw [List.length_map, List.length_map]; exact m.eq, fun v hv => ?_, fun v hv => ?_⟩
  . obtain ⟨r, hr, rfl⟩ := List.mem_map.1 hv
    refine ⟨by simp [pkN], fun x hx => ?_⟩
    obtain ⟨q, hq, rfl⟩ := List.mem_map.1 hx
    obtain ⟨g1, g2⟩ := m.nx r hr
    have hq' := ho q hq
    have g3 := g2 (r.getD q 0) (by rw [List.getD_eq_getElem?_getD, List.getElem?_eq_getElem (by omega)]; exact List.getElem_mem _)
    refine ht _ ?_
    rw [List.getD_eq_getElem?_getD, List.getElem?_eq_getElem (by omega)]
    exact List.getElem_mem _
  . obtain ⟨r, hr, rfl⟩ := List.mem_map.1 hv
    refine ⟨by simp [pkO], fun x hx => ?_⟩
    obtain ⟨q, hq, rfl⟩ := List.mem_map.1 hx
    obtain ⟨g1, g2⟩ := m.ou r hr
    have hq' := ho q hq
    exact g2 (r.getD q 0) (by rw [List.getD_eq_getElem?_getD, List.getElem?_eq_getElem (by omega)]; exact List.getElem_mem _)
theorem spec_l06PickH {s o : Int} {nx ou : List (List Int)} (m : MV s o nx ou) {ord : List Nat} {to : List Int} (h1 : 1 <= ord.length /\ ord.length <= 10) (ho : ∀ q ∈ ord, (q : Int) < s) (hl : (to.length : Int) = s) (ht : ∀ x ∈ to, 0 <= x /\ x < (ord.length : Int)) :
    HC Tryz.prog 139 [.d (.ptr (mach s o nx ou)), .d (ints (natI ord)), .d (ints to)] [] (.agg [.d (.int .i64 ord.length), .d (.int .i64 o), .own 30000, .own 30001])
      [(30000, .rows 43 2 1 (rws (nx.map (pkN ord to))) none), (30001, .rows 43 2 1 (rws (ou.map (pkO ord))) none)] := by
  have hs := m.s1
  have hn := m.n1
  have he := m.eq
  have hle : (List.map ints nx).length = nx.length := by simp
  have hle2 : (List.map ints ou).length = ou.length := by simp
  have hlo : (List.map (D.int .i64) (natI ord)).length = ord.length := by simp
  have hlt : (List.map (D.int .i64) to).length = to.length := by simp
  unfold mach
  refine hc_intro tabIs _ Tryz.func139 rfl rfl Tryz.ntmps139 rfl rfl rfl ?_ fun w0 ok0 XM XA anc he0 hX0 => ?_
  . exact likeIn_nil
  repeat (first | refine zc ?_ | refine zv ?_)
  refine awp_nilCell 7 2 200 43 1 (by exact rfl) (by exact rfl) rfl rfl rfl ?_
  refine awp_toRows 200 2 1 rfl rfl rfl rfl ?_
  refine awp_nilCell 7 3 201 43 1 (by exact rfl) (by exact rfl) rfl rfl rfl ?_
  refine awp_toRows 201 2 1 rfl rfl rfl rfl ?_
  refine awp_perm _ rfl ?_
  refine awp_loop (fun k : Nat => k <= nx.length) (fun k => [(0, .d (.ptr (.agg [.int .i64 s, .int .i64 o, rows nx, rows ou]))), (1, .d (ints (natI ord))), (2, .d (ints to)), (6, .ref 6 0), (7, .ref 7 0), (8, .d (.int .i64 k))])
    (fun k => [(6, .box [.d (.int .i64 0), .d (.int .i64 0), .d .nils, .d .nils]), (7, .box [.d (.int .i64 (List.map (D.int .i64) (natI ord)).length), .d (.int .i64 o), .own 200, .own 201]), (200, .rows 43 2 1 (rws ((nx.take k).map (pkN ord to))) none), (201, .rows 43 2 1 (rws ((ou.take k).map (pkO ord))) none)])
    (fun k => nx.length - k) 0 (by omega) ?_ (by as_aux_lemma => kernel_rfl) ?_
  . exact zs
  . intro k hk
    have hr1 : (rws ((nx.take k).map (pkN ord to))).length = k := by simp [rws]; omega
    have hr2 : (rws ((ou.take k).map (pkO ord))).length = k := by simp [rws]; omega
    by_cases hlt : k < nx.length
    . have hx1 : (List.map ints nx)[(k : Int).toNat]? = some (ints (nx.getD k [])) := el_row2 (xs := nx) (l := (k : Int)) (by omega)
      have hx2 : (List.map ints ou)[(k : Int).toNat]? = some (ints (ou.getD k [])) := el_row2 (xs := ou) (l := (k : Int)) (by omega)
      have g1 : Rg s s (nx.getD k []) := rg_tbl.1 m.nx k (by omega)
      have g2 : Rg s o (ou.getD k []) := rg_tbl.1 m.ou k (by omega)
      have s1 : (nx.take (k + 1)).map (pkN ord to) = (nx.take k).map (pkN ord to) ++ [pkN ord to (nx.getD k [])] := by
        have : nx[k]? = some (nx.getD k []) := by rw [List.getD_eq_getElem?_getD, List.getElem?_eq_getElem (by omega)]; rfl
        rw [take_snoc this]; simp
      have s2 : (ou.take (k + 1)).map (pkO ord) = (ou.take k).map (pkO ord) ++ [pkO ord (ou.getD k [])] := by
        have : ou[k]? = some (ou.getD k []) := by rw [List.getD_eq_getElem?_getD, List.getElem?_eq_getElem (by omega)]; rfl
        rw [take_snoc this]; simp
      generalize nx.getD k [] = r at *
      generalize ou.getD k [] = ro at *
      generalize (nx.take k).map (pkN ord to) = N at *
      generalize (ou.take k).map (pkO ord) = O at *
      have gl1 := g1.1
      have gl2 := g2.1
      have hrl : (r.map (D.int .i64)).length = r.length := by simp
      have hrol : (ro.map (D.int .i64)).length = ro.length := by simp
      repeat (first | refine v_w (t := 29) ?_ | refine v_w (t := 28) ?_ | refine zc ?_ | refine u_w (t := 28) ?_ | refine u_w (t := 29) ?_ | refine zv ?_)
      refine awp_perm _ rfl ?_
      refine awp_loop (fun x : Nat => x <= ord.length) (fun x => [(0, .d (.ptr (.agg [.int .i64 s, .int .i64 o, rows nx, rows ou]))), (1, .d (ints (natI ord))), (2, .d (ints to)), (6, .ref 6 0), (7, .ref 7 0), (8, .d (.int .i64 k)), (9, .own 28), (10, .own 29), (11, .d (.int .i64 x))])
        (fun x => [(6, .box [.d (.int .i64 0), .d (.int .i64 0), .d .nils, .d .nils]), (7, .box [.d (.int .i64 (List.map (D.int .i64) (natI ord)).length), .d (.int .i64 o), .own 200, .own 201]), (28, .arr 2 1 ((pkN (ord.take x) to r).map (.int .i64))), (29, .arr 2 1 ((pkO (ord.take x) ro).map (.int .i64))), (200, .rows 43 2 1 (rws N) none), (201, .rows 43 2 1 (rws O) none)])
        (fun x => ord.length - x) 0 (by omega) ?_ (by as_aux_lemma => kernel_rfl) ?_
      . exact zs
      . intro x hx
        have hm1 : ((pkN (ord.take x) to r).map (D.int .i64)).length = x := by simp [pkN]; omega
        have hm2 : ((pkO (ord.take x) ro).map (D.int .i64)).length = x := by simp [pkO]; omega
        by_cases hxl : x < ord.length
        . have hq : ord[x]? = some ord[x] := List.getElem?_eq_getElem hxl
          have hqs := ho _ (List.getElem_mem hxl)
          have p1 : pkN (ord.take (x + 1)) to r = pkN (ord.take x) to r ++ [to.getD (r.getD ord[x] 0).toNat 0] := by rw [take_snoc hq]; unfold pkN; rw [List.map_append]; rfl
          have p2 : pkO (ord.take (x + 1)) ro = pkO (ord.take x) ro ++ [ro.getD ord[x] 0] := by rw [take_snoc hq]; unfold pkO; rw [List.map_append]; rfl
          generalize ord[x] = q at *
          have y0 := natI_get hq
          have y1 : (r.map (D.int .i64))[((q : Nat) : Int).toNat]? = some (.int .i64 (r.getD q 0)) := el_int2 (ns := r) (q := (q : Int)) (by omega)
          have y2 : (ro.map (D.int .i64))[((q : Nat) : Int).toNat]? = some (.int .i64 (ro.getD q 0)) := el_int2 (ns := ro) (q := (q : Int)) (by omega)
          have gv := g1.2 (r.getD q 0) (by rw [List.getD_eq_getElem?_getD, List.getElem?_eq_getElem (by omega)]; exact List.getElem_mem _)
          generalize r.getD q 0 = v at *
          generalize ro.getD q 0 = vo at *
          have y3 : (to.map (D.int .i64))[v.toNat]? = some (.int .i64 (to.getD v.toNat 0)) := el_int2 (ns := to) (q := v) (by omega)
          generalize to.getD v.toNat 0 = u at *
          repeat (first | refine zc ?_ | refine zv ?_)
          (apply lto; (focus (apply wo_append; (iterate 15 exact rfl); (simp only [hm1, List.length_singleton]; omega))))
          repeat (first | refine zc ?_ | refine zv ?_)
          (apply lto; (focus (apply wo_append; (iterate 15 exact rfl); (simp only [hm2, List.length_singleton]; omega))))
          repeat (first | refine zcr ?_ | refine zv ?_)
          refine awp_perm _ rfl ?_
          repeat (first | refine zc ?_ | refine zv ?_)
          refine loop_n (x + 1) (by omega) ?_ ?_ (by omega)
          . exact zs
          . rw [p1, p2]; simp only [List.map_append]; (as_aux_lemma => kernel_rfl)
        . have hxe : x = ord.length := by omega
          subst hxe
          rw [List.take_length]
          have ra : rws (N ++ [pkN ord to r]) = rws N ++ [(pkN ord to r).map (.int .i64)] := by simp [rws]
          have rb : rws (O ++ [pkO ord ro]) = rws O ++ [(pkO ord ro).map (.int .i64)] := by simp [rws]
          repeat (first | refine zcr ?_ | refine zv ?_)
          refine awp_region ?_
          repeat (first | refine zcr ?_ | refine zv ?_)
          refine awp_region ?_
          repeat (first | refine zcr ?_ | refine zv ?_)
          refine awp_region ?_
          repeat (first | refine zcr ?_ | refine zv ?_)
          refine awp_perm _ rfl ?_
          repeat (first | refine zc ?_ | refine zv ?_)
          refine loop_n (k + 1) (by omega) ?_ ?_ (by omega)
          . exact zs
          . rw [s1, s2, ra, rb]; (as_aux_lemma => kernel_rfl)
    . have hkn : k = nx.length := by omega
      subst hkn
      rw [List.take_length, show ou.take nx.length = ou by rw [<- he, List.take_length]]
      repeat (first | refine zc ?_ | refine zv ?_)
      (refine zb ?_; refine u_rH [(200, 30000), (201, 30001)] ?_ ?_)
      . simp only [List.length_map, natI_length]; rfl
      . rfl
theorem spec_l06Pick {s o : Int} {nx ou : List (List Int)} (m : MV s o nx ou) {ord : List Nat} {to : List Int} (h1 : 1 <= ord.length /\ ord.length <= 10) (ho : ∀ q ∈ ord, (q : Int) < s) (hl : (to.length : Int) = s) (ht : ∀ x ∈ to, 0 <= x /\ x < (ord.length : Int)) :
    AC Tryz.prog 139 [.ptr (mach s o nx ou), ints (natI ord), ints to] (mach ord.length o (nx.map (pkN ord to)) (ou.map (pkO ord))) := by
  have := ac_of_hc (xs := [.ptr (mach s o nx ou), ints (natI ord), ints to]) (d := .agg [.int .i64 ord.length, .int .i64 o, .lst ((rws (nx.map (pkN ord to))).map D.lst), .lst ((rws (ou.map (pkO ord))).map D.lst)]) (spec_l06PickH m h1 ho hl ht) rfl
  rw [rws_dat, rws_dat] at this
  exact this
end Go.Proofs.YtfemhnmggobhjaaGreat
namespace Go.Proofs.YtfemhnmggobhjaaGreat
open Go
attribute [local irreducible] awp awpL awpQL awpQ awpM pWalk Qt AC thenQ blockQ loopQ OpTo
set_option linter.unusedVariables false
set_option linter.unusedSimpArgs false
set_option maxHeartbeats 2000000
attribute [local irreducible] HC
section
variable (B : Nat -> Nat -> Bool)
def newC (s : Nat) : Option Nat := (List.range s).find? fun t => !B s t
def clsF : Nat -> List Int × Nat
  | 0 => ([], 0)
  | s + 1 => match newC B s with
    | some t => ((clsF s).1 ++ [(clsF s).1.getD t 0], (clsF s).2)
    | none => ((clsF s).1 ++ [((clsF s).2 : Int)], (clsF s).2 + 1)
def ordF : Nat -> List Nat
  | 0 => []
  | s + 1 => match newC B s with
    | some _ => ordF s
    | none => ordF s ++ [s]
variable {B}
theorem clsF_some {s t : Nat} (h : newC B s = some t) : clsF B (s + 1) = ((clsF B s).1 ++ [(clsF B s).1.getD t 0], (clsF B s).2) := by
  show (match newC B s with | some t => _ | none => _) = _
  rw [h]
theorem clsF_none {s : Nat} (h : newC B s = none) : clsF B (s + 1) = ((clsF B s).1 ++ [((clsF B s).2 : Int)], (clsF B s).2 + 1) := by
  show (match newC B s with | some t => _ | none => _) = _
  rw [h]
theorem ordF_some {s t : Nat} (h : newC B s = some t) : ordF B (s + 1) = ordF B s := by
  show (match newC B s with | some t => _ | none => _) = _
  rw [h]
theorem ordF_none {s : Nat} (h : newC B s = none) : ordF B (s + 1) = ordF B s ++ [s] := by
  show (match newC B s with | some t => _ | none => _) = _
  rw [h]
theorem newC_lt {s t : Nat} (h : newC B s = some t) : t < s /\ B s t = false /\ ∀ u, u < t -> B s u = true := by
  obtain ⟨h1, xs, bs, h2, h3⟩ := List.find?_eq_some_iff_append.1 h
  have hl : xs.length + (1 + bs.length) = s := by have := congrArg List.length h2; simp at this; omega
  have hi : ∀ u (hu : u < xs.length), xs[u] = u := fun u hu => by
    have : (List.range s)[u]? = (xs ++ t :: bs)[u]? := by rw [h2]
    rw [List.getElem?_range (by omega), List.getElem?_append_left hu, List.getElem?_eq_getElem hu] at this
    exact (Option.some.inj this).symm
  have ht : t = xs.length := by
    have : (List.range s)[xs.length]? = (xs ++ t :: bs)[xs.length]? := by rw [h2]
    rw [List.getElem?_range (by omega), List.getElem?_append_right (Nat.le_refl _)] at this
    simpa using this.symm
  refine ⟨by omega, by simpa using h1, fun u hu => ?_⟩
  have := h3 u (by have := List.getElem_mem (l := xs) (n := u) (by omega); rwa [hi u (by omega)] at this)
  simpa using this
theorem newC_no {s : Nat} (h : newC B s = none) : ∀ u, u < s -> B s u = true := fun u hu => by
  have := List.find?_eq_none.1 h u (List.mem_range.2 hu)
  simpa using this
theorem newC_first {s t : Nat} (ht : t < s) (h1 : B s t = false) (h2 : ∀ u, u < t -> B s u = true) : newC B s = some t := by
  cases h : newC B s with
  | none => rw [newC_no h t ht] at h1; cases h1
  | some u =>
    obtain ⟨g1, g2, g3⟩ := newC_lt h
    rcases Nat.lt_trichotomy t u with e | e | e
    . rw [g3 t e] at h1; cases h1
    . rw [e]
    . rw [h2 u e] at g2; cases g2
theorem newC_not {s : Nat} (h : ∀ u, u < s -> B s u = true) : newC B s = none := by
  cases e : newC B s with
  | none => rfl
  | some u =>
    obtain ⟨g1, g2, g3⟩ := newC_lt e
    rw [h u g1] at g2; cases g2
theorem clsF_len : ∀ s, (clsF B s).1.length = s
  | 0 => rfl
  | s + 1 => by
    cases h : newC B s with
    | none => rw [clsF_none h]; simp [clsF_len s]
    | some t => rw [clsF_some h]; simp [clsF_len s]
theorem clsF_lt : ∀ s, ∀ x ∈ (clsF B s).1, 0 <= x /\ x < ((clsF B s).2 : Int)
  | 0 => fun x h => by cases h
  | s + 1 => by
    cases h : newC B s with
    | none =>
      rw [clsF_none h]
      intro x hx
      rcases List.mem_append.1 hx with hx | hx
      . have := clsF_lt s x hx; dsimp only; omega
      . simp only [List.mem_singleton] at hx; subst hx; dsimp only; omega
    | some t =>
      obtain ⟨g1, -, -⟩ := newC_lt h
      rw [clsF_some h]
      intro x hx
      rcases List.mem_append.1 hx with hx | hx
      . exact clsF_lt s x hx
      . simp only [List.mem_singleton] at hx
        subst hx
        refine clsF_lt s _ ?_
        rw [List.getD_eq_getElem?_getD, List.getElem?_eq_getElem (by rw [clsF_len]; exact g1)]
        exact List.getElem_mem _
theorem ordF_len : ∀ s, (ordF B s).length = (clsF B s).2
  | 0 => rfl
  | s + 1 => by
    cases h : newC B s with
    | none => rw [clsF_none h, ordF_none h]; simp [ordF_len s]
    | some t => rw [clsF_some h, ordF_some h]; exact ordF_len s
theorem ordF_lt : ∀ s, ∀ q ∈ ordF B s, q < s
  | 0 => fun x h => by cases h
  | s + 1 => by
    cases h : newC B s with
    | none =>
      rw [ordF_none h]
      intro q hq
      rcases List.mem_append.1 hq with hq | hq
      . have := ordF_lt s q hq; omega
      . simp only [List.mem_singleton] at hq; omega
    | some t =>
      rw [ordF_some h]
      exact fun q hq => by have := ordF_lt s q hq; omega
theorem ordF_bounds : ∀ s, (ordF B s).length <= s /\ (1 <= s -> 1 <= (ordF B s).length)
  | 0 => ⟨by simp [ordF], by omega⟩
  | s + 1 => by
    have ih := ordF_bounds s
    cases h : newC B s with
    | none => rw [ordF_none h]; simp; omega
    | some t =>
      obtain ⟨g1, -, -⟩ := newC_lt h
      rw [ordF_some h]
      omega
theorem clsF_pre (s : Nat) : ∀ d, ∃ t, (clsF B (s + d)).1 = (clsF B s).1 ++ t
  | 0 => ⟨[], by simp⟩
  | d + 1 => by
    obtain ⟨t, ht⟩ := clsF_pre s d
    cases h : newC B (s + d) with
    | none => exact ⟨t ++ [((clsF B (s + d)).2 : Int)], by rw [<- Nat.add_assoc, clsF_none h, ht, List.append_assoc]⟩
    | some u => exact ⟨t ++ [(clsF B (s + d)).1.getD u 0], by rw [<- Nat.add_assoc, clsF_some h]; dsimp only; rw [ht, List.append_assoc]⟩
theorem clsF_at {s S : Nat} (h : s < S) : (newC B s = none -> (clsF B S).1.getD s 0 = ((ordF B s).length : Int)) /\ (newC B s ≠ none -> (clsF B S).1.getD s 0 ≠ ((ordF B s).length : Int)) := by
  obtain ⟨t, ht⟩ := clsF_pre (B := B) (s + 1) (S - (s + 1))
  rw [show s + 1 + (S - (s + 1)) = S by omega] at ht
  have hl := clsF_len (B := B) s
  have key : ∀ v, (clsF B (s + 1)).1 = (clsF B s).1 ++ [v] -> (clsF B S).1.getD s 0 = v := fun v hv => by
    rw [ht, hv, List.getD_eq_getElem?_getD, List.append_assoc, List.getElem?_append_right (by omega), hl]
    simp
  refine ⟨fun hn => ?_, fun hn => ?_⟩
  . rw [key _ (by rw [clsF_none hn]), ordF_len]
  . obtain ⟨u, hu⟩ := Option.ne_none_iff_exists'.1 hn
    obtain ⟨g1, -, -⟩ := newC_lt hu
    have hx := clsF_lt (B := B) s ((clsF B s).1.getD u 0) (by rw [List.getD_eq_getElem?_getD, List.getElem?_eq_getElem (by omega)]; exact List.getElem_mem _)
    rw [key _ (by rw [clsF_some hu]), ordF_len]
    omega
end
theorem spec_l06Classes {s o : Int} {nx ou : List (List Int)} (m : MV s o nx ou) :
    AC Tryz.prog 138 [.ptr (mach s o nx ou)] (ints (clsF (fun a b => (apQ nx ou (a * 16 + b)).2) s.toNat).1) := by
  have hs := m.s1
  have hap := fun (a b : Nat) (ha : (a : Int) < s) (hb : (b : Int) < s) => spec_l06ApartP (a := a) (b := b) m ha hb
  obtain ⟨B, hB⟩ : ∃ B : Nat -> Nat -> Bool, B = fun a b => (apQ nx ou (a * 16 + b)).2 := ⟨_, rfl⟩
  have hBe : ∀ a b, (apQ nx ou (a * 16 + b)).2 = B a b := fun a b => by rw [hB]
  simp only [hBe] at hap
  rw [<- hB]
  have hlen := fun q => clsF_len (B := B) q
  have hcb := fun q => ordF_bounds (B := B) q
  have hcl := fun q => ordF_len (B := B) q
  unfold mach at *
  refine ac_intro tabIs _ Tryz.func138 rfl rfl Tryz.ntmps138 rfl rfl fun w0 ok0 he0 => ?_
  repeat (first | refine v_w (t := 10) ?_ | refine zc ?_ | refine u_w (t := 10) ?_ | refine zv ?_)
  refine awp_loop (fun q : Nat => (q : Int) <= s) (fun q => [(0, .d (.ptr (.agg [.int .i64 s, .int .i64 o, rows nx, rows ou]))), (3, .own 10), (4, .d (.int .i64 ((clsF B q).2 : Nat))), (5, .d (.int .i64 q))])
    (fun q => [(10, .arr 2 1 ((clsF B q).1.map (.int .i64)))]) (fun q => s.toNat - q) 0 (by omega) ?_ rfl ?_
  . exact zs
  . intro q hq
    have hl := hlen q
    have hb := hcb q
    have hc := hcl q
    have hml : ((clsF B q).1.map (D.int .i64)).length = q := by simp [hl]
    by_cases hlt : (q : Int) < s
    . repeat (first | refine zc ?_ | refine zv ?_)
      refine awp_loop (fun x : Nat × Bool => x.1 <= q /\ (x.2 = false -> ∀ u, u < x.1 -> B q u = true) /\ (x.2 = true -> 1 <= x.1 /\ newC B q = some (x.1 - 1))) (fun x => [(0, .d (.ptr (.agg [.int .i64 s, .int .i64 o, rows nx, rows ou]))), (3, .own 10), (4, .d (.int .i64 ((clsF B q).2 : Nat))), (5, .d (.int .i64 q)), (6, .d (.int .i64 (if x.2 then (clsF B q).1.getD (x.1 - 1) 0 else -1))), (7, .d (.int .i64 x.1))])
        (fun x => [(10, .arr 2 1 ((clsF B q).1.map (.int .i64)))]) (fun x => q - x.1) (0, false) ⟨by omega, (fun _ u hu => by omega), (fun h => by cases h)⟩ ?_ rfl ?_
      . exact zs
      . rintro ⟨t, f⟩ ⟨ht, hf, hg⟩
        dsimp only at ht hf hg ⊢
        cases f with
        | true =>
          obtain ⟨g1, g2⟩ := hg rfl
          obtain ⟨n1, n2, n3⟩ := newC_lt g2
          have hst := clsF_some g2
          have hx := clsF_lt (B := B) q ((clsF B q).1.getD (t - 1) 0) (by rw [List.getD_eq_getElem?_getD, List.getElem?_eq_getElem (by omega)]; exact List.getElem_mem _)
          simp only [if_true]
          generalize (clsF B q).1.getD (t - 1) 0 = v at *
          by_cases htq : t < q
          . repeat (first | refine zc ?_ | refine zv ?_)
            rw [decide_eq_true (show ((t : Nat) : Int) < (q : Nat) by omega)]
            repeat (first | refine zc ?_ | refine zv ?_)
            refine loop_n (q + 1) (by omega) ?_ ?_ (by omega)
            . rw [hst]; exact zs
            . rw [hst]; simp only [List.map_append]; rfl
          . repeat (first | refine zc ?_ | refine zv ?_)
            rw [decide_eq_false (show ¬ ((t : Nat) : Int) < (q : Nat) by omega)]
            repeat (first | refine zc ?_ | refine zv ?_)
            refine loop_n (q + 1) (by omega) ?_ ?_ (by omega)
            . rw [hst]; exact zs
            . rw [hst]; simp only [List.map_append]; rfl
        | false =>
          have hf := hf rfl
          simp only [Bool.false_eq_true, if_false]
          by_cases htq : t < q
          . have e1 := hap q t hlt (by omega)
            have hel : ((clsF B q).1.map (D.int .i64))[((t : Nat) : Int).toNat]? = some (.int .i64 ((clsF B q).1.getD t 0)) := el_int2 (ns := (clsF B q).1) (q := (t : Int)) (by omega)
            cases hBt : B q t
            . rw [hBt] at e1
              have hfst := newC_first htq hBt hf
              repeat (first | refine zc ?_ | refine zv ?_)
              rw [decide_eq_true (show ((t : Nat) : Int) < (q : Nat) by omega)]
              repeat (first | refine zc ?_ | refine zk (e := by exact e1) (n := ?_) | refine zv ?_)
              refine loop_n (t + 1, true) ⟨by show t + 1 <= q; omega, (fun h => by cases h), fun _ => ⟨by show 1 <= t + 1; omega, hfst⟩⟩ ?_ rfl (by show q - (t + 1) < q - t; omega)
              simp only [if_true, Nat.add_sub_cancel]
              exact zs
            . rw [hBt] at e1
              repeat (first | refine zc ?_ | refine zv ?_)
              rw [decide_eq_true (show ((t : Nat) : Int) < (q : Nat) by omega)]
              repeat (first | refine zc ?_ | refine zk (e := by exact e1) (n := ?_) | refine zv ?_)
              refine loop_n (t + 1, false) ⟨by show t + 1 <= q; omega, (fun _ u hu => ?_), fun h => by cases h⟩ ?_ rfl (by show q - (t + 1) < q - t; omega)
              . by_cases e : u = t
                . subst e; exact hBt
                . exact hf u (by have : u < t + 1 := hu; omega)
              . simp only [Bool.false_eq_true, if_false]
                exact zs
          . have hno := newC_not (B := B) (s := q) fun u hu => hf u (by omega)
            have hst := clsF_none hno
            repeat (first | refine zc ?_ | refine zv ?_)
            rw [decide_eq_false (show ¬ ((t : Nat) : Int) < (q : Nat) by omega)]
            repeat (first | refine zc ?_ | refine zv ?_)
            refine loop_n (q + 1) (by omega) ?_ ?_ (by omega)
            . rw [hst]; exact zs
            . rw [hst]; simp only [List.map_append]; rfl
    . have hqe : q = s.toNat := by omega
      subst hqe
      repeat (first | refine zc ?_ | refine zv ?_)
      refine awp_freeze 10 rfl rfl ?_
      repeat (first | refine zc ?_ | refine zv ?_)
      refine zt ?_
      rfl
theorem spec_l06Reduce {s o : Int} {nx ou : List (List Int)} (m : MV s o nx ou) : ∃ s' nx' ou', MV s' o nx' ou' /\ s' <= s /\ nx'.length = nx.length /\ AC Tryz.prog 112 [.ptr (mach s o nx ou)] (mach s' o nx' ou') := by
  have hs := m.s1
  have e1 := spec_l06Classes m
  generalize (fun (a b : Nat) => (apQ nx ou (a * 16 + b)).2) = B at *
  have hlen := clsF_len (B := B) s.toNat
  have hcb := ordF_bounds (B := B) s.toNat
  have hcl := ordF_len (B := B) s.toNat
  have hord := fun q => ordF_bounds (B := B) q
  have hat := fun q (h : q < s.toNat) => clsF_at (B := B) h
  have hm := mv_pick m (ord := ordF B s.toNat) (to := (clsF B s.toNat).1) (by omega) (fun q hq => by have := ordF_lt s.toNat q hq; omega) (by rw [hlen]; omega) (fun x hx => by have := clsF_lt s.toNat x hx; omega)
  have e2 := spec_l06Pick m (ord := ordF B s.toNat) (to := (clsF B s.toNat).1) (by omega) (fun q hq => by have := ordF_lt s.toNat q hq; omega) (by rw [hlen]; omega) (fun x hx => by have := clsF_lt s.toNat x hx; omega)
  refine ⟨_, _, _, hm, by omega, by simp, ?_⟩
  have hml : ((clsF B s.toNat).1.map (D.int .i64)).length = s.toNat := by simp [hlen]
  have hoN : ∀ q, ((natI (ordF B q)).map (D.int .i64)).length = (ordF B q).length := fun q => by simp
  unfold mach at *
  refine ac_introC tabIs _ Tryz.func112 rfl rfl Tryz.ntmps112 rfl rfl fun w0 ok0 he0 => ?_
  repeat (first | refine v_w (t := 8) ?_ | refine zc ?_ | refine u_w (t := 8) ?_ | refine zk (e := by exact e1) (n := ?_) | refine zv ?_)
  refine awp_loop (fun q : Nat => (q : Int) <= s) (fun q => [(0, .d (.ptr (.agg [.int .i64 s, .int .i64 o, rows nx, rows ou]))), (2, .ref 2 0), (3, .d (ints (clsF B s.toNat).1)), (4, .own 8), (5, .d (.int .i64 q))])
    (fun q => [(8, .arr 2 1 ((natI (ordF B q)).map (.int .i64))), (2, .box [.d (.int .i64 0), .d (.int .i64 0), .d .nils, .d .nils])]) (fun q => s.toNat - q) 0 (by omega) ?_ (by as_aux_lemma => kernel_rfl) ?_
  . exact zs
  . intro q hq
    have hb := hord q
    have hoq := hoN q
    by_cases hlt : (q : Int) < s
    . obtain ⟨a1, a2⟩ := hat q (by omega)
      have hel : ((clsF B s.toNat).1.map (D.int .i64))[((q : Nat) : Int).toNat]? = some (.int .i64 ((clsF B s.toNat).1.getD q 0)) := el_int2 (ns := (clsF B s.toNat).1) (q := (q : Int)) (by omega)
      cases hn : newC B q with
      | none =>
        have a := a1 hn
        have hst := ordF_none hn
        rw [a] at hel
        repeat (first | refine zc ?_ | refine zv ?_)
        refine loop_n (q + 1) (by omega) ?_ ?_ (by omega)
        . exact zs
        . rw [hst]; simp only [natI, List.map_append]; rfl
      | some u =>
        have a := a2 (by rw [hn]; simp)
        have hst := ordF_some hn
        have a' : decide ((clsF B s.toNat).1.getD q 0 = (((natI (ordF B q)).map (D.int .i64)).length : Int)) = false := by rw [hoq]; simpa using a
        repeat (first | refine zc ?_ | refine zv ?_)
        refine loop_n (q + 1) (by omega) ?_ ?_ (by omega)
        . exact zs
        . rw [hst]
    . have hqe : q = s.toNat := by omega
      subst hqe
      repeat (first | refine zcr ?_ | refine zv ?_)
      refine awp_region ?_
      repeat (first | refine zcr ?_ | refine zv ?_)
      refine awp_freeze 8 rfl rfl ?_
      repeat (first | refine zc ?_ | refine zk (e := by exact e2) (n := ?_) | refine zv ?_)
      (refine awp_ret ?_; (repeat (first | refine then_r ?_ | refine block_r ?_ | refine loop_r ?_)); refine ret_okC (.inr rfl) rfl ?_)
      rfl
theorem lstC_pos (nx : List (List Int)) : ∀ i, 1 <= (lstC nx i).length
  | 0 => by simp [lstC]
  | i + 1 => by
    have ih := lstC_pos nx i
    unfold lstC
    split
    . rename_i p hp
      obtain ⟨t, ht⟩ := letC_pre nx p (lstC nx i) nx.length
      rw [ht, List.length_append]
      omega
    . exact ih
theorem natI_ord (L : PL) : natI (L.map (·.1)) = ordI L := by simp [natI, ordI]
theorem spec_l06Trim {s o : Int} {nx ou : List (List Int)} (m : MV s o nx ou) : ∃ s' nx' ou', MV s' o nx' ou' /\ s' <= s /\ nx'.length = nx.length /\ AC Tryz.prog 113 [.ptr (mach s o nx ou)] (mach s' o nx' ou') := by
  have hs := m.s1
  have e1 := spec_l06Cover m
  have hok : COk s nx.length (covL nx) := lstC_ok m 10
  have hl := hok.len hs
  have hp : 1 <= (covL nx).length := lstC_pos nx 10
  generalize covL nx = L at *
  have hq : ∀ q : Nat, q ∈ L.map (·.1) -> (q : Int) < s := fun q h => by
    obtain ⟨p, h1, rfl⟩ := List.mem_map.1 h
    exact hok.lt p h1
  obtain ⟨to, hto, htl, htv⟩ : ∃ to : List Int, (to = (List.range L.length).foldl (fun (a : List Int) i => a.set (L.getD i (0, [])).1 (i : Int)) (List.replicate s.toNat 0)) /\ (to.length : Int) = s /\ ∀ x ∈ to, 0 <= x /\ x < (L.length : Int) := by
    refine ⟨_, rfl, ?_⟩
    suffices h : ∀ n, n <= L.length -> ((((List.range n).foldl (fun (a : List Int) i => a.set (L.getD i (0, [])).1 (i : Int)) (List.replicate s.toNat 0)).length : Int) = s /\ ∀ x ∈ (List.range n).foldl (fun (a : List Int) i => a.set (L.getD i (0, [])).1 (i : Int)) (List.replicate s.toNat 0), 0 <= x /\ x < (L.length : Int)) from h _ (Nat.le_refl _)
    intro n
    induction n with
    | zero => exact fun _ => ⟨by simp; omega, fun x hx => by simp at hx; omega⟩
    | succ n ih =>
      intro hn
      obtain ⟨i1, i2⟩ := ih (by omega)
      rw [List.range_succ, List.foldl_append]
      refine ⟨by simp only [List.foldl_cons, List.foldl_nil, List.length_set]; exact i1, fun x hx => ?_⟩
      simp only [List.foldl_cons, List.foldl_nil] at hx
      rcases List.mem_or_eq_of_mem_set hx with h | h
      . exact i2 x h
      . omega
  have hm := mv_pick m (ord := L.map (·.1)) (to := to) (by simp; omega) hq htl (by simpa using htv)
  have e2 := spec_l06Pick m (ord := L.map (·.1)) (to := to) (by simp; omega) hq htl (by simpa using htv)
  refine ⟨_, _, _, hm, by simp; omega, by simp, ?_⟩
  rw [natI_ord] at e2
  have hol : ((ordI L).map (D.int .i64)).length = L.length := by simp [ordI]
  have hol2 : (ordI L).length = L.length := by simp [ordI]
  obtain ⟨T, hT⟩ : ∃ T : Nat -> List Int, T = fun n => (List.range n).foldl (fun (a : List Int) i => a.set (L.getD i (0, [])).1 (i : Int)) (List.replicate s.toNat 0) := ⟨_, rfl⟩
  have hTl : ∀ n, (T n).length = s.toNat := fun n => by
    rw [hT]; dsimp only
    induction n with
    | zero => simp
    | succ n ih => rw [List.range_succ, List.foldl_append]; simp only [List.foldl_cons, List.foldl_nil, List.length_set]; exact ih
  have hTs : ∀ n p, L[n]? = some p -> T (n + 1) = (T n).set p.1 (n : Int) := fun n p h => by
    rw [hT]; dsimp only
    rw [List.range_succ, List.foldl_append]
    simp only [List.foldl_cons, List.foldl_nil, List.getD_eq_getElem?_getD, h, Option.getD_some]
  have hT0 : T 0 = List.replicate s.toNat 0 := by rw [hT]; rfl
  have hTe : T L.length = to := by rw [hT, hto]
  clear hT hto
  unfold mach at *
  refine ac_introC tabIs _ Tryz.func113 rfl rfl Tryz.ntmps113 rfl rfl fun w0 ok0 he0 => ?_
  repeat (first | refine zc ?_ | refine zk (e := by exact e1) (n := ?_) | refine zv ?_)
  refine awp_loop (fun q : Nat => q <= L.length) (fun q => [(0, .d (.ptr (.agg [.int .i64 s, .int .i64 o, rows nx, rows ou]))), (2, .ref 2 0), (3, .d (ints (ordI L))), (5, .own 16), (6, .d (.int .i64 q))])
    (fun q => [(16, .arr 2 1 ((T q).map (.int .i64))), (2, .box [.d (.int .i64 0), .d (.int .i64 0), .d .nils, .d .nils])]) (fun q => L.length - q) 0 (by omega) ?_ ?_ ?_
  . exact zs
  . rw [hT0, List.map_replicate]; rfl
  . intro q hqn
    have hml : ((T q).map (D.int .i64)).length = s.toNat := by simp [hTl]
    by_cases hlt : q < L.length
    . have hpq : L[q]? = some L[q] := List.getElem?_eq_getElem hlt
      have hst := hTs q _ hpq
      have hps := hok.lt _ (List.getElem_mem hlt)
      have hel : ((ordI L).map (D.int .i64))[((q : Nat) : Int).toNat]? = some (.int .i64 (L[q].1 : Nat)) := by rw [Int.toNat_natCast]; simp [ordI, hpq]
      generalize L[q] = p at *
      repeat (first | refine zc ?_ | refine zv ?_)
      refine loop_n (q + 1) (by omega) ?_ ?_ (by omega)
      . exact zs
      . rw [hst, List.map_set]; rfl
    . have hqe : q = L.length := by omega
      subst hqe
      rw [hTe] at hml
      rw [hTe]
      repeat (first | refine zcr ?_ | refine zv ?_)
      refine awp_region ?_
      repeat (first | refine zcr ?_ | refine zv ?_)
      refine awp_freeze 16 rfl rfl ?_
      repeat (first | refine zc ?_ | refine zk (e := by exact e2) (n := ?_) | refine zv ?_)
      (refine awp_ret ?_; (repeat (first | refine then_r ?_ | refine block_r ?_ | refine loop_r ?_)); refine ret_okC (.inr rfl) rfl ?_)
      rfl
end Go.Proofs.YtfemhnmggobhjaaGreat
namespace Go.Proofs.YtfemhnmggobhjaaGreat
open Go
attribute [local irreducible] awp awpL awpQL awpQ awpM pWalk Qt AC thenQ blockQ loopQ OpTo
set_option linter.unusedVariables false
set_option linter.unusedSimpArgs false
set_option maxHeartbeats 2000000
attribute [local irreducible] HC
theorem spec_l07Good {code : List Int} {most : Int} {s : Src} {k : Nat} (hb : BytesOk code) (hm : 1 <= most /\ most <= 9) (h : SOk s k) (hk : k <= 999990000) :
    ∃ S O nx ou s', MV S O nx ou /\ S <= most /\ HC Tryz.prog 61 [.ref 10000 0, .d (.int .i64 most)] [(10000, srcB code s)] (.d (mach S O nx ou)) [(10000, srcB code s')] := by
  have hS := drS_range (s := s) hb hm
  have m := mv_draw (s := s) (most := most) hb hm
  have hd := spec_l06Draw (most := most) hb hm h (by omega)
  have hM := drM_ok hb hm h
  have c1 := spec_one (n := 6) hb hM (by omega) (by omega)
  generalize drO code (pickS code most s) = O at *
  generalize drS code most s = S at *
  generalize (drM code most s).2.2 = s0 at *
  generalize (drM code most s).1 = nx at *
  generalize (drM code most s).2.1 = ou at *
  obtain ⟨S1, nx1, ou1, m1, k1, k2, e1⟩ := spec_l06Reduce m
  obtain ⟨S2, nx2, ou2, m2, k3, k4, e2⟩ := spec_l06Trim m1
  by_cases h6 : pickV code 6 s0 = 0
  . refine ⟨S, O, nx, ou, pickS code 6 s0, m, by omega, ?_⟩
    rw [decide_eq_true h6] at c1
    have r1 := rws_dat nx
    have r2 := rws_dat ou
    unfold srcB at hd c1 ⊢
    unfold mach
    rw [<- r1, <- r2]
    refine hc_intro tabIs _ Tryz.func61 rfl rfl Tryz.ntmps61 rfl rfl rfl ?_ fun w0 ok0 XM XA anc he0 hX0 => ?_
    . exact likeIn_cons rfl rfl likeIn_nil
    repeat (first | refine zc ?_ | refine zv ?_)
    refine hcl [(10000, 10000)] [(10000, 10000), (30000, 600), (30001, 601)] hd ?_
    repeat (first | refine zc ?_ | refine zv ?_)
    refine hcl [(10000, 10000)] [(10000, 10000)] c1 ?_
    repeat (first | refine zcr ?_ | refine zv ?_)
    refine awp_freeze 600 rfl rfl ?_
    refine awp_freeze 601 rfl rfl ?_
    repeat (first | refine zc ?_ | refine zv ?_)
    (refine zb ?_; refine u_rH [(10000, 10000)] ?_ ?_)
    . rfl
    . rfl
  . refine ⟨S2, O, nx2, ou2, pickS code 6 s0, m2, by omega, ?_⟩
    rw [decide_eq_false h6] at c1
    unfold srcB at hd c1 ⊢
    unfold mach at *
    rw [<- rws_dat nx, <- rws_dat ou] at e1
    refine hc_intro tabIs _ Tryz.func61 rfl rfl Tryz.ntmps61 rfl rfl rfl ?_ fun w0 ok0 XM XA anc he0 hX0 => ?_
    . exact likeIn_cons rfl rfl likeIn_nil
    repeat (first | refine zc ?_ | refine zv ?_)
    refine hcl [(10000, 10000)] [(10000, 10000), (30000, 600), (30001, 601)] hd ?_
    repeat (first | refine zc ?_ | refine zv ?_)
    refine hcl [(10000, 10000)] [(10000, 10000)] c1 ?_
    repeat (first | refine zcr ?_ | refine zv ?_)
    refine awp_freeze 600 rfl rfl ?_
    refine awp_freeze 601 rfl rfl ?_
    refine awp_freezeB 5 rfl rfl rfl ?_
    refine awp_region ?_
    repeat (first | refine zcr ?_ | refine zk (e := by exact e1) (n := ?_) | refine zv ?_)
    refine awp_freezeB 6 rfl rfl rfl ?_
    repeat (first | refine zc ?_ | refine zk (e := by exact e2) (n := ?_) | refine zv ?_)
    (refine zb ?_; refine u_rH [(10000, 10000)] ?_ ?_)
    . rfl
    . rfl
theorem spec_P6Good {code : List Int} {most : Int} (hb : BytesOk code) (hm : 1 <= most /\ most <= 9) : ∃ S O nx ou, MV S O nx ou /\ S <= most /\ AC Tryz.prog 16 [u8s code, .int .i64 most] (mach S O nx ou) := by
  have c0 := spec_From (code := code)
  obtain ⟨S, O, nx, ou, s', m, k1, e1⟩ := spec_l07Good (s := ⟨0, 0⟩) (k := 0) hb hm ⟨Nat.le_refl _, by simp⟩ (by omega)
  refine ⟨S, O, nx, ou, m, k1, ?_⟩
  unfold srcB u8s mach at *
  refine ac_introC tabIs _ Tryz.func16 rfl rfl Tryz.ntmps16 rfl rfl fun w0 ok0 he0 => ?_
  repeat (first | refine zc ?_ | refine zv ?_)
  refine hcl [] [(30000, 500)] c0 ?_
  repeat (first | refine zc ?_ | refine zv ?_)
  refine hcl [(500, 10000)] [(10000, 500)] e1 ?_
  repeat (first | refine zc ?_ | refine zv ?_)
  refine ztC ?_
  rfl
end Go.Proofs.YtfemhnmggobhjaaGreat
namespace Go.Proofs.YtfemhnmggobhjaaGreat
open Go
attribute [local irreducible] awp awpL awpQL awpQ awpM pWalk Qt AC thenQ blockQ loopQ OpTo
set_option linter.unusedVariables false
set_option linter.unusedSimpArgs false
set_option maxHeartbeats 2000000
attribute [local irreducible] HC
theorem runO_snoc (nx ou : List (List Int)) : ∀ (w : List Int) (q l : Int), runO nx ou q (w ++ [l]) = runO nx ou q w ++ [at2 ou l (runS nx q w)]
  | [], q, l => by simp [runO, runS]
  | a :: w, q, l => by simp [runO, runS, runO_snoc nx ou w]
theorem runS_snoc (nx : List (List Int)) : ∀ (w : List Int) (q l : Int), runS nx q (w ++ [l]) = at2 nx l (runS nx q w)
  | [], q, l => by simp [runS]
  | a :: w, q, l => by simp [runS, runS_snoc nx w]
structure RP (nx nx' : List (List Int)) (p : Nat × List Int) : Prop where
  el : ∀ l ∈ p.2, 0 <= l /\ l < (nx.length : Int)
  r1 : runS nx 0 p.2 = ((p.1 / 16 : Nat) : Int)
  r2 : runS nx' 0 p.2 = ((p.1 % 16 : Nat) : Int)
section
variable {s o s' o' : Int} {nx ou nx' ou' : List (List Int)}
theorem letP_rp (m : MV s o nx ou) (m' : MV s' o' nx' ou') (he : nx'.length = nx.length) {p : Nat × List Int} {L : PL} (hok : POk s s' L) (hp : p ∈ L) (h : ∀ q ∈ L, RP nx nx' q) : ∀ k, k <= nx.length -> ∀ q ∈ letP nx nx' p L k, RP nx nx' q
  | 0, _ => h
  | k + 1, hk => by
    have ih := letP_rp m m' he hok hp h k (by omega)
    obtain ⟨n1, n2, -, -⟩ := nxP_ok m m' he (c := p.1) (x := k) (by omega) (hok.lt p hp)
    intro q hq
    have hq : q ∈ addP (letP nx nx' p L k) (nxP nx nx' p.1 k) (p.2 ++ [(k : Int)]) := hq
    unfold addP at hq
    split at hq
    . exact ih q hq
    . rcases List.mem_append.1 hq with h1 | h1
      . exact ih q h1
      . simp only [List.mem_singleton] at h1
        subst h1
        have hr := h p hp
        refine ⟨fun l hl => ?_, ?_, ?_⟩
        . rcases List.mem_append.1 hl with h2 | h2
          . exact hr.el l h2
          . simp only [List.mem_singleton] at h2; omega
        . show runS nx 0 (p.2 ++ [(k : Int)]) = _
          rw [runS_snoc, hr.r1]; exact n1.symm
        . show runS nx' 0 (p.2 ++ [(k : Int)]) = _
          rw [runS_snoc, hr.r2]; exact n2.symm
theorem lstP_rp (m : MV s o nx ou) (m' : MV s' o' nx' ou') (he : nx'.length = nx.length) : ∀ i, ∀ q ∈ lstP nx nx' i, RP nx nx' q
  | 0 => by
    intro q hq
    simp only [lstP, List.mem_singleton] at hq
    subst hq
    exact ⟨by simp, by simp [runS], by simp [runS]⟩
  | i + 1 => by
    have ih := lstP_rp m m' he i
    unfold lstP
    split
    . rename_i p hp
      exact letP_rp m m' he (lstP_ok m m' he i) (List.mem_of_getElem? hp) ih nx.length (Nat.le_refl _)
    . exact ih
theorem apR_word (m : MV s o nx ou) (m' : MV s' o' nx' ou') (he : nx'.length = nx.length) (hR : (apR nx ou nx' ou').2 = true) :
    (apR nx ou nx' ou').1.length <= 161 /\ (∀ l ∈ (apR nx ou nx' ou').1, 0 <= l /\ l < (nx.length : Int)) /\ ¬ runO nx ou 0 (apR nx ou nx' ou').1 = runO nx' ou' 0 (apR nx ou nx' ou').1 := by
  obtain ⟨I, hI, hS⟩ := apR_srch m m' he
  rcases hS.fin with ⟨-, h⟩ | ⟨p, x0, h1, h2, h3, -, h5⟩
  . rw [h] at hR; cases hR
  . rw [h5]
    have hp := List.mem_of_getElem? h1
    have rp := lstP_rp m m' he I p hp
    have hl := (lstP_ok m m' he I).wl p hp
    have hl2 := (lstP_ok m m' he I).len m.s1.2 m'.s1.2
    refine ⟨by simp; omega, fun l hl => ?_, fun e => ?_⟩
    . rcases List.mem_append.1 hl with h | h
      . exact rp.el l h
      . simp only [List.mem_singleton] at h; omega
    . dsimp only at e
      rw [runO_snoc, runO_snoc, rp.r1, rp.r2] at e
      have := List.append_inj_right' e rfl
      simp only [List.cons.injEq, and_true] at this
      unfold difP at h3
      simp only [decide_eq_true_eq] at h3
      exact h3 this
theorem impl_FirstSurvivorA {st : Int} {ws : List (List Int)} (h1 : RowsOk nx) (h2 : RowsOk ou) (h3 : RowsOk ws) :
    AC Tryz.prog 37 [mach s o nx ou, rows ws, .int .i64 st] (.tup [mach (fsD s o nx ou ws st).1.1 (fsD s o nx ou ws st).1.2 (fsD s o nx ou ws st).2.1.1 (fsD s o nx ou ws st).2.1.2, .int .i64 (fsD s o nx ou ws st).2.2]) := by
  have := ac_of_hc (xs := [mach s o nx ou, rows ws, .int .i64 st]) (d := .tup [.agg [.int .i64 (fsD s o nx ou ws st).1.1, .int .i64 (fsD s o nx ou ws st).1.2, .lst ((rws (fsD s o nx ou ws st).2.1.1).map D.lst), .lst ((rws (fsD s o nx ou ws st).2.1.2).map D.lst)], .int .i64 (fsD s o nx ou ws st).2.2]) (impl_FirstSurvivorH h1 h2 h3) rfl
  rw [rws_dat, rws_dat] at this
  exact this
end
end Go.Proofs.YtfemhnmggobhjaaGreat
namespace Go.Proofs.YtfemhnmggobhjaaGreat
open Go
attribute [local irreducible] awp awpL awpQL awpQ awpM pWalk Qt AC thenQ blockQ loopQ OpTo
set_option linter.unusedVariables false
set_option linter.unusedSimpArgs false
set_option maxHeartbeats 2000000
attribute [local irreducible] HC
theorem rowsOk_nil : RowsOk [] := ⟨(fun w h => absurd h (by simp)), by simp⟩
end Go.Proofs.YtfemhnmggobhjaaGreat
