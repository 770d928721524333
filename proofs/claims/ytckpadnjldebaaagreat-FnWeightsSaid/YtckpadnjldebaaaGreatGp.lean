/- Elements that are deleted from a row; known texts. Printed by gengp.py. No condition. -/
import Derived.Test.YtckpadnjldebaaaGreatWa
import Derived.Test.YtckpadnjldebaaaGreatFwW
import Derived.Test.YtckpadnjldebaaaGreatFwX
import Derived.Test.YtckpadnjldebaaaGreatFwSs
import Derived.Test.YtckpadnjldebaaaGreatGx
import Derived.Test.YtckpadnjldebaaaGreatGl
import Derived.Test.YtckpadnjldebaaaGreatVa
import Derived.Test.YtckpadnjldebaaaGreatVs
namespace Go.Proofs.YtckpadnjldebaaaGreat
open Go
attribute [local irreducible] awp awpL awpQL awpQ awpM pWalk Qt AC thenQ blockQ loopQ OpTo
set_option linter.unusedVariables false
set_option linter.unusedSimpArgs false
set_option maxHeartbeats 2000000
attribute [local irreducible] HC
section
variable {α : Type}
def kpG (p : List Int -> Bool) (ws : List (List Int)) (l : List α) : Nat -> List α
  | 0 => []
  | j + 1 => kpG p ws l j ++ match l[j]? with
    | some x => if p (ws.getD j []) then [] else [x]
    | none => []
theorem kpG_len {p : List Int -> Bool} {ws : List (List Int)} {l : List α} : ∀ j, (kpG p ws l j).length <= j
  | 0 => Nat.le_refl _
  | j + 1 => by
    have := kpG_len (p := p) (ws := ws) (l := l) j
    unfold kpG
    rw [List.length_append]
    cases l[j]? with
    | none => simp; omega
    | some x => simp only []; split <;> simp <;> omega
theorem kpG_step {p : List Int -> Bool} {ws : List (List Int)} {l : List α} {j : Nat} {x : α} (hx : l[j]? = some x) : kpG p ws l (j + 1) = kpG p ws l j ++ if p (ws.getD j []) then [] else [x] := by
  conv => lhs; unfold kpG
  rw [hx]
theorem kpG_none {p : List Int -> Bool} {ws : List (List Int)} {l : List α} : ∀ j, j <= l.length -> (∀ i, i < j -> p (ws.getD i []) = false) -> kpG p ws l j = l.take j
  | 0, _, _ => by simp [kpG]
  | j + 1, hj, h => by
    have ih := kpG_none (p := p) (ws := ws) (l := l) j (by omega) fun i hi => h i (by omega)
    have hx : l[j]? = some (l[j]'(by omega)) := List.getElem?_eq_getElem (by omega)
    rw [kpG_step hx, ih, h j (by omega), List.take_succ_eq_append_getElem (by omega)]
    simp
def delA (p : List Int -> Bool) (ws : List (List Int)) (l : List α) : Nat -> List α
  | 0 => l
  | j + 1 => match l[j]? with
    | some x => if p (ws.getD j []) then delA p ws l j else (delA p ws l j).set (kpG p ws l j).length x
    | none => delA p ws l j
theorem delA_step {p : List Int -> Bool} {ws : List (List Int)} {l : List α} {j : Nat} {x : α} (hx : l[j]? = some x) : delA p ws l (j + 1) = if p (ws.getD j []) then delA p ws l j else (delA p ws l j).set (kpG p ws l j).length x := by
  conv => lhs; unfold delA
  rw [hx]
theorem delA_len {p : List Int -> Bool} {ws : List (List Int)} {l : List α} : ∀ j, (delA p ws l j).length = l.length
  | 0 => rfl
  | j + 1 => by
    have := delA_len (p := p) (ws := ws) (l := l) j
    unfold delA
    cases l[j]? with
    | none => exact this
    | some x => simp only []; split <;> simp [this]
theorem delA_get {p : List Int -> Bool} {ws : List (List Int)} {l : List α} : ∀ j i : Nat, j <= i -> (delA p ws l j)[i]? = l[i]?
  | 0, _, _ => rfl
  | j + 1, i, h => by
    have ih := delA_get (p := p) (ws := ws) (l := l) j i (by omega)
    have hk := kpG_len (p := p) (ws := ws) (l := l) j
    unfold delA
    cases l[j]? with
    | none => exact ih
    | some x =>
      simp only []
      split
      . exact ih
      . rw [List.getElem?_set_ne (by omega)]; exact ih
theorem delA_take {p : List Int -> Bool} {ws : List (List Int)} {l : List α} : ∀ j, j <= l.length -> (delA p ws l j).take (kpG p ws l j).length = kpG p ws l j
  | 0, _ => by simp [kpG]
  | j + 1, hj => by
    have ih := delA_take (p := p) (ws := ws) (l := l) j (by omega)
    have hk := kpG_len (p := p) (ws := ws) (l := l) j
    have hl := delA_len (p := p) (ws := ws) (l := l) j
    have hx : l[j]? = some (l[j]'(by omega)) := List.getElem?_eq_getElem (by omega)
    rw [kpG_step hx]
    unfold delA
    rw [hx]
    simp only []
    split
    . simpa using ih
    . rw [List.length_append, List.length_singleton, List.take_succ_eq_append_getElem (by simp; omega), List.take_set_of_le (Nat.le_refl _), ih]
      simp
theorem delA_same {p : List Int -> Bool} {ws : List (List Int)} {l : List α} : ∀ j, j <= l.length -> (∀ i, i < j -> p (ws.getD i []) = false) -> delA p ws l j = l
  | 0, _, _ => rfl
  | j + 1, hj, h => by
    have ih := delA_same (p := p) (ws := ws) (l := l) j (by omega) fun i hi => h i (by omega)
    have hk := kpG_none (p := p) (ws := ws) (l := l) j (by omega) fun i hi => h i (by omega)
    have hx : l[j]? = some (l[j]'(by omega)) := List.getElem?_eq_getElem (by omega)
    unfold delA
    rw [hx]
    simp only []
    rw [h j (by omega), ih, hk, List.length_take, Nat.min_eq_left (by omega)]
    simp
theorem kpG_filter {p : List Int -> Bool} {ws : List (List Int)} : ∀ j, j <= ws.length -> kpG p ws ws j = (ws.take j).filter fun w => !p w
  | 0, _ => by simp [kpG]
  | j + 1, hj => by
    have ih := kpG_filter (p := p) (ws := ws) j (by omega)
    have hx : ws[j]? = some (ws[j]'(by omega)) := List.getElem?_eq_getElem (by omega)
    rw [kpG_step hx, ih, List.take_succ_eq_append_getElem (by omega), List.filter_append]
    rw [show ws.getD j [] = ws[j]'(by omega) by simp [List.getD_eq_getElem?_getD, hx]]
    cases hp : p (ws[j]'(by omega)) <;> simp [hp]
end
theorem findI_spec {p : List Int -> Bool} : ∀ (ws : List (List Int)) (k : Nat), (findI p k ws = -1 /\ ∀ w ∈ ws, p w = false) \/ ∃ i : Nat, i < ws.length /\ findI p k ws = (k : Int) + i /\ p (ws.getD i []) = true /\ ∀ j, j < i -> p (ws.getD j []) = false
  | [], k => .inl ⟨rfl, by simp⟩
  | w :: ws, k => by
    unfold findI
    cases hp : p w with
    | true => exact .inr ⟨0, by simp, by simp, by simpa using hp, by omega⟩
    | false =>
      simp only [Bool.false_eq_true, if_false]
      rcases findI_spec ws (k + 1) with ⟨h1, h2⟩ | ⟨i, h1, h2, h3, h4⟩
      . exact .inl ⟨h1, by simpa [hp] using h2⟩
      . refine .inr ⟨i + 1, by simp; omega, by rw [h2]; push_cast; omega, by simpa using h3, fun j hj => ?_⟩
        cases j with
        | zero => simpa using hp
        | succ j => simpa using h4 j (by omega)
theorem slices_DeleteFunc {ds : List D} {ws : List (List Int)} {g : Nat} {cap : List D} (p : List Int -> Bool) (hlen : ds.length = ws.length) (hle : ∀ (i : Nat) d w, ds[i]? = some d -> ws[i]? = some w -> D.Le d (ints w)) (hel : ∀ d ∈ ds, d.el = true /\ d.width = 1 /\ d.one = true)
    (hl : ws.length <= 100000) (hp : ∀ w ∈ ws, AC Tryz.prog g (ints w :: cap) (.bool (p w))) :
    HC Tryz.prog 99 [.own 20000, .d (.fn g cap)] [(20000, .arr 29 1 ds)] (.own 20000) [(20000, .arr 29 1 (kpG p ws ds ws.length))] := by
  have eI : AC Tryz.prog 122 [.lst ds, .fn g cap] (.int .i64 (findI p 0 ws)) := (indexFunc_row p hp (by omega)).le rfl fun i x y hx hy => by
    match i with
    | 0 =>
      simp at hx hy; subst hx hy
      exact .lst _ _ (by simpa using hlen) fun k d y hd hy => by
        rw [List.getElem?_map, Option.map_eq_some_iff] at hy
        obtain ⟨w, hw, rfl⟩ := hy
        exact hle k d w hd hw
    | 1 => simp at hx hy; subst hx hy; exact .refl _
    | k + 2 => simp at hx
  rcases findI_spec (p := p) ws 0 with ⟨h1, h2⟩ | ⟨i0, h1, h2, h3, h4⟩
  . rw [h1] at eI
    have hall : kpG p ws ds ws.length = ds := by
      rw [kpG_none _ (by omega) fun i hi => by rw [List.getD_eq_getElem?_getD, List.getElem?_eq_getElem hi]; exact h2 _ (List.getElem_mem hi), List.take_of_length_le (by omega)]
    rw [hall]
    refine hc_intro tabIs _ Tryz.func99 rfl rfl Tryz.ntmps99 rfl rfl rfl ?_ fun w0 ok0 XM XA anc he0 hX0 => ?_
    . exact fun p hp ha => by simp at hp; subst hp; cases ha
    repeat (first | refine zc ?_ | refine zk (e := by exact eI) (n := ?_) | refine zv ?_)
    (refine zb ?_; refine u_rH [(20000, 20000)] ?_ ?_)
    . rfl
    . rfl
  . rw [h2] at eI
    have hpi : p (ws.getD i0 []) = true := h3
    have hx0 : ds[i0]? = some (ds[i0]'(by omega)) := List.getElem?_eq_getElem (by omega)
    have hd1 : delA p ws ds (i0 + 1) = ds := by
      have := delA_same (p := p) (ws := ws) (l := ds) i0 (by omega) h4
      rw [delA_step hx0, if_pos hpi, this]
    have hk1 : (kpG p ws ds (i0 + 1)).length = i0 := by
      rw [kpG_step hx0, hpi, kpG_none _ (by omega) h4]
      simp; omega
    have hq : ∀ (j : Nat) d, ds[j]? = some d -> AC Tryz.prog g (d :: cap) (.bool (p (ws.getD j []))) := fun j d hd => by
      have hj : j < ws.length := by
        rcases Nat.lt_or_ge j ds.length with h | h
        . omega
        . simp [h] at hd
      have hw : ws[j]? = some ws[j] := List.getElem?_eq_getElem hj
      rw [show ws.getD j [] = ws[j] by simp [List.getD_eq_getElem?_getD, hw]]
      exact (hp _ (List.getElem_mem hj)).le rfl fun i x y hx hy => by
        match i with
        | 0 => simp at hx hy; subst hx hy; exact hle j _ _ hd hw
        | i + 1 => simp at hx hy; rw [hx] at hy; cases hy; exact .refl _
    refine hc_intro tabIs _ Tryz.func99 rfl rfl Tryz.ntmps99 rfl rfl rfl ?_ fun w0 ok0 XM XA anc he0 hX0 => ?_
    . exact fun p hp ha => by simp at hp; subst hp; cases ha
    repeat (first | refine zc ?_ | refine zk (e := by exact eI) (n := ?_) | refine zv ?_)
    refine awp_loop (fun j : Nat => i0 + 1 <= j /\ j <= ws.length) (fun j => [(0, .own 20000), (1, .d (.fn g cap)), (5, .d (.int .i64 (kpG p ws ds j).length)), (6, .d (.int .i64 j))]) (fun j => [(20000, .arr 29 1 (delA p ws ds j))]) (fun j => ws.length - j) (i0 + 1) ⟨Nat.le_refl _, h1⟩ ?_ ?_ ?_
    . rw [hk1]
      refine ⟨rfl, rfl, ?_, ?_, trivial⟩
      . show SV.d (.int .i64 ((0 : Int) + i0)) = _
        rw [Int.zero_add]
      . show SV.d (.int .i64 ((0 : Int) + i0 + 1)) = SV.d (.int .i64 ((i0 + 1 : Nat) : Int))
        rw [Int.zero_add]; rfl
    . rw [hd1]
    . rintro j ⟨hj0, hj⟩
      have hA := delA_len (p := p) (ws := ws) (l := ds) j
      have hK := kpG_len (p := p) (ws := ws) (l := ds) j
      by_cases hlt : j < ws.length
      . have hx : ds[j]? = some (ds[j]'(by omega)) := List.getElem?_eq_getElem (by omega)
        have hxA : (delA p ws ds j)[(j : Int).toNat]? = some (ds[j]'(by omega)) := by rw [Int.toNat_natCast, delA_get j j (Nat.le_refl _)]; exact hx
        obtain ⟨d1, d2, d3⟩ := hel _ (List.getElem_mem (show j < ds.length by omega))
        have eq := hq j _ hx
        have hsA := delA_step (p := p) (ws := ws) hx
        have hsK := kpG_step (p := p) (ws := ws) hx
        generalize ds[j]'(by omega) = d at *
        generalize ws.getD j [] = w at *
        cases hpw : p w with
        | true =>
          rw [hpw] at eq
          rw [hpw, if_pos rfl] at hsA
          rw [hpw, if_pos rfl, List.append_nil] at hsK
          repeat (first | refine zc ?_ | ((first | apply x_l | apply x_q | apply x_lr | apply x_qr); (focus (first | (apply wa_loadElt; (iterate 6 (focus (first | exact rfl | (first | assumption | omega | (simp; omega) | (simp; done) | rfl))))))); exact rfl) | refine zk (e := by exact eq) (n := ?_) | (apply v_x; (iterate 2 exact rfl); (focus (intro ok0 nw hle; (first | (apply wa_loadElt; (iterate 6 (focus (first | exact rfl | (first | assumption | omega | (simp; omega) | (simp; done) | rfl)))))))); (iterate 2 exact rfl)) | refine zv ?_)
          refine loop_n (j + 1) ⟨by omega, by omega⟩ ?_ ?_ (by omega)
          . rw [hsK]; exact zs
          . rw [hsA]
        | false =>
          rw [hpw] at eq
          rw [hpw, if_neg (by simp)] at hsA
          rw [hpw, if_neg (by simp)] at hsK
          repeat (first | refine zc ?_ | ((first | apply x_l | apply x_q | apply x_lr | apply x_qr); (focus (first | (apply wa_loadElt; (iterate 6 (focus (first | exact rfl | (first | assumption | omega | (simp; omega) | (simp; done) | rfl))))))); exact rfl) | refine zk (e := by exact eq) (n := ?_) | (apply v_x; (iterate 2 exact rfl); (focus (intro ok0 nw hle; (first | (apply wa_loadElt; (iterate 6 (focus (first | exact rfl | (first | assumption | omega | (simp; omega) | (simp; done) | rfl)))))))); (iterate 2 exact rfl)) | refine zv ?_)
          refine awpL_to rfl (by apply wo_storeElt; (iterate 4 exact rfl); exact d1; exact d2; exact rfl; (simp only [Int.toNat_natCast]; omega)) ?_
          repeat (first | refine zc ?_ | refine zv ?_)
          refine loop_n (j + 1) ⟨by omega, by omega⟩ ?_ ?_ (by omega)
          . rw [hsK, List.length_append, List.length_singleton, Int.natCast_add]; exact zs
          . rw [hsA]; rfl
      . have hje : j = ws.length := by omega
        subst hje
        have hT := delA_take (p := p) (ws := ws) (l := ds) ws.length (by omega)
        repeat (first | refine zc ?_ | refine zv ?_)
        refine awpL_clear ?_ rfl rfl rfl rfl rfl rfl rfl rfl rfl rfl rfl rfl rfl (by omega) (by omega)
        repeat (first | refine zc ?_ | refine zv ?_)
        refine awpL_to rfl (by apply wo_cut; (iterate 8 exact rfl); omega; (simp only [Int.toNat_natCast, List.length_append, List.length_take, List.length_replicate]; omega)) ?_
        repeat (first | refine zc ?_ | refine zv ?_)
        have hfin : List.take ((kpG p ws ds ws.length).length : Int).toNat (List.take ((kpG p ws ds ws.length).length : Int).toNat (delA p ws ds ws.length) ++ List.replicate ((delA p ws ds ws.length).length - ((kpG p ws ds ws.length).length : Int).toNat) D.nils) = kpG p ws ds ws.length := by
          rw [Int.toNat_natCast, hT, List.take_left' rfl]
        (refine zb ?_; refine u_rH [(20000, 20000)] ?_ ?_)
        . rfl
        . exact congrArg (fun l => some [(20000, Chunk.arr 29 1 l)]) hfin
def kvSG (O : List (List Int)) : List (D × D) := O.map fun w => (.str (kyBG w), .bool true)
theorem kvS_keysG : ∀ O, keysS (kvSG O) = true
  | [] => rfl
  | w :: O => kvS_keysG O
theorem kvS_getG {w : List Int} : ∀ {O : List (List Int)}, w ∈ O -> mgetS (kyBG w) (kvSG O) = some (.bool true)
  | v :: O, h => by
    show (if kyBG w = kyBG v then some (D.bool true) else mgetS (kyBG w) (kvSG O)) = _
    by_cases e : kyBG w = kyBG v
    . rw [if_pos e]
    . rw [if_neg e]
      rcases List.mem_cons.1 h with h | h
      . exact absurd (by rw [h]) e
      . exact kvS_getG h
theorem kvS_noneG {w : List Int} : ∀ {O : List (List Int)}, (∀ v ∈ O, kyBG w ≠ kyBG v) -> mgetS (kyBG w) (kvSG O) = none
  | [], _ => rfl
  | v :: O, h => by
    show (if kyBG w = kyBG v then some (D.bool true) else mgetS (kyBG w) (kvSG O)) = _
    rw [if_neg (h v (List.mem_cons_self ..))]
    exact kvS_noneG fun u hu => h u (List.mem_cons_of_mem _ hu)
theorem kvS_putG {w : List Int} : ∀ {O : List (List Int)}, (∀ v ∈ O, kyBG w ≠ kyBG v) -> mputS (kyBG w) (.bool true) (kvSG O) = kvSG (O ++ [w])
  | [], _ => rfl
  | v :: O, h => by
    show (if kyBG w = kyBG v then _ else (D.str (kyBG v), D.bool true) :: mputS (kyBG w) (.bool true) (kvSG O)) = _
    rw [if_neg (h v (List.mem_cons_self ..)), kvS_putG fun u hu => h u (List.mem_cons_of_mem _ hu)]
    rfl
end Go.Proofs.YtckpadnjldebaaaGreat
namespace Go.Proofs.YtckpadnjldebaaaGreat
open Go.Sort
open Go
attribute [local irreducible] awp awpL awpQL awpQ awpM pWalk Qt AC thenQ blockQ loopQ OpTo
set_option linter.unusedVariables false
set_option linter.unusedSimpArgs false
set_option maxHeartbeats 2000000
attribute [local irreducible] HC HX
def cfL (ks : List (List Int)) (i j : Nat) : Int := cmpL (ks.getD i []) (ks.getD j [])
def srtK (ks : List (List Int)) : List (List Int) := (sIx (cfL ks) ks.length).map fun i => ks.getD i []
theorem cmpL_ntrans {a b c : List Int} (h1 : ¬ cmpL a b < 0) (h2 : ¬ cmpL b c < 0) : ¬ cmpL a c < 0 := by
  intro h3
  have e1 := cmpL_neg a b
  by_cases h4 : cmpL a b = 0
  . have := cmpL_eq.1 h4
    subst this
    exact h2 h3
  . exact h2 (cmpL_trans (show cmpL b a < 0 by omega) h3)
theorem swoL (ks : List (List Int)) : SWO (ltOf (cfL ks)) where
  irrefl i := by
    have : cfL ks i i = 0 := cmpL_eq.2 rfl
    simp [ltOf, this]
  trans i j k h1 h2 := by
    simp only [ltOf, decide_eq_true_eq] at *
    exact cmpL_trans h1 h2
  ntrans i j k h1 h2 := decide_eq_false (cmpL_ntrans (of_decide_eq_false h1) (of_decide_eq_false h2))
theorem srtK_perm (ks : List (List Int)) : (srtK ks).Perm ks := by
  have h := ((sIx_sorts (swoL ks) ks.length).1).map fun i => ks.getD i []
  have e : ((List.range ks.length).map fun i => ks.getD i []) = ks := by
    apply List.ext_getElem?
    intro i
    rw [List.getElem?_map]
    by_cases hi : i < ks.length
    . rw [List.getElem?_range hi, List.getElem?_eq_getElem hi]
      simp [List.getD_eq_getElem?_getD, hi]
    . rw [List.getElem?_eq_none (by simpa using Nat.le_of_not_lt hi), List.getElem?_eq_none (by omega)]
      rfl
  rw [e] at h
  exact h
theorem getD_ints (ks : List (List Int)) (i : Nat) : (ks.map ints).getD i (.lst []) = ints (ks.getD i []) := by
  rw [List.getD_eq_getElem?_getD, List.getD_eq_getElem?_getD, List.getElem?_map]
  cases ks[i]? <;> rfl
theorem impl_SortFuncK {ks : List (List Int)} (hok : ∀ k ∈ ks, k.length <= 1000) (hn : ks.length <= 1048576) :
    HC Tryz.prog 101 [.own 10000, .d (.fn 102 [])] [(10000, .arr 29 1 (ks.map ints))] (.d (.tup [])) [(10000, .arr 29 1 ((srtK ks).map ints))] := by
  have hl : ∀ i, (ks.getD i []).length <= 1000 := fun i => by
    rw [List.getD_eq_getElem?_getD]
    cases h : ks[i]? with
    | none => exact Nat.zero_le _
    | some k => exact hok k (List.mem_of_getElem? h)
  have h := hc_sortFunc (e := 29) (xs := ks.map ints) (cf := cfL ks) (g := 102) sortRows (swoL ks) (fun x hx => by
    obtain ⟨p, hp, rfl⟩ := List.mem_map.1 hx
    rfl) (by simp; omega) (fun i j => by
    rw [getD_ints, getD_ints]
    have h1 := hl i
    have h2 := hl j
    exact slices_Compare (by omega) (by omega))
  have e : ((sIx (cfL ks) (ks.map ints).length).map fun i => (ks.map ints).getD i (.lst [])) = (srtK ks).map ints := by
    unfold srtK
    rw [List.map_map, List.length_map]
    exact List.map_congr_left fun i _ => getD_ints ks i
  rw [e] at h
  exact h
def kAdd (ks : List (List Int)) (k : List Int) : List (List Int) := if k ∈ ks then ks else ks ++ [k]
def kLet (nx : List (List Int)) (k : List Int) (ks : List (List Int)) : Nat -> List (List Int)
  | 0 => ks
  | x + 1 => kAdd (kLet nx k ks x) (numL (kpK nx (x : Nat) k))
def kLst (s : Int) (nx : List (List Int)) : Nat -> List (List Int)
  | 0 => [knL s nx []]
  | i + 1 => match (kLst s nx i)[i]? with
    | some k => kLet nx k (kLst s nx i) nx.length
    | none => kLst s nx i
structure KOk (s : Int) (nx : List (List Int)) (ks : List (List Int)) : Prop where
  nd : ks.Nodup
  kn : ∀ k ∈ ks, ∃ w, LtrOk nx w /\ k = knL s nx w
section
variable {s : Int} {nx : List (List Int)} {lp : List Int}
theorem kAdd_pre (ks : List (List Int)) (k : List Int) : ∃ t, kAdd ks k = ks ++ t := by
  unfold kAdd
  split
  . exact ⟨[], by simp⟩
  . exact ⟨_, rfl⟩
theorem kAdd_mem (ks : List (List Int)) (k : List Int) : k ∈ kAdd ks k := by
  unfold kAdd
  split
  . assumption
  . simp
theorem kLet_pre (k : List Int) (ks : List (List Int)) : ∀ x, ∃ t, kLet nx k ks x = ks ++ t
  | 0 => ⟨[], by simp [kLet]⟩
  | x + 1 => by
    obtain ⟨t, ht⟩ := kLet_pre k ks x
    obtain ⟨u, hu⟩ := kAdd_pre (kLet nx k ks x) (numL (kpK nx (x : Nat) k))
    exact ⟨t ++ u, by show kAdd _ _ = _; rw [hu, ht, List.append_assoc]⟩
theorem kLet_mem (k : List Int) (ks : List (List Int)) : ∀ (m x : Nat), x < m -> numL (kpK nx (x : Nat) k) ∈ kLet nx k ks m
  | m + 1, x, h => by
    show _ ∈ kAdd _ _
    by_cases hx : x = m
    . subst hx; exact kAdd_mem _ _
    . obtain ⟨t, ht⟩ := kAdd_pre (kLet nx k ks m) (numL (kpK nx (m : Nat) k))
      rw [ht]
      exact List.mem_append_left _ (kLet_mem k ks m x (by omega))
theorem kLet_ok (v : LV s nx lp) {k : List Int} {ks : List (List Int)} (h : KOk s nx ks) (hk : k ∈ ks) : ∀ x, x <= nx.length -> KOk s nx (kLet nx k ks x)
  | 0, _ => h
  | x + 1, hx => by
    have ih := kLet_ok v h hk x (by omega)
    show KOk s nx (kAdd _ _)
    unfold kAdd
    split
    . exact ih
    . rename_i hn
      obtain ⟨w, hw, e⟩ := h.kn k hk
      refine ⟨List.nodup_append.2 ⟨ih.nd, by simp, fun a ha b hb => ?_⟩, fun j hj => ?_⟩
      . rw [List.mem_singleton.1 hb]
        exact fun e => hn (e ▸ ha)
      . rcases List.mem_append.1 hj with h1 | h1
        . exact ih.kn j h1
        . rw [List.mem_singleton.1 h1]
          refine ⟨(x : Int) :: w, fun l hl => ?_, ?_⟩
          . rcases List.mem_cons.1 hl with rfl | hl
            . omega
            . exact hw l hl
          . rw [e]; exact knL_step v hw (by omega)
theorem kLst_ok (v : LV s nx lp) : ∀ i, KOk s nx (kLst s nx i)
  | 0 => ⟨by simp [kLst], fun k hk => ⟨[], fun l h => absurd h (List.not_mem_nil), List.mem_singleton.1 hk⟩⟩
  | i + 1 => by
    have ih := kLst_ok v i
    unfold kLst
    split
    . rename_i k hk
      exact kLet_ok v ih (List.mem_of_getElem? hk) _ (Nat.le_refl _)
    . exact ih
theorem kLst_next {i : Nat} {k : List Int} (hk : (kLst s nx i)[i]? = some k) : kLst s nx (i + 1) = kLet nx k (kLst s nx i) nx.length := by
  conv => lhs; unfold kLst
  rw [hk]
theorem kLst_stop {i : Nat} (h : (kLst s nx i).length <= i) : ∀ d, kLst s nx (i + d) = kLst s nx i
  | 0 => rfl
  | d + 1 => by
    have ih := kLst_stop h d
    show kLst s nx (i + d + 1) = _
    conv => lhs; unfold kLst
    rw [ih, List.getElem?_eq_none (by omega)]
theorem kLst_pre1 (i : Nat) : ∃ t, kLst s nx (i + 1) = kLst s nx i ++ t := by
  cases h : (kLst s nx i)[i]? with
  | none =>
    refine ⟨[], ?_⟩
    conv => lhs; unfold kLst
    rw [h, List.append_nil]
  | some k =>
    rw [kLst_next h]
    exact kLet_pre k _ _
theorem kLst_pre (i : Nat) : ∀ d, ∃ t, kLst s nx (i + d) = kLst s nx i ++ t
  | 0 => ⟨[], (List.append_nil _).symm⟩
  | d + 1 => by
    obtain ⟨t, h⟩ := kLst_pre i d
    obtain ⟨u, hu⟩ := kLst_pre1 (s := s) (nx := nx) (i + d)
    exact ⟨t ++ u, by rw [show i + (d + 1) = i + d + 1 by omega, hu, h, List.append_assoc]⟩
def kAll (s : Int) (nx : List (List Int)) : List (List Int) := kLst s nx 5040
theorem kLst_len (v : LV s nx lp) (h7 : s <= 7) (i : Nat) : (kLst s nx i).length <= 5040 :=
  kn_count h7 (kLst_ok v i).nd fun k hk => by obtain ⟨w, -, e⟩ := (kLst_ok v i).kn k hk; exact ⟨w, e⟩
theorem kAll_eq {i : Nat} (hi : i <= 5040) (h : (kLst s nx i).length <= i) : kLst s nx i = kAll s nx := by
  have := kLst_stop h (5040 - i)
  rw [show i + (5040 - i) = 5040 by omega] at this
  exact this.symm
theorem kAll_clo (v : LV s nx lp) (h7 : s <= 7) {k : List Int} (hk : k ∈ kAll s nx) {x : Nat} (hx : x < nx.length) : numL (kpK nx (x : Nat) k) ∈ kAll s nx := by
  obtain ⟨i, hi, e⟩ := List.getElem_of_mem hk
  have hl := kLst_len v h7 5040
  have hi2 : i < (kLst s nx 5040).length := hi
  have hil : i < (kLst s nx i).length := by
    refine Classical.byContradiction fun hc => ?_
    have := kLst_stop (s := s) (nx := nx) (i := i) (by omega) (5040 - i)
    rw [show i + (5040 - i) = 5040 by omega] at this
    rw [this] at hi2
    omega
  obtain ⟨t, ht⟩ := kLst_pre (s := s) (nx := nx) i (5040 - i)
  rw [show i + (5040 - i) = 5040 by omega] at ht
  have hg : (kLst s nx i)[i]? = some k := by
    have : (kLst s nx 5040)[i]? = some k := by rw [List.getElem?_eq_getElem hi2]; exact congrArg some e
    rw [ht, List.getElem?_append_left hil] at this
    exact this
  obtain ⟨u, hu⟩ := kLst_pre (s := s) (nx := nx) (i + 1) (5040 - (i + 1))
  rw [show i + 1 + (5040 - (i + 1)) = 5040 by omega, kLst_next hg] at hu
  unfold kAll
  rw [hu]
  exact List.mem_append_left _ (kLet_mem k _ _ x hx)
theorem kAll_mem (v : LV s nx lp) (h7 : s <= 7) : ∀ (w : List Int), LtrOk nx w -> knL s nx w ∈ kAll s nx
  | [], _ => by
    obtain ⟨t, ht⟩ := kLst_pre (s := s) (nx := nx) 0 5040
    unfold kAll
    rw [show 5040 = 0 + 5040 by rfl, ht]
    exact List.mem_append_left _ (by simp [kLst])
  | x :: w, hw => by
    have hx := hw x (List.mem_cons_self ..)
    have hw' : LtrOk nx w := fun l hl => hw l (List.mem_cons_of_mem _ hl)
    have := kAll_clo v h7 (kAll_mem v h7 w hw') (x := x.toNat) (by omega)
    rw [show ((x.toNat : Nat) : Int) = x by omega, knL_step v hw' hx] at this
    exact this
def pK (r : Int) : List Int -> Bool
  | [] => false
  | x :: l => decide (¬ maxL x l + 1 = r)
def lkL (s : Int) (nx : List (List Int)) : List (List Int) := srtK (kpG (pK (rkA s nx)) (kAll s nx) (kAll s nx) (kAll s nx).length)
theorem lkL_mem {k : List Int} : k ∈ lkL s nx ↔ k ∈ kAll s nx /\ pK (rkA s nx) k = false := by
  unfold lkL
  rw [(srtK_perm _).mem_iff, kpG_filter _ (Nat.le_refl _), List.take_length, List.mem_filter]
  simp
theorem pK_knL (v : LV s nx lp) {w : List Int} {r : Int} : pK r (knL s nx w) = false ↔ ((fin (acL s nx w)).length : Int) = r := by
  have hs := v.s1
  have hl := knL_len (s := s) (nx := nx) w
  cases h : knL s nx w with
  | nil => rw [h] at hl; simp at hl; omega
  | cons x l =>
    have := maxL_num (l := acL s nx w) h
    simp only [pK, decide_eq_false_iff_not, Decidable.not_not]
    omega
theorem lkL_ok (v : LV s nx lp) {k : List Int} (h : k ∈ lkL s nx) : ∃ z, LtrOk nx z /\ k = knL s nx z /\ ((fin (acL s nx z)).length : Int) = rkA s nx := by
  obtain ⟨h1, h2⟩ := lkL_mem.1 h
  obtain ⟨w, hw, rfl⟩ := (kLst_ok v 5040).kn k h1
  exact ⟨w, hw, rfl, (pK_knL v).1 h2⟩
theorem lkL_ne (v : LV s nx lp) (h7 : s <= 7) : lkL s nx ≠ [] := by
  obtain ⟨w, hw, e⟩ := rk_ex v
  exact List.ne_nil_of_mem (lkL_mem.2 ⟨kAll_mem v h7 w hw, (pK_knL v).2 e⟩)
theorem lkL_len (v : LV s nx lp) (h7 : s <= 7) : (lkL s nx).length <= 5040 := by
  unfold lkL
  rw [(srtK_perm _).length_eq, kpG_filter _ (Nat.le_refl _), List.take_length]
  exact Nat.le_trans (List.length_filter_le ..) (kLst_len v h7 5040)
theorem impl_LeastKernels1 {x r : Int} {l : List Int} (hl : l.length <= 1000) (hm : 0 <= maxL x l /\ maxL x l <= 1000) : AC Tryz.prog 100 [ints (x :: l), .ptr (.int .i64 r)] (.bool (decide (¬ maxL x l + 1 = r))) := by
  have c1 := impl_Max (x := x) (l := l) hl
  generalize maxL x l = m at *
  refine ac_intro tabIs _ Tryz.func100 rfl rfl Tryz.ntmps100 rfl rfl fun w0 ok0 he0 => ?_
  repeat (first | refine zc ?_ | refine zk (e := by exact c1) (n := ?_) | refine zv ?_)
  refine zt ?_
  simp
theorem kpG_map {α β : Type} {p : List Int -> Bool} {ws : List (List Int)} {l : List α} {f : α -> β} : ∀ j, kpG p ws (l.map f) j = (kpG p ws l j).map f
  | 0 => rfl
  | j + 1 => by
    have ih := kpG_map (p := p) (ws := ws) (l := l) (f := f) j
    unfold kpG
    rw [ih, List.map_append, List.getElem?_map]
    congr 1
    cases l[j]? with
    | none => rfl
    | some x =>
      show (if p (ws.getD j []) = true then [] else [f x]) = List.map f (if p (ws.getD j []) = true then [] else [x])
      split <;> rfl
theorem acL_nil (v : LV s nx lp) : acL s nx [] = mk1 0 s.toNat := by
  unfold acL
  exact List.map_id _
attribute [local irreducible] cnS frF rkA kAll
theorem impl_LeastKernels (v : LV s nx lp) (h7 : s <= 7) (hok : autoOk s nx = true) (hr : RowsOk nx) : AC Tryz.prog 25 [.agg [.int .i64 s, rows nx]] (.tup [rows (lkL s nx), .int .i64 0]) := by
  have hs := v.s1
  have hn := v.n1
  have hnl : (List.map ints nx).length = nx.length := by simp
  have e1 := impl_ValidAutomaton (s := s) hr
  rw [hok] at e1
  have c1 := impl_all (s := s) (nx := nx) (by omega)
  have c2 := impl_numbered (l := mk1 0 s.toNat) (by rw [mk1_length]; omega)
  rw [<- acL_nil v, show numL (acL s nx []) = knL s nx [] from rfl] at c2
  rw [<- acL_nil v] at c1
  generalize acL s nx [] = al at *
  have hkn := fun w => knL_len (s := s) (nx := nx) w
  have c3 := impl_keyOfG (w := knL s nx []) (fun n hn => by have := knL_rng v [] hn; omega) (by rw [hkn]; omega)
  have e0 : kLst s nx 0 = [knL s nx []] := rfl
  have crk := impl_rank v
  have hkok := fun i => kLst_ok (s := s) (nx := nx) v i
  have hkl := fun i => kLst_len (s := s) (nx := nx) v h7 i
  have hl0 : lkL s nx = srtK (kpG (pK (rkA s nx)) (kAll s nx) (kAll s nx) (kAll s nx).length) := rfl
  generalize lkL s nx = LK at *
  generalize rkA s nx = rk at *
  refine ac_intro tabIs _ Tryz.func25 rfl rfl Tryz.ntmps25 rfl rfl fun w0 ok0 he0 => ?_
  have hx0 : [ints (knL s nx [])][(0 : Int).toNat]? = some (ints (knL s nx [])) := rfl
  repeat (first | refine v_w (t := 21) ?_ | refine zc ?_ | refine u_w (t := 21) ?_ | ((first | apply x_l | apply x_q | apply x_lr | apply x_qr); (focus (first | (apply wa_loadElt; (iterate 6 (focus (first | exact rfl | (first | assumption | omega | (simp; omega) | (simp; done) | rfl))))))); exact rfl) | refine zk (e := by exact e1) (n := ?_) | refine zk (e := by exact c1) (n := ?_) | refine zk (e := by exact c2) (n := ?_) | refine zk (e := by exact c3) (n := ?_) | (apply v_x; (iterate 2 exact rfl); (focus (intro ok0 nw hle; (first | (apply wa_loadElt; (iterate 6 (focus (first | exact rfl | (first | assumption | omega | (simp; omega) | (simp; done) | rfl)))))))); (iterate 2 exact rfl)) | refine zv ?_)
  (apply lto; (focus (apply wo_mapInsertS; (iterate 9 exact rfl))))
  repeat (first | refine zcr ?_ | refine zv ?_)
  refine awp_sub (s' := [(1, .d (.ptr (.agg [.int .i64 s, rows nx]))), (4, .own 21), (5, .own 22)]) (by exact zs) ?_
  refine awp_permTo [(21, .arr 29 1 ((kLst s nx 0).map ints)), (22, .map (kvSG (kLst s nx 0)))] rfl ?_
  clear hx0 c1 c2 c3
  repeat (first | refine zc ?_ | refine zv ?_)
  refine awp_loop (fun i : Nat => i <= 5040) (fun i => [(1, .d (.ptr (.agg [.int .i64 s, rows nx]))), (4, .own 21), (5, .own 22), (6, .d (.int .i64 i))]) (fun i => [(21, .arr 29 1 ((kLst s nx i).map ints)), (22, .map (kvSG (kLst s nx i)))]) (fun i => 5040 - i) 0 (Nat.zero_le _) ?_ rfl ?_
  . exact zs
  . intro i hi
    have hlk := hkl i
    have hlm : ((kLst s nx i).map ints).length = (kLst s nx i).length := by simp
    by_cases hlt : i < (kLst s nx i).length
    . have hk : (kLst s nx i)[i]? = some (kLst s nx i)[i] := List.getElem?_eq_getElem hlt
      have hkm : (kLst s nx i)[i] ∈ kLst s nx i := List.getElem_mem hlt
      have hnx := kLst_next hk
      obtain ⟨w, hw, hkw⟩ := (hkok i).kn _ hkm
      have hLok := kLet_ok v (hkok i) hkm
      have hpre := kLet_pre (nx := nx) (kLst s nx i)[i] (kLst s nx i)
      have hLl := fun x hx => kn_count h7 (hLok x hx).nd fun k hk => by obtain ⟨w, -, e⟩ := (hLok x hx).kn k hk; exact ⟨w, e⟩
      have hln := hkl (i + 1)
      generalize (kLst s nx i)[i] = k at *
      generalize kLst s nx i = KS at *
      have hklen : k.length = s.toNat := by rw [hkw]; exact hkn w
      repeat (first | refine zc ?_ | refine zv ?_)
      refine awp_loop (fun x : Nat => x <= nx.length) (fun x => [(1, .d (.ptr (.agg [.int .i64 s, rows nx]))), (4, .own 21), (5, .own 22), (6, .d (.int .i64 i)), (35, .d (rows nx)), (36, .d (.int .i64 (List.map ints nx).length)), (37, .d (.int .i64 x))]) (fun x => [(21, .arr 29 1 ((kLet nx k KS x).map ints)), (22, .map (kvSG (kLet nx k KS x)))]) (fun x => nx.length - x) 0 (Nat.zero_le _) ?_ rfl ?_
      . exact zs
      . intro x hx
        have hLx := hLl x hx
        obtain ⟨t, ht⟩ := hpre x
        have hki : ((kLet nx k KS x).map ints)[(i : Int).toNat]? = some (ints k) := by
          rw [Int.toNat_natCast, List.getElem?_map, ht, List.getElem?_append_left hlt, hk]; rfl
        have hiL : i < (kLet nx k KS x).length := by rw [ht, List.length_append]; omega
        by_cases hxl : x < nx.length
        . have hlx : 0 <= (x : Int) /\ (x : Int) < nx.length := by omega
          have r1 := el_row2 hlx
          have r2 := tbl_row v.nx hlx
          have hst : kLet nx k KS (x + 1) = kAdd (kLet nx k KS x) (numL (kpK nx (x : Nat) k)) := rfl
          have hstep := knL_step v hw hlx
          rw [<- hkw] at hstep
          have hrg := fun c hc => knL_rng (c := c) v ((x : Int) :: w) hc
          have hcl := hkn ((x : Int) :: w)
          rw [<- hstep] at hrg hcl
          have cN := impl_numbered (l := kpK nx (x : Nat) k) (by rw [kpK_len v hlx]; omega)
          have cK := impl_keyOfG (w := numL (kpK nx (x : Nat) k)) (fun n hn => by have := hrg n hn; omega) (by rw [hcl]; omega)
          have hdist : numL (kpK nx (x : Nat) k) ∉ kLet nx k KS x -> ∀ u ∈ kLet nx k KS x, kyBG (numL (kpK nx (x : Nat) k)) ≠ kyBG u := fun hm u hu e => by
            obtain ⟨w2, -, rfl⟩ := (hLok x hx).kn u hu
            have := kyB_injG (fun n hn => by have := hrg n hn; omega) (fun n hn => by have := knL_rng v w2 hn; omega) e
            exact hm (this ▸ hu)
          have hpk : ∀ j (hj : j < (row nx x).length), (kpK nx (x : Nat) k).take (j + 1) = (kpK nx (x : Nat) k).take j ++ [k.getD ((row nx x)[j]).toNat 0] := fun j hj => by
            have : j < (kpK nx (x : Nat) k).length := by rw [kpK_len v hlx]; omega
            rw [List.take_succ_eq_append_getElem this]
            simp [kpK]
          have hpl : (kpK nx (x : Nat) k).length = (row nx x).length := by rw [kpK_len v hlx]; omega
          have hre : ∀ j (hj : j < (row nx x).length), 0 <= (row nx x)[j] /\ (row nx x)[j] < s := fun j hj => (v.nx _ (row_mem hlx)).2 _ (List.getElem_mem hj)
          generalize numL (kpK nx (x : Nat) k) = c at *
          generalize kLet nx k KS x = L at *
          generalize kpK nx (x : Nat) k = pk at *
          generalize row nx x = rw0 at *
          have hrl : (List.map (D.int .i64) rw0).length = rw0.length := by simp
          repeat (first | refine v_w (t := 41) ?_ | refine zc ?_ | refine u_w (t := 41) ?_ | refine zv ?_)
          refine awp_permTo [(41, .arr 2 1 []), (21, .arr 29 1 (L.map ints)), (22, .map (kvSG L))] rfl ?_
          refine awp_loop (fun j : Nat => j <= rw0.length) (fun j => [(1, .d (.ptr (.agg [.int .i64 s, rows nx]))), (4, .own 21), (5, .own 22), (6, .d (.int .i64 i)), (9, .own 41), (35, .d (rows nx)), (36, .d (.int .i64 (List.map ints nx).length)), (37, .d (.int .i64 x)), (42, .d (ints rw0)), (43, .d (.int .i64 (List.map (D.int .i64) rw0).length)), (44, .d (.int .i64 j))])
            (fun j => [(41, .arr 2 1 ((pk.take j).map (.int .i64))), (21, .arr 29 1 (L.map ints)), (22, .map (kvSG L))]) (fun j => rw0.length - j) 0 (Nat.zero_le _) ?_ rfl ?_
          . exact zs
          . intro j hj
            have hml : ((pk.take j).map (D.int .i64)).length = j := by simp; omega
            have hml2 : (pk.take j).length = j := by simp; omega
            by_cases hjl : j < rw0.length
            . have hx1 := el_int hjl
              have hp1 := hpk j hjl
              have hr1 := hre j hjl
              have hx2 := el_int2 (ns := k) (q := rw0[j]) (by omega)
              generalize rw0[j] = q at *
              generalize k.getD q.toNat 0 = y at *
              repeat (first | refine zc ?_ | ((first | apply x_l | apply x_q | apply x_lr | apply x_qr); (focus (first | (apply wa_loadElt; (iterate 6 (focus (first | exact rfl | (first | assumption | omega | (simp; omega) | (simp; done) | rfl))))))); exact rfl) | (apply v_x; (iterate 2 exact rfl); (focus (intro ok0 nw hle; (first | (apply wa_loadElt; (iterate 6 (focus (first | exact rfl | (first | assumption | omega | (simp; omega) | (simp; done) | rfl)))))))); (iterate 2 exact rfl)) | refine zv ?_)
              refine loop_n (j + 1) (by omega) ?_ ?_ (by omega)
              . exact zs
              . rw [hp1, List.map_append]; rfl
            . have hje : j = rw0.length := by omega
              subst hje
              rw [List.take_of_length_le (by omega)]
              have hkeys := kvS_keysG L
              refine awp_freeze 41 rfl rfl ?_
              by_cases hm : c ∈ L
              . have hg : MGtS (kyBG c) (kvSG L) (some (.bool true)) := ⟨kvS_getG hm⟩
                have e : kLet nx k KS (x + 1) = L := by rw [hst]; exact if_pos hm
                repeat (first | refine zc ?_ | ((first | apply x_l | apply x_q | apply x_lr | apply x_qr); (focus (first | (apply wa_gtS; (iterate 11 (focus (first | exact rfl | (first | assumption | omega | (simp; omega) | (simp; done) | rfl))))))); exact rfl) | refine zk (e := by exact cN) (n := ?_) | refine zk (e := by exact cK) (n := ?_) | (apply v_x; (iterate 2 exact rfl); (focus (intro ok0 nw hle; (first | (apply wa_gtS; (iterate 11 (focus (first | exact rfl | (first | assumption | omega | (simp; omega) | (simp; done) | rfl)))))))); (iterate 2 exact rfl)) | refine zv ?_)
                refine loop_n (x + 1) (by omega) ?_ ?_ (by omega)
                . exact zs
                . rw [e]; rfl
              . have hg : MGtS (kyBG c) (kvSG L) none := ⟨kvS_noneG (hdist hm)⟩
                have e : kLet nx k KS (x + 1) = L ++ [c] := by rw [hst]; exact if_neg hm
                have hput := kvS_putG (hdist hm)
                have hLm : (L.map ints).length = L.length := by simp
                repeat (first | refine zc ?_ | ((first | apply x_l | apply x_q | apply x_lr | apply x_qr); (focus (first | (apply wa_gtS; (iterate 11 (focus (first | exact rfl | (first | assumption | omega | (simp; omega) | (simp; done) | rfl))))))); exact rfl) | refine zk (e := by exact cN) (n := ?_) | refine zk (e := by exact cK) (n := ?_) | (apply v_x; (iterate 2 exact rfl); (focus (intro ok0 nw hle; (first | (apply wa_gtS; (iterate 11 (focus (first | exact rfl | (first | assumption | omega | (simp; omega) | (simp; done) | rfl)))))))); (iterate 2 exact rfl)) | refine zv ?_)
                (apply lto; (focus (apply wo_mapUpdateS; (iterate 8 exact rfl); exact hkeys)))
                repeat (first | refine zc ?_ | refine zv ?_)
                refine loop_n (x + 1) (by omega) ?_ ?_ (by omega)
                . exact zs
                . rw [e, <- hput, List.map_append]; rfl
        . have hxe : x = nx.length := by omega
          subst hxe
          rw [<- hnx]
          repeat (first | refine zc ?_ | refine zv ?_)
          refine loop_n (i + 1) (by omega) ?_ rfl (by omega)
          exact zs
    . have hce := kAll_eq (s := s) (nx := nx) hi (by omega)
      rw [hce] at hlm hlt hlk ⊢
      have hokA := hkok i
      rw [hce] at hokA
      generalize kAll s nx = A at *
      have hpk : ∀ k ∈ A, AC Tryz.prog 100 (ints k :: [.ptr (.int .i64 rk)]) (.bool (pK rk k)) := fun k hk => by
        obtain ⟨w, -, e⟩ := hokA.kn k hk
        have hl := hkn w
        have hrg := fun c hc => knL_rng (c := c) v w hc
        rw [<- e] at hl hrg
        cases k with
        | nil => simp at hl; omega
        | cons x l =>
          simp only [List.length_cons] at hl
          have := hrg _ (maxL_spec l x).2
          exact impl_LeastKernels1 (by omega) (by omega)
      have e3 := slices_DeleteFunc (ds := A.map ints) (ws := A) (g := 100) (cap := [.ptr (.int .i64 rk)]) (pK rk) (by simp) (fun i d w hd hw => by
        rw [List.getElem?_map, hw] at hd
        cases hd
        exact .refl _) (fun d hd => by
        obtain ⟨k, -, rfl⟩ := List.mem_map.1 hd
        exact ⟨rfl, rfl, rfl⟩) (by omega) hpk
      rw [kpG_map] at e3
      have hKl : ∀ k ∈ kpG (pK rk) A A A.length, k.length <= 1000 := fun k hk => by
        rw [kpG_filter _ (Nat.le_refl _), List.take_length] at hk
        obtain ⟨w, -, e⟩ := hokA.kn k (List.mem_filter.1 hk).1
        rw [e, hkn w]; omega
      have hKn : (kpG (pK rk) A A A.length).length <= 5040 := by
        rw [kpG_filter _ (Nat.le_refl _), List.take_length]
        exact Nat.le_trans (List.length_filter_le ..) hlk
      have e4 := impl_SortFuncK hKl (by omega)
      rw [<- hl0] at e4
      generalize kpG (pK rk) A A A.length = B at *
      repeat (first | refine zcr ?_ | refine zv ?_)
      refine awp_region ?_
      repeat (first | refine zcr ?_ | refine zv ?_)
      refine awp_region ?_
      repeat (first | refine zcr ?_ | refine zk (e := by exact crk) (n := ?_) | refine zv ?_)
      refine awp_freezeB 13 rfl rfl rfl ?_
      repeat (first | refine zc ?_ | refine zv ?_)
      refine hcl [(21, 20000)] [(20000, 21)] e3 ?_
      repeat (first | refine zc ?_ | refine zv ?_)
      refine hcl [(21, 10000)] [(10000, 21)] e4 ?_
      repeat (first | refine zcr ?_ | refine zv ?_)
      refine awp_freeze 21 rfl rfl ?_
      repeat (first | refine zc ?_ | refine zv ?_)
      refine zt ?_
      rfl
end
end Go.Proofs.YtckpadnjldebaaaGreat
