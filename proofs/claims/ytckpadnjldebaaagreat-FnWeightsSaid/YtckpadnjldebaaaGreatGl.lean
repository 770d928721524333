/- Plain: the rank, kernels of words, the weights of their classes. -/
import Derived.Test.YtckpadnjldebaaaGreatGw
import Derived.Test.YtckpadnjldebaaaGreatGx
import Derived.Test.YtckpadnjldebaaaGreatUb
namespace Go.Proofs.YtckpadnjldebaaaGreat
set_option linter.unusedVariables false
open Gw
section
variable {N n fr : Nat} {nf : Nat -> Nat -> Nat}
theorem lstQ_pre1 (i : Nat) : ∃ t, lstQ nf n fr (i + 1) = lstQ nf n fr i ++ t := by
  cases h : (lstQ nf n fr i)[i]? with
  | none =>
    refine ⟨[], ?_⟩
    conv => lhs; unfold lstQ
    rw [h, List.append_nil]
  | some p =>
    rw [lstQ_next h]
    exact letQ_pre p _ n
theorem lstQ_pre (i : Nat) : ∀ d, ∃ t, lstQ nf n fr (i + d) = lstQ nf n fr i ++ t
  | 0 => ⟨[], (List.append_nil _).symm⟩
  | d + 1 => by
    obtain ⟨t, h⟩ := lstQ_pre i d
    obtain ⟨u, hu⟩ := lstQ_pre1 (nf := nf) (n := n) (fr := fr) (i + d)
    exact ⟨t ++ u, by rw [show i + (d + 1) = i + d + 1 by omega, hu, h, List.append_assoc]⟩
theorem addQ_mem (L : QL) (c : Nat) (w : List Int) : c ∈ (addQ L c w).map (·.1) := by
  unfold addQ
  split
  . assumption
  . simp
theorem letQ_mem (p : Nat × List Int) (L : QL) : ∀ (k x : Nat), x < k -> nf p.1 x ∈ (letQ nf p L k).map (·.1)
  | k + 1, x, h => by
    show _ ∈ (addQ _ _ _).map (·.1)
    by_cases hx : x = k
    . subst hx; exact addQ_mem _ _ _
    . obtain ⟨t, ht⟩ := addQ_pre (letQ nf p L k) (nf p.1 k) (p.2 ++ [(k : Int)])
      rw [ht, List.map_append]
      exact List.mem_append_left _ (letQ_mem p L k x (by omega))
theorem trQ_clo (hn : ∀ c x, c < N -> x < n -> nf c x < N) (hf : fr < N) (hN : N <= 1024) {p : Nat × List Int} (hp : p ∈ trQ nf n fr) {x : Nat} (hx : x < n) : nf p.1 x ∈ (trQ nf n fr).map (·.1) := by
  obtain ⟨i, hi, e⟩ := List.getElem_of_mem hp
  have hl := (lstQ_ok (nf := nf) (n := n) hn hf 1024).len
  have hi2 : i < (lstQ nf n fr 1024).length := hi
  have hil : i < (lstQ nf n fr i).length := by
    refine Classical.byContradiction fun hc => ?_
    have := lstQ_stop (nf := nf) (n := n) (fr := fr) (i := i) (by omega) (1024 - i)
    rw [show i + (1024 - i) = 1024 by omega] at this
    rw [this] at hi2
    omega
  obtain ⟨t, ht⟩ := lstQ_pre (nf := nf) (n := n) (fr := fr) i (1024 - i)
  rw [show i + (1024 - i) = 1024 by omega] at ht
  have hg : (lstQ nf n fr i)[i]? = some p := by
    have : (lstQ nf n fr 1024)[i]? = some p := by rw [List.getElem?_eq_getElem hi2]; exact congrArg some e
    rw [ht, List.getElem?_append_left hil] at this
    exact this
  obtain ⟨u, hu⟩ := lstQ_pre (nf := nf) (n := n) (fr := fr) (i + 1) (1024 - (i + 1))
  rw [show i + 1 + (1024 - (i + 1)) = 1024 by omega, lstQ_next hg] at hu
  unfold trQ
  rw [hu, List.map_append]
  exact List.mem_append_left _ (letQ_mem p _ n x hx)
theorem trQ_fr : fr ∈ (trQ nf n fr).map (·.1) := by
  obtain ⟨t, ht⟩ := lstQ_pre (nf := nf) (n := n) (fr := fr) 0 1024
  unfold trQ
  rw [show 1024 = 0 + 1024 by rfl, ht, List.map_append]
  exact List.mem_append_left _ (by simp [lstQ])
theorem trQ_go (hn : ∀ c x, c < N -> x < n -> nf c x < N) (hf : fr < N) (hN : N <= 1024) : ∀ (w : List Int) {f : Nat}, (∀ l ∈ w, 0 <= l /\ l < n) -> f ∈ (trQ nf n fr).map (·.1) -> goF nf f w ∈ (trQ nf n fr).map (·.1)
  | [], _, _, h => h
  | l :: w, f, hw, h => by
    obtain ⟨p, hp, rfl⟩ := List.mem_map.1 h
    have hl := hw l (List.mem_cons_self ..)
    exact trQ_go hn hf hN w (f := nf p.1 l.toNat) (fun x hx => hw x (List.mem_cons_of_mem _ hx)) (trQ_clo hn hf hN hp (by omega))
end
def mnL (m : Int) : List Int -> Int
  | [] => m
  | y :: l => mnL (min m y) l
theorem mnL_snoc : ∀ (l : List Int) (m y : Int), mnL m (l ++ [y]) = min (mnL m l) y
  | [], _, _ => rfl
  | z :: l, m, y => mnL_snoc l (min m z) y
theorem mnL_le : ∀ (l : List Int) (m : Int), mnL m l <= m /\ ∀ y ∈ l, mnL m l <= y
  | [], m => ⟨Int.le_refl _, fun y h => by cases h⟩
  | z :: l, m => by
    have h := mnL_le l (min m z)
    refine ⟨by show mnL (min m z) l <= m; omega, fun y hy => ?_⟩
    show mnL (min m z) l <= y
    rcases List.mem_cons.1 hy with rfl | hy
    . omega
    . exact h.2 y hy
theorem mnL_mem : ∀ (l : List Int) (m : Int), mnL m l = m \/ mnL m l ∈ l
  | [], m => .inl rfl
  | z :: l, m => by
    show mnL (min m z) l = m \/ mnL (min m z) l ∈ z :: l
    rcases mnL_mem l (min m z) with h | h
    . rw [h]
      rcases Int.le_total m z with h2 | h2
      . exact .inl (Int.min_eq_left h2)
      . rw [Int.min_eq_right h2]; exact .inr (List.mem_cons_self ..)
    . exact .inr (List.mem_cons_of_mem _ h)
def frF (s : Int) : Nat := bitsL 0 (mk1 0 s.toNat)
def cnS (f : Nat) : Int := (setN f).length
def rkA (s : Int) (nx : List (List Int)) : Int := mnL (cnS (frF s)) ((trQ (nfB nx) nx.length (frF s)).map fun p => cnS p.1)
def acL (s : Int) (nx : List (List Int)) (w : List Int) : List Int := (mk1 0 s.toNat).map fun q => runS nx q w
def LtrOk (nx : List (List Int)) (w : List Int) : Prop := ∀ l ∈ w, 0 <= l /\ l < nx.length
section
variable {s : Int} {nx : List (List Int)} {lp : List Int}
theorem frF_set (v : LV s nx lp) : setN (frF s) = mk1 0 s.toNat := by
  have hs := v.s1
  exact setN_bits (fun x hx => by have := mk1_mem.1 hx; omega) (mk1_pairwise _ _)
theorem frF_lt (v : LV s nx lp) : frF s < 2 ^ s.toNat := bits_lt _ _ (Nat.two_pow_pos _) fun q hq => by have := mk1_mem.1 hq; omega
theorem pw_1024 (v : LV s nx lp) : 2 ^ s.toNat <= 1024 := by
  have hs := v.s1
  exact Nat.pow_le_pow_right (n := 2) (by omega) (show s.toNat <= 10 by omega)
theorem goF_set (v : LV s nx lp) : ∀ (w : List Int) {f : Nat}, LtrOk nx w -> f < 2 ^ s.toNat -> ∀ q, q ∈ setN (goF (nfB nx) f w) ↔ ∃ r ∈ setN f, q = runS nx r w
  | [], f, _, _, q => ⟨fun h => ⟨q, h, rfl⟩, fun ⟨r, h, e⟩ => e ▸ h⟩
  | l :: w, f, hw, h, q => by
    have hl := hw l (List.mem_cons_self ..)
    have hb : ∀ r ∈ setN f, 0 <= r /\ r < s := fun r hr => by
      have := setN_lt h hr
      have hs := v.s1
      omega
    have ih := goF_set v w (f := nfB nx f l.toNat) (fun x hx => hw x (List.mem_cons_of_mem _ hx)) (nfB_lt v h (by omega)) q
    have hlN : ((l.toNat : Nat) : Int) = l := by omega
    have hm : ∀ r, r ∈ setN (nfB nx f l.toNat) ↔ r ∈ (setN f).map fun q => at2 nx l q := fun r => by
      unfold nfB
      rw [hlN]
      exact step_mem v hb hl
    refine ih.trans ⟨?_, ?_⟩
    . rintro ⟨r, hr, e⟩
      obtain ⟨t, ht, rfl⟩ := List.mem_map.1 ((hm r).1 hr)
      exact ⟨t, ht, e⟩
    . rintro ⟨t, ht, e⟩
      exact ⟨at2 nx l t, (hm _).2 (List.mem_map_of_mem ht), e⟩
theorem setN_nd (f : Nat) : (setN f).Nodup := ris_nd (setTo_pairwise f 64)
theorem cn_fin (v : LV s nx lp) {w : List Int} (hw : LtrOk nx w) : cnS (goF (nfB nx) (frF s) w) = (fin (acL s nx w)).length := by
  have hm : ∀ q, q ∈ setN (goF (nfB nx) (frF s) w) ↔ q ∈ fin (acL s nx w) := fun q => by
    rw [goF_set v w hw (frF_lt v), frF_set v, fin_mem]
    unfold acL
    rw [List.mem_map]
    exact ⟨fun ⟨r, hr, e⟩ => ⟨r, hr, e.symm⟩, fun ⟨r, hr, e⟩ => ⟨r, hr, e.symm⟩⟩
  have a := sub_len (A := setN (goF (nfB nx) (frF s) w)) (fin_nd _) fun x hx => (hm x).2 hx
  have b := sub_len (A := fin (acL s nx w)) (setN_nd _) fun x hx => (hm x).1 hx
  unfold cnS
  omega
theorem rk_le (v : LV s nx lp) {w : List Int} (hw : LtrOk nx w) : rkA s nx <= (fin (acL s nx w)).length := by
  rw [<- cn_fin v hw]
  have := trQ_go (nf := nfB nx) (n := nx.length) (fun c x hc hx => nfB_lt v hc hx) (frF_lt v) (pw_1024 v) w hw trQ_fr
  obtain ⟨p, hp, e⟩ := List.mem_map.1 this
  refine (mnL_le _ _).2 _ (List.mem_map.2 ⟨p, hp, ?_⟩)
  rw [e]
theorem rk_ex (v : LV s nx lp) : ∃ w, LtrOk nx w /\ ((fin (acL s nx w)).length : Int) = rkA s nx := by
  rcases mnL_mem ((trQ (nfB nx) nx.length (frF s)).map fun p => cnS p.1) (cnS (frF s)) with h | h
  . have h0 : LtrOk nx [] := fun l h => absurd h (List.not_mem_nil)
    exact ⟨[], h0, by rw [<- cn_fin v h0]; exact h.symm⟩
  . obtain ⟨p, hp, e⟩ := List.mem_map.1 h
    have hok := lstQ_ok (nf := nfB nx) (n := nx.length) (fun c x hc hx => nfB_lt v hc hx) (frF_lt v) 1024
    refine ⟨p.2, hok.el p hp, ?_⟩
    rw [<- cn_fin v (hok.el p hp), hok.rt p hp]
    exact e
theorem acL_mem (v : LV s nx lp) {w : List Int} (hw : LtrOk nx w) {x : Int} : x ∈ acL s nx w -> 0 <= x /\ x < s := fun h => by
  obtain ⟨q, hq, rfl⟩ := List.mem_map.1 h
  have := mk1_mem.1 hq
  have hs := v.s1
  exact rc_rng (o := 0) v.nx (q := q) (by omega) ⟨w, hw, rfl⟩
theorem acL_len (w : List Int) : (acL s nx w).length = s.toNat := by simp [acL, mk1_length]
theorem rk_pos (v : LV s nx lp) : 1 <= rkA s nx /\ rkA s nx <= s := by
  have hs := v.s1
  obtain ⟨w, hw, e⟩ := rk_ex v
  have h1 : runS nx 0 w ∈ fin (acL s nx w) := fin_mem.2 (List.mem_map_of_mem (mk1_mem.2 (by omega)))
  have := List.length_pos_of_mem h1
  have h2 := nd_len s.toNat (fin_nd (acL s nx w)) fun x hx => by have := acL_mem v hw (fin_mem.1 hx); omega
  omega
def knL (s : Int) (nx : List (List Int)) (w : List Int) : List Int := numL (acL s nx w)
def kpK (nx : List (List Int)) (x : Int) (k : List Int) : List Int := (row nx x).map fun t => k.getD t.toNat 0
theorem knL_len (w : List Int) : (knL s nx w).length = s.toNat := by rw [knL, numL_length, acL_len]
theorem knL_get (w : List Int) {t : Int} (h : 0 <= t /\ t < s) : (knL s nx w).getD t.toNat 0 = (((fin (acL s nx w)).idxOf (runS nx t w) : Nat) : Int) := by
  unfold knL
  rw [numL_map, List.getD_eq_getElem?_getD, List.getElem?_map]
  unfold acL
  rw [List.getElem?_map, mk1_get _ _ _ (by omega), show (0 : Int) + (t.toNat : Nat) = t by omega]
  rfl
theorem row_all (v : LV s nx lp) {x : Int} (hx : 0 <= x /\ x < nx.length) : row nx x = (mk1 0 s.toNat).map (at2 nx x) := by
  have hr := tbl_row v.nx hx
  refine List.ext_getElem? fun i => ?_
  by_cases hi : i < s.toNat
  . rw [List.getElem?_map, mk1_get _ _ _ hi, List.getElem?_eq_getElem (by omega)]
    show some _ = some ((row nx x).getD ((0 : Int) + i).toNat 0)
    rw [show ((0 : Int) + i).toNat = i by omega, List.getD_eq_getElem?_getD, List.getElem?_eq_getElem (by omega)]
    rfl
  . rw [List.getElem?_eq_none (by omega), List.getElem?_eq_none (by simp [mk1_length]; omega)]
theorem idx_inj {l : List Int} {a b : Int} (ha : a ∈ l) (hb : b ∈ l) (h : ((l.idxOf a : Nat) : Int) = (l.idxOf b : Nat)) : a = b := by
  have ha' := List.idxOf_lt_length_iff.2 ha
  have hb' := List.idxOf_lt_length_iff.2 hb
  have e1 : l[l.idxOf a] = a := List.getElem_idxOf ha'
  have e2 : l[l.idxOf b] = b := List.getElem_idxOf hb'
  have h' : l.idxOf a = l.idxOf b := by omega
  rw [<- e1, <- e2]
  simp only [h']
theorem knL_step (v : LV s nx lp) {w : List Int} {x : Int} (hw : LtrOk nx w) (hx : 0 <= x /\ x < nx.length) : numL (kpK nx x (knL s nx w)) = knL s nx (x :: w) := by
  have e : kpK nx x (knL s nx w) = (acL s nx (x :: w)).map fun c => (((fin (acL s nx w)).idxOf c : Nat) : Int) := by
    unfold kpK acL
    rw [row_all v hx, List.map_map, List.map_map]
    refine List.map_congr_left fun q hq => ?_
    have hq' := mk1_mem.1 hq
    have hs := v.s1
    exact knL_get w (tbl_at v.nx hx (by omega))
  rw [e]
  have hin : ∀ a, a ∈ acL s nx (x :: w) -> a ∈ fin (acL s nx w) := fun a ha => by
    obtain ⟨q, hq, rfl⟩ := List.mem_map.1 ha
    have hq' := mk1_mem.1 hq
    have hs := v.s1
    have := tbl_at v.nx hx (q := q) (by omega)
    exact fin_mem.2 (List.mem_map.2 ⟨at2 nx x q, mk1_mem.2 (by omega), rfl⟩)
  exact numL_inj fun a b ha hb h => idx_inj (hin a ha) (hin b hb) h
theorem knL_rng (v : LV s nx lp) (w : List Int) {c : Int} (h : c ∈ knL s nx w) : 0 <= c /\ c < s := by
  obtain ⟨i, hi, e⟩ := List.getElem_of_mem h
  have := nuF_rgs (acL s nx w) [] i c (by rw [<- e]; exact List.getElem?_eq_getElem hi)
  rw [knL_len] at hi
  simp at this
  omega
theorem kpK_len (v : LV s nx lp) {x : Int} (hx : 0 <= x /\ x < nx.length) (k : List Int) : (kpK nx x k).length = s.toNat := by
  have := tbl_row v.nx hx
  have hs := v.s1
  simp [kpK]; omega
theorem encB7 {n : Nat} (h : n <= 7) : encB 0 n <= 5040 := by
  have : n = 0 \/ n = 1 \/ n = 2 \/ n = 3 \/ n = 4 \/ n = 5 \/ n = 6 \/ n = 7 := by omega
  rcases this with rfl | rfl | rfl | rfl | rfl | rfl | rfl | rfl <;> decide
theorem kn_count (h7 : s <= 7) {ks : List (List Int)} (hn : ks.Nodup) (h : ∀ k ∈ ks, ∃ w, k = knL s nx w) : ks.length <= 5040 := by
  have hr : ∀ k ∈ ks, k.length = s.toNat /\ ∀ (i : Nat) (c : Int), k[i]? = some c -> 0 <= c /\ c <= ((0 + i : Nat) : Int) := fun k hk => by
    obtain ⟨w, rfl⟩ := h k hk
    exact ⟨knL_len w, fun i c hc => by simpa using nuF_rgs (acL s nx w) [] i c hc⟩
  have h1 : (ks.map (encL 0)).Nodup := by
    refine List.nodup_iff_pairwise_ne.2 (List.pairwise_map.2 ((List.nodup_iff_pairwise_ne.1 hn).imp_of_mem ?_))
    intro a b ha hb hab e
    exact hab (encL_inj a b 0 (by rw [(hr a ha).1, (hr b hb).1]) (hr a ha).2 (hr b hb).2 e)
  have h2 := nodup_le (encB 0 s.toNat) _ h1 fun x hx => by
    obtain ⟨k, hk, rfl⟩ := List.mem_map.1 hx
    have := encL_lt k 0 (hr k hk).2
    rwa [(hr k hk).1] at this
  have h3 := encB7 (n := s.toNat) (by omega)
  rw [List.length_map] at h2
  omega
theorem maxL_spec : ∀ (l : List Int) (x : Int), (∀ y ∈ x :: l, y <= maxL x l) /\ maxL x l ∈ x :: l
  | [], x => ⟨fun y h => by rw [List.mem_singleton.1 h]; exact Int.le_refl _, List.mem_singleton.2 rfl⟩
  | z :: l, x => by
    obtain ⟨h1, h2⟩ := maxL_spec l (max x z)
    have hm := h1 _ (List.mem_cons_self ..)
    refine ⟨fun y hy => ?_, ?_⟩
    . show y <= maxL (max x z) l
      rcases List.mem_cons.1 hy with rfl | hy
      . omega
      . rcases List.mem_cons.1 hy with rfl | hy
        . omega
        . exact h1 y (List.mem_cons_of_mem _ hy)
    . show maxL (max x z) l ∈ x :: z :: l
      rcases List.mem_cons.1 h2 with h | h
      . rw [h]
        rcases Int.le_total x z with h3 | h3
        . rw [Int.max_eq_right h3]; simp
        . rw [Int.max_eq_left h3]; simp
      . exact List.mem_cons_of_mem _ (List.mem_cons_of_mem _ h)
theorem maxL_num {l : List Int} {x : Int} {k : List Int} (h : numL l = x :: k) : maxL x k + 1 = (fin l).length := by
  obtain ⟨h1, h2⟩ := maxL_spec k x
  rw [<- h] at h1 h2
  rw [numL_map] at h1 h2
  obtain ⟨c, hc, e⟩ := List.mem_map.1 h2
  have hlt := List.idxOf_lt_length_iff.2 (fin_mem.2 hc)
  have hne : fin l ≠ [] := fun e0 => by rw [e0] at hlt; simp at hlt
  have hpos : 0 < (fin l).length := List.length_pos_iff.2 hne
  have hlast := fin_mem.1 (List.getElem_mem (show (fin l).length - 1 < (fin l).length by omega))
  have hidx : (fin l).idxOf ((fin l)[(fin l).length - 1]) = (fin l).length - 1 := (fin_nd l).idxOf_getElem _ (by omega)
  have := h1 _ (List.mem_map_of_mem (f := fun c => (((fin l).idxOf c : Nat) : Int)) hlast)
  simp only [hidx] at this
  omega
theorem rn_runS2 (v : LV s nx lp) {u : List Nat} (hu : ∀ x ∈ u, x < nx.length) {i : Nat} (hi : i < s.toNat) : rn (dl nx) u i = (runS nx i (u.map fun x : Nat => (x : Int))).toNat := by
  have hs := v.s1
  have := rn_runS v.nx (u.map fun x : Nat => (x : Int)) (q := (i : Int)) (fun l hl => by
    obtain ⟨x, hx, rfl⟩ := List.mem_map.1 hl
    have := hu x hx
    omega) (by omega)
  rw [List.map_map, Int.toNat_natCast] at this
  rw [<- this]
  congr 1
  exact ((List.map_id u).symm.trans (List.map_congr_left fun x _ => (Int.toNat_natCast x).symm) : u = u.map (Int.toNat ∘ fun x : Nat => (x : Int)))
theorem acL_app (w u : List Int) : acL s nx (w ++ u) = (acL s nx w).map fun q => runS nx q u := by
  unfold acL
  rw [List.map_map]
  exact List.map_congr_left fun q _ => runS_app' nx w u q
theorem kn_weight (v : LV s nx lp) (hc : Cn s nx) {z : List Int} (hz : LtrOk nx z) (hr : ((fin (acL s nx z)).length : Int) = rkA s nx) :
    ∃ M : Int, ∀ c : Nat, (c : Int) < rkA s nx -> ws s.toNat (wN s nx) (fun j => decide ((knL s nx z).getD j 0 = (c : Int))) = M := by
  have hs := v.s1
  have con := con_of v hc
  have hz' : ∀ x ∈ z.map Int.toNat, x < nx.length := fun x hx => by
    obtain ⟨y, hy, rfl⟩ := List.mem_map.1 hx
    have := hz y hy
    omega
  have hzr : ∀ {i : Nat}, i < s.toNat -> rn (dl nx) (z.map Int.toNat) i = (runS nx i z).toNat := fun {i} hi => by
    have := rn_runS v.nx z (q := (i : Int)) hz (by omega)
    rwa [Int.toNat_natCast] at this
  have hzb : ∀ {i : Nat}, i < s.toNat -> 0 <= runS nx i z /\ runS nx i z < s := fun {i} hi => rc_rng (o := 0) v.nx (q := (i : Int)) (by omega) ⟨z, hz, rfl⟩
  obtain ⟨M, hM⟩ := friedman con (by omega) (w := wN s nx) (fun i hi => (wN_pos v hc hi).1) (fun j hj => wN_bal v hc hj) hz' fun u hu i j hi hj he => by
    rw [hzr hi, hzr hj] at he ⊢
    have b1 := hzb hi
    have b2 := hzb hj
    rw [rn_runS2 v hu (by omega), rn_runS2 v hu (by omega)] at he
    rw [show (((runS nx i z).toNat : Nat) : Int) = runS nx i z by omega, show (((runS nx j z).toNat : Nat) : Int) = runS nx j z by omega] at he
    have hu' : LtrOk nx (u.map fun x : Nat => (x : Int)) := fun l hl => by
      obtain ⟨x, hx, rfl⟩ := List.mem_map.1 hl
      have := hu x hx
      omega
    have hle := rk_le v (w := z ++ u.map fun x : Nat => (x : Int)) fun l hl => (List.mem_append.1 hl).elim (hz l) (hu' l)
    rw [acL_app] at hle
    have r1 := rc_rng (o := 0) v.nx b1 ⟨_, hu', rfl⟩
    have r2 := rc_rng (o := 0) v.nx b2 ⟨_, hu', rfl⟩
    have := fin_inj (g := fun q => runS nx q (u.map fun x : Nat => (x : Int))) (l := acL s nx z) (by omega) (a := runS nx i z) (b := runS nx j z) (List.mem_map_of_mem (mk1_mem.2 (by omega))) (List.mem_map_of_mem (mk1_mem.2 (by omega))) (by
      show runS nx _ _ = runS nx _ _
      omega)
    rw [this]
  refine ⟨M, fun c hcr => ?_⟩
  have hcl : c < (fin (acL s nx z)).length := by omega
  have hm := fin_mem.1 (List.getElem_mem hcl)
  obtain ⟨q, hq, e⟩ := List.mem_map.1 hm
  have hq' := mk1_mem.1 hq
  rw [<- hM q.toNat (by omega)]
  refine sm_congr fun j hj => ?_
  have hqN : ((q.toNat : Nat) : Int) = q := by omega
  have k1 := knL_get (nx := nx) z (t := (j : Int)) (s := s) (by omega)
  rw [Int.toNat_natCast] at k1
  have i1 : (fin (acL s nx z)).idxOf (runS nx q z) = c := by rw [e]; exact (fin_nd _).idxOf_getElem _ hcl
  have b1 := hzb hj
  have b2 := hzb (i := q.toNat) (by omega)
  rw [hqN] at b2
  have hin : ∀ t : Int, 0 <= t /\ t < s -> runS nx t z ∈ fin (acL s nx z) := fun t ht => fin_mem.2 (List.mem_map_of_mem (mk1_mem.2 (by omega)))
  have hiff : ((knL s nx z).getD j 0 = (c : Int)) ↔ rn (dl nx) (z.map Int.toNat) j = rn (dl nx) (z.map Int.toNat) q.toNat := by
    rw [k1, hzr hj, hzr (i := q.toNat) (by omega), hqN, <- i1]
    constructor
    . intro h
      rw [idx_inj (hin j (by omega)) (hin q (by omega)) h]
    . intro h
      rw [show runS nx j z = runS nx q z by omega]
  by_cases h : (knL s nx z).getD j 0 = (c : Int)
  . rw [if_pos (decide_eq_true h), if_pos (by simpa using hiff.1 h)]
  . rw [if_neg (by simpa using h), if_neg (by simpa using fun x => h (hiff.2 x))]
theorem sm_if1 {n : Nat} {x : Int} (h : 0 <= x /\ x < n) (a : Int) : Gw.sm n (fun c => if (x = (c : Int)) then a else 0) = a := by
  induction n with
  | zero => omega
  | succ n ih =>
    show Gw.sm n _ + (if x = (n : Int) then a else 0) = a
    by_cases hx : x = n
    . rw [if_pos hx, sm_zero fun i hi => if_neg (by omega)]; omega
    . rw [if_neg hx, ih (by omega)]; omega
theorem kn_total (v : LV s nx lp) (hc : Cn s nx) {z : List Int} (hz : LtrOk nx z) (hr : ((fin (acL s nx z)).length : Int) = rkA s nx) {c : Nat} (h : (c : Int) < rkA s nx) :
    ws s.toNat (wN s nx) (fun j => decide ((knL s nx z).getD j 0 = (c : Int))) * rkA s nx = Gw.sm s.toNat (wN s nx) := by
  obtain ⟨M, hM⟩ := kn_weight v hc hz hr
  have hrk := rk_pos v
  have hs := v.s1
  have e1 : Gw.sm (rkA s nx).toNat (fun c => ws s.toNat (wN s nx) (fun j => decide ((knL s nx z).getD j 0 = (c : Int)))) = (rkA s nx).toNat * M := by
    rw [sm_congr fun c hc => hM c (by omega)]
    generalize (rkA s nx).toNat = n
    induction n with
    | zero => simp [Gw.sm]
    | succ n ih =>
      show Gw.sm n _ + M = _
      rw [ih, Int.natCast_add, Int.add_mul]; simp
  have e2 : Gw.sm (rkA s nx).toNat (fun c => ws s.toNat (wN s nx) (fun j => decide ((knL s nx z).getD j 0 = (c : Int)))) = Gw.sm s.toNat (wN s nx) := by
    unfold ws
    rw [sm_swap]
    refine sm_congr fun j hj => ?_
    have k1 := knL_get (nx := nx) z (t := (j : Int)) (s := s) (by omega)
    rw [Int.toNat_natCast] at k1
    have hin : runS nx j z ∈ fin (acL s nx z) := fin_mem.2 (List.mem_map_of_mem (mk1_mem.2 (by omega)))
    have hlt := List.idxOf_lt_length_iff.2 hin
    have := sm_if1 (n := (rkA s nx).toNat) (x := (knL s nx z).getD j 0) (by rw [k1]; omega) (wN s nx j)
    exact (sm_congr fun c _ => by simp only [decide_eq_true_eq]).trans this
  have hrn : (((rkA s nx).toNat : Nat) : Int) = rkA s nx := by omega
  rw [hM c h, Int.mul_comm, <- e2, e1, hrn]
end
end Go.Proofs.YtckpadnjldebaaaGreat
namespace Go.Proofs.YtckpadnjldebaaaGreat
open Go
attribute [local irreducible] awp awpL awpQL awpQ awpM pWalk Qt AC thenQ blockQ loopQ OpTo
set_option linter.unusedVariables false
set_option linter.unusedSimpArgs false
set_option maxHeartbeats 2000000
attribute [local irreducible] HC HX
open Go.RowKit (Below)
section
variable {cx : Cx} {h : Heap} {s : Nat -> SV} {dst : Option Nat} {ty : Nat} {pos : String} {af : Array Edge} {gd : Option (Nat × Bool)}
attribute [local semireducible] Qt in
theorem qa_min {tys : Array TypeId} {x y : Operand} {k k' : IntKind} {a b : Int} (hx : opv s x = .d (.int k a)) (hy : opv s y = .d (.int k' b)) :
    Qt cx h ⟨dst, .call { callee := .builtin .min, args := #[x, y], argTypes := tys }, ty, pos, af, gd⟩ s (.d (.int k (min a b))) :=
  qt_of fun r hr σ c w hv _ _ => by
    have h1 := hv x
    have h2 := hv y
    rw [hr x (by simp [Op.operands, Call.operands]), hx] at h1
    rw [hr y (by simp [Op.operands, Call.operands]), hy] at h2
    have h1' := RepD.int_inv h1
    have h2' := RepD.int_inv h2
    refine ⟨.int k (min a b), w, ?_, Below.refl _ _, RepD.int _ _⟩
    have e : (if b < a then b else a) = min a b := by split <;> omega
    simp [execOp, resolve, invoke, builtin, h1', h2', Builtin.min_, Builtin.min2, e, Sem.run_bind, Sem.run_pure, Result.andThen]
end
theorem impl_count {f : Nat} (hf : f < 18446744073709551616) : AC Tryz.prog 277 [.int .u64 f] (.int .i64 (cnS f)) := by
  have e1 := impl_set hf
  have e2 := impl_size1 (ns := setN f)
  refine ac_intro tabIs _ Tryz.func277 rfl rfl Tryz.ntmps277 rfl rfl fun w0 ok0 he0 => ?_
  repeat (first | refine zc ?_ | refine zk (e := by exact e1) (n := ?_) | refine zk (e := by exact e2) (n := ?_) | refine zv ?_)
  refine zt ?_
  rfl
theorem seF_cons (seen : List Int) (c : Int) (cs : List Int) : seF seen (c :: cs) = seF (if c ∈ seen then seen else seen ++ [c]) cs := by
  show (if c ∈ seen then _ else _) = _
  split <;> rfl
theorem seF_snoc : ∀ (l seen : List Int) (c : Int), seF seen (l ++ [c]) = if c ∈ seF seen l then seF seen l else seF seen l ++ [c]
  | [], seen, c => rfl
  | d :: l, seen, c => by rw [List.cons_append, seF_cons, seF_cons]; exact seF_snoc l _ c
theorem nuF_snoc : ∀ (l seen : List Int) (c : Int), nuF seen (l ++ [c]) = nuF seen l ++ [(((seF seen (l ++ [c])).idxOf c : Nat) : Int)]
  | [], seen, c => by
    rw [List.nil_append, seF_cons]
    rfl
  | d :: l, seen, c => by
    rw [List.cons_append, seF_cons]
    show _ :: nuF _ (l ++ [c]) = _ :: (nuF _ l ++ _)
    rw [nuF_snoc l _ c]
def kvN : Nat -> List Int -> List (D × D)
  | _, [] => []
  | i, c :: l => (.int .i64 c, .int .i64 (i : Nat)) :: kvN (i + 1) l
theorem kvN_len : ∀ (l : List Int) (i : Nat), (kvN i l).length = l.length
  | [], _ => rfl
  | c :: l, i => by simp [kvN, kvN_len l (i + 1)]
theorem kvN_keys : ∀ (l : List Int) (i : Nat), keysI .i64 (kvN i l) = true
  | [], _ => rfl
  | c :: l, i => by
    show keysI .i64 ((D.int .i64 c, _) :: kvN (i + 1) l) = true
    simp only [keysI, Bool.and_eq_true]
    exact ⟨rfl, kvN_keys l (i + 1)⟩
theorem kvN_none {c : Int} : ∀ (l : List Int) (i : Nat), c ∉ l -> mget c (kvN i l) = none
  | [], _, _ => rfl
  | d :: l, i, h => by
    simp only [List.mem_cons, not_or] at h
    show mget _ ((D.int .i64 d, _) :: kvN (i + 1) l) = none
    simp only [mget]
    rw [if_neg h.1]
    exact kvN_none l (i + 1) h.2
theorem kvN_get {c : Int} : ∀ (l : List Int) (i : Nat), c ∈ l -> mget c (kvN i l) = some (.int .i64 ((i + l.idxOf c : Nat) : Int))
  | [], _, h => by cases h
  | d :: l, i, h => by
    show mget _ ((D.int .i64 d, _) :: kvN (i + 1) l) = _
    simp only [mget]
    by_cases hd : c = d
    . subst hd
      rw [if_pos rfl, List.idxOf_cons_self]; rfl
    . rw [if_neg hd, List.idxOf_cons, show (d == c) = false by simpa using fun e => hd e.symm, kvN_get l (i + 1) ((List.mem_cons.1 h).resolve_left hd)]
      show some (D.int .i64 _) = some (D.int .i64 ((i + (l.idxOf c + 1) : Nat) : Int))
      rw [show i + (l.idxOf c + 1) = i + 1 + l.idxOf c by omega]
theorem kvN_put {c : Int} : ∀ (l : List Int) (i : Nat), c ∉ l -> mput .i64 c (.int .i64 ((i + l.length : Nat) : Int)) (kvN i l) = kvN i (l ++ [c])
  | [], _, _ => rfl
  | d :: l, i, h => by
    simp only [List.mem_cons, not_or] at h
    have ih := kvN_put l (i + 1) h.2
    show mput .i64 _ _ ((D.int .i64 d, _) :: kvN (i + 1) l) = (D.int .i64 d, _) :: kvN (i + 1) (l ++ [c])
    simp only [mput]
    rw [if_neg h.1, <- ih]
    simp only [List.length_cons]
    rw [show i + (l.length + 1) = i + 1 + l.length by omega]
theorem impl_numbered {l : List Int} (hl : l.length <= 1000) : AC Tryz.prog 95 [ints l] (ints (numL l)) := by
  have hle : (List.map (D.int .i64) l).length = l.length := by simp
  refine ac_intro tabIs _ Tryz.func95 rfl rfl Tryz.ntmps95 rfl rfl fun w0 ok0 he0 => ?_
  repeat (first | refine v_w (t := 9) ?_ | refine zc ?_ | refine u_w (t := 9) ?_ | refine zv ?_)
  refine awp_permTo [(9, .arr 2 1 []), (10, .map [])] rfl ?_
  refine awp_loop (fun k : Nat => k <= l.length) (fun k => [(3, .own 9), (4, .own 10), (11, .d (ints l)), (12, .d (.int .i64 l.length)), (13, .d (.int .i64 k))]) (fun k => [(9, .arr 2 1 ((nuF [] (l.take k)).map (.int .i64))), (10, .map (kvN 0 (seF [] (l.take k))))]) (fun k => l.length - k) 0 (by omega) ?_ rfl ?_
  . refine ⟨rfl, rfl, rfl, congrArg (fun n : Nat => SV.d (.int .i64 n)) hle, rfl, trivial⟩
  . intro k hk
    have hnl : (List.map (D.int .i64) (nuF [] (l.take k))).length = k := by rw [nuF_map]; simp; omega
    have hol : (nuF [] (l.take k)).length = k := by rw [nuF_map]; simp; omega
    by_cases hlt : k < l.length
    . have hx := el_int hlt
      have ht := List.take_succ_eq_append_getElem hlt
      have e1 := nuF_snoc (l.take k) [] l[k]
      have e2 := seF_snoc (l.take k) [] l[k]
      rw [<- ht] at e1 e2
      rw [e2] at e1
      generalize l[k] = c at *
      generalize seF [] (l.take k) = S at *
      generalize nuF [] (l.take k) = O at *
      have hsl := kvN_len S 0
      have hkeys := kvN_keys S 0
      by_cases hm : c ∈ S
      . rw [if_pos hm] at e1 e2
        have hg : MGt c (kvN 0 S) (some (.int .i64 ((0 + S.idxOf c : Nat) : Int))) := ⟨kvN_get S 0 hm⟩
        rw [Nat.zero_add] at hg
        repeat (first | refine zc ?_ | ((first | apply x_l | apply x_q | apply x_lr | apply x_qr); (focus (first | (apply wa_gt; (iterate 11 (focus (first | exact rfl | (first | assumption | omega | (simp; omega) | (simp; done) | rfl))))))); exact rfl) | (apply v_x; (iterate 2 exact rfl); (focus (intro ok0 nw hle; (first | (apply wa_gt; (iterate 11 (focus (first | exact rfl | (first | assumption | omega | (simp; omega) | (simp; done) | rfl)))))))); (iterate 2 exact rfl)) | refine zv ?_)
        refine loop_n (k + 1) (by omega) ?_ ?_ (by omega)
        . exact zs
        . rw [e1, e2, List.map_append]; rfl
      . rw [if_neg hm] at e1 e2
        have hg : MGt c (kvN 0 S) none := ⟨kvN_none S 0 hm⟩
        have hm2 : c ∈ S ++ [c] := List.mem_append_right _ (List.mem_singleton.2 rfl)
        have hp := kvN_put S 0 hm
        rw [Nat.zero_add, <- hsl] at hp
        have hg2 : MGt c (mput .i64 c (.int .i64 ((kvN 0 S).length : Nat)) (kvN 0 S)) (some (.int .i64 ((0 + (S ++ [c]).idxOf c : Nat) : Int))) := ⟨by rw [hp]; exact kvN_get (S ++ [c]) 0 hm2⟩
        rw [Nat.zero_add] at hg2
        have hkeys2 : keysI .i64 (mput .i64 c (.int .i64 ((kvN 0 S).length : Nat)) (kvN 0 S)) = true := by rw [hp]; exact kvN_keys (S ++ [c]) 0
        generalize (S ++ [c]).idxOf c = j at *
        repeat (first | refine zc ?_ | ((first | apply x_l | apply x_q | apply x_lr | apply x_qr); (focus (first | (apply wa_gt; (iterate 11 (focus (first | exact rfl | (first | assumption | omega | (simp; omega) | (simp; done) | rfl))))))); exact rfl) | (apply v_x; (iterate 2 exact rfl); (focus (intro ok0 nw hle; (first | (apply wa_gt; (iterate 11 (focus (first | exact rfl | (first | assumption | omega | (simp; omega) | (simp; done) | rfl)))))))); (iterate 2 exact rfl)) | refine zv ?_)
        refine loop_n (k + 1) (by omega) ?_ ?_ (by omega)
        . exact zs
        . rw [e1, e2, <- hp, List.map_append]; rfl
    . have : k = l.length := by omega
      subst this
      rw [List.take_length]
      refine awp_freeze 9 rfl rfl ?_
      repeat (first | refine zc ?_ | refine zv ?_)
      refine zt ?_
      rfl
section
attribute [local irreducible] cnS frF rkA
variable {s : Int} {nx : List (List Int)} {lp : List Int}
theorem impl_least (v : LV s nx lp) : AC Tryz.prog 208 [.agg [.int .i64 s, rows nx], .int .u64 (frF s)] (.int .i64 (rkA s nx)) := by
  have hp := pw_1024 v
  have hf := frF_lt v
  have c1 := impl_count (f := frF s) (by omega)
  have c2 := impl_tour v hf
  have hok := lstQ_ok (nf := nfB nx) (n := nx.length) (fun c x hc hx => nfB_lt v hc hx) hf 1024
  have hlen := hok.len
  have hlt := hok.lt
  have hdef : rkA s nx = mnL (cnS (frF s)) ((trQ (nfB nx) nx.length (frF s)).map fun p => cnS p.1) := by unfold rkA; rfl
  rw [show lstQ (nfB nx) nx.length (frF s) 1024 = trQ (nfB nx) nx.length (frF s) from rfl] at hlen hlt
  generalize trQ (nfB nx) nx.length (frF s) = L at *
  have hol : (ordU L).length = L.length := by simp [ordU]
  refine ac_intro tabIs _ Tryz.func208 rfl rfl Tryz.ntmps208 rfl rfl fun w0 ok0 he0 => ?_
  repeat (first | refine zc ?_ | refine zk (e := by exact c1) (n := ?_) | refine zk (e := by exact c2) (n := ?_) | refine zv ?_)
  refine awp_loop (fun k : Nat => k <= L.length) (fun k => [(5, .d (.int .i64 (mnL (cnS (frF s)) ((L.take k).map fun p => cnS p.1)))), (13, .d (.lst (ordU L))), (14, .d (.int .i64 L.length)), (15, .d (.int .i64 k))]) (fun _ => []) (fun k => L.length - k) 0 (by omega) ?_ rfl ?_
  . refine ⟨rfl, rfl, congrArg (fun n : Nat => SV.d (.int .i64 n)) hol, rfl, trivial⟩
  . intro k hk
    by_cases hlk : k < L.length
    . have ht := List.take_succ_eq_append_getElem hlk
      have hg : (ordU L)[(k : Int).toNat]? = some (.int .u64 ((L[k].1 : Nat) : Int)) := by simp [ordU, hlk]
      have hb := hlt _ (List.getElem_mem hlk)
      have e : mnL (cnS (frF s)) ((L.take (k + 1)).map fun p => cnS p.1) = min (mnL (cnS (frF s)) ((L.take k).map fun p => cnS p.1)) (cnS L[k].1) := by
        rw [ht, List.map_append]
        exact mnL_snoc _ _ _
      generalize L[k] = p at *
      have c3 := impl_count (f := p.1) (by omega)
      generalize mnL (cnS (frF s)) ((L.take k).map fun p => cnS p.1) = m at *
      generalize cnS p.1 = y at *
      repeat (first | refine zc ?_ | ((first | apply x_l | apply x_q | apply x_lr | apply x_qr); (focus (first | (apply qa_min; (iterate 2 (focus (first | exact rfl | (first | assumption | omega | (simp; omega) | (simp; done) | rfl))))))); exact rfl) | refine zk (e := by exact c3) (n := ?_) | (apply v_x; (iterate 2 exact rfl); (focus (intro ok0 nw hle; (first | (apply qa_min; (iterate 2 (focus (first | exact rfl | (first | assumption | omega | (simp; omega) | (simp; done) | rfl)))))))); (iterate 2 exact rfl)) | refine zv ?_)
      refine loop_n (k + 1) (by omega) ?_ rfl (by omega)
      rw [e]
      exact zs
    . have : k = L.length := by omega
      subst this
      rw [List.take_length, <- hdef]
      repeat (first | refine zc ?_ | refine zv ?_)
      refine zt ?_
      rfl
theorem impl_rank (v : LV s nx lp) : AC Tryz.prog 98 [.agg [.int .i64 s, rows nx]] (.int .i64 (rkA s nx)) := by
  have hs := v.s1
  have c1 := impl_all (s := s) (nx := nx) (by omega)
  have c2 := impl_flockOf (l := mk1 0 s.toNat) (fun x hx => by have := mk1_mem.1 hx; omega) (by rw [mk1_length]; omega)
  have c3 := impl_least v
  rw [show bitsL 0 (mk1 0 s.toNat) = frF s by unfold frF; rfl] at c2
  generalize frF s = f at *
  generalize rkA s nx = r at *
  generalize mk1 0 s.toNat = ml at *
  refine ac_intro tabIs _ Tryz.func98 rfl rfl Tryz.ntmps98 rfl rfl fun w0 ok0 he0 => ?_
  repeat (first | refine zc ?_ | refine zk (e := by exact c1) (n := ?_) | refine zk (e := by exact c2) (n := ?_) | refine zk (e := by exact c3) (n := ?_) | refine zv ?_)
  refine zt ?_
  rfl
theorem impl_RankOf (v : LV s nx lp) (hok : autoOk s nx = true) (hr : RowsOk nx) : AC Tryz.prog 26 [.agg [.int .i64 s, rows nx]] (.tup [.int .i64 (rkA s nx), .int .i64 0]) := by
  have e1 := impl_ValidAutomaton (s := s) hr
  rw [hok] at e1
  have c1 := impl_rank v
  generalize rkA s nx = r at *
  refine ac_intro tabIs _ Tryz.func26 rfl rfl Tryz.ntmps26 rfl rfl fun w0 ok0 he0 => ?_
  repeat (first | refine zc ?_ | refine zk (e := by exact e1) (n := ?_) | refine zk (e := by exact c1) (n := ?_) | refine zv ?_)
  refine zt ?_
  rfl
end
end Go.Proofs.YtckpadnjldebaaaGreat
