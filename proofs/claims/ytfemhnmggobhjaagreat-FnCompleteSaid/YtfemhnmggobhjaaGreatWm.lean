/- A machine with at most k states more that passes a complete suite answers alike to all words (plain). No condition. -/
import Derived.Test.YtfemhnmggobhjaaGreatPa
import Derived.Test.YtfemhnmggobhjaaGreatIa
import Derived.Test.YtfemhnmggobhjaaGreatYc
import Derived.Test.YtfemhnmggobhjaaGreatHd
namespace Go.Proofs.YtfemhnmggobhjaaGreat
set_option linter.unusedVariables false
theorem runS_append (nx : List (List Int)) : ∀ (u v : List Int) (q : Int), runS nx q (u ++ v) = runS nx (runS nx q u) v
  | [], _, _ => rfl
  | l :: u, v, q => runS_append nx u v (at2 nx l q)
theorem runO_append (nx ou : List (List Int)) : ∀ (u v : List Int) (q : Int), runO nx ou q (u ++ v) = runO nx ou q u ++ runO nx ou (runS nx q u) v
  | [], _, _ => rfl
  | l :: u, v, q => by
    show at2 ou l q :: runO nx ou (at2 nx l q) (u ++ v) = _
    rw [runO_append nx ou u v]
    rfl
theorem runO_behind {nx ou nx' ou' : List (List Int)} {u v : List Int} {q q' : Int} (h : runO nx ou q (u ++ v) = runO nx' ou' q' (u ++ v)) : runO nx ou (runS nx q u) v = runO nx' ou' (runS nx' q' u) v := by
  rw [runO_append, runO_append] at h
  exact (List.append_inj h (by rw [runO_length, runO_length])).2
theorem runO_ahead {nx ou nx' ou' : List (List Int)} {u v : List Int} {q q' : Int} (h : runO nx ou q (u ++ v) = runO nx' ou' q' (u ++ v)) : runO nx ou q u = runO nx' ou' q' u := by
  rw [runO_append, runO_append] at h
  exact (List.append_inj h (by rw [runO_length, runO_length])).1
def LtW (n : Nat) (w : List Int) : Prop := ∀ l ∈ w, 0 <= l /\ l < (n : Int)
def Zk (n : Nat) (W : List (List Int)) (i : Nat) (w : List Int) : Prop := ∃ u v, u.length <= i /\ LtW n u /\ v ∈ W /\ w = u ++ v
def Agr (nx ou : List (List Int)) (Z : List Int -> Prop) (x y : Int) : Prop := ∀ w, Z w -> runO nx ou x w = runO nx ou y w
def Eqv (nx ou : List (List Int)) (n : Nat) (x y : Int) : Prop := ∀ w, LtW n w -> runO nx ou x w = runO nx ou y w
theorem Agr.symm {nx ou : List (List Int)} {Z : List Int -> Prop} {x y : Int} (h : Agr nx ou Z x y) : Agr nx ou Z y x := fun w hw => (h w hw).symm
theorem Agr.trans {nx ou : List (List Int)} {Z : List Int -> Prop} {x y z : Int} (h : Agr nx ou Z x y) (k : Agr nx ou Z y z) : Agr nx ou Z x z := fun w hw => (h w hw).trans (k w hw)
theorem Zk.mono {n : Nat} {W : List (List Int)} {i j : Nat} (h : i <= j) {w : List Int} (hz : Zk n W i w) : Zk n W j w := by
  obtain ⟨u, v, h1, h2, h3, h4⟩ := hz
  exact ⟨u, v, by omega, h2, h3, h4⟩
theorem Agr.mono {nx ou : List (List Int)} {n : Nat} {W : List (List Int)} {i j : Nat} (h : i <= j) {x y : Int} (k : Agr nx ou (Zk n W j) x y) : Agr nx ou (Zk n W i) x y := fun w hw => k w (hw.mono h)
theorem agr_stable {nx ou : List (List Int)} {n : Nat} {S : Int} {W : List (List Int)} {i : Nat} (hcl : ∀ l x, 0 <= l -> l < (n : Int) -> 0 <= x -> x < S -> 0 <= at2 nx l x /\ at2 nx l x < S) (hW0 : W ≠ [])
    (hst : ∀ x y, (0 <= x /\ x < S) -> (0 <= y /\ y < S) -> Agr nx ou (Zk n W i) x y -> Agr nx ou (Zk n W (i + 1)) x y) :
    ∀ (w : List Int) (x y : Int), (0 <= x /\ x < S) -> (0 <= y /\ y < S) -> Agr nx ou (Zk n W i) x y -> LtW n w -> runO nx ou x w = runO nx ou y w
  | [], _, _, _, _, _, _ => rfl
  | l :: w, x, y, hx, hy, h, hl => by
    obtain ⟨v0, W', rfl⟩ := List.exists_cons_of_ne_nil hW0
    have h1 := hst x y hx hy h
    have hl0 := hl l (List.mem_cons_self ..)
    have key : ∀ z, Zk n (v0 :: W') i z -> at2 ou l x :: runO nx ou (at2 nx l x) z = at2 ou l y :: runO nx ou (at2 nx l y) z := fun z hz => by
      obtain ⟨u, v, k1, k2, k3, rfl⟩ := hz
      exact h1 (l :: (u ++ v)) ⟨l :: u, v, by simp; omega, fun a ha => by
        rcases List.mem_cons.1 ha with rfl | ha
        . exact hl0
        . exact k2 a ha, k3, rfl⟩
    have h2 := key v0 ⟨[], v0, by simp, fun a ha => by simp at ha, List.mem_cons_self .., rfl⟩
    have h3 : Agr nx ou (Zk n (v0 :: W') i) (at2 nx l x) (at2 nx l y) := fun z hz => (List.cons.inj (key z hz)).2
    show _ :: _ = _ :: _
    rw [(List.cons.inj h2).1, agr_stable hcl hW0 hst w _ _ (hcl l x hl0.1 hl0.2 hx.1 hx.2) (hcl l y hl0.1 hl0.2 hy.1 hy.2) h3 fun a ha => hl a (List.mem_cons_of_mem _ ha)]
theorem agr_grow {nx ou : List (List Int)} {n : Nat} {S : Int} {W : List (List Int)} (hcl : ∀ l x, 0 <= l -> l < (n : Int) -> 0 <= x -> x < S -> 0 <= at2 nx l x /\ at2 nx l x < S) (hW0 : W ≠ []) {c : Nat}
    (h0 : ∃ L : List Int, (∀ x ∈ L, 0 <= x /\ x < S) /\ L.Pairwise (fun x y => ¬ Agr nx ou (Zk n W 0) x y) /\ c <= L.length) : ∀ i,
    (∀ x y, (0 <= x /\ x < S) -> (0 <= y /\ y < S) -> Agr nx ou (Zk n W i) x y -> Eqv nx ou n x y) \/
    ∃ L : List Int, (∀ x ∈ L, 0 <= x /\ x < S) /\ L.Pairwise (fun x y => ¬ Agr nx ou (Zk n W i) x y) /\ c + i <= L.length
  | 0 => .inr h0
  | i + 1 => by
    rcases agr_grow hcl hW0 h0 i with h | ⟨L, h1, h2, h3⟩
    . exact .inl fun x y hx hy h' => h x y hx hy (h'.mono (by omega))
    by_cases hst : ∀ x y, (0 <= x /\ x < S) -> (0 <= y /\ y < S) -> Agr nx ou (Zk n W i) x y -> Agr nx ou (Zk n W (i + 1)) x y
    . exact .inl fun x y hx hy h' w hw => agr_stable hcl hW0 hst w x y hx hy (h'.mono (by omega)) hw
    . have : ∃ x y, (0 <= x /\ x < S) /\ (0 <= y /\ y < S) /\ Agr nx ou (Zk n W i) x y /\ ¬ Agr nx ou (Zk n W (i + 1)) x y := by
        refine Classical.byContradiction fun hno => hst fun x y hx hy h' => Classical.byContradiction fun hn => hno ⟨x, y, hx, hy, h', hn⟩
      obtain ⟨x, y, hx, hy, hxy, hn⟩ := this
      have h2' : L.Pairwise (fun x y => ¬ Agr nx ou (Zk n W (i + 1)) x y) := h2.imp fun hab h' => hab (h'.mono (by omega))
      have add : ∀ z, (0 <= z /\ z < S) -> (∀ l ∈ L, ¬ Agr nx ou (Zk n W (i + 1)) l z) -> ∃ L : List Int, (∀ x ∈ L, 0 <= x /\ x < S) /\ L.Pairwise (fun x y => ¬ Agr nx ou (Zk n W (i + 1)) x y) /\ c + (i + 1) <= L.length := fun z hz hd =>
        ⟨L ++ [z], fun a ha => by
          rcases List.mem_append.1 ha with ha | ha
          . exact h1 a ha
          . simp at ha; subst ha; exact hz, List.pairwise_append.2 ⟨h2', by simp, fun a ha b hb => by simp at hb; subst hb; exact hd a ha⟩, by simp; omega⟩
      right
      by_cases hx1 : ∀ l ∈ L, ¬ Agr nx ou (Zk n W (i + 1)) l x
      . exact add x hx hx1
      by_cases hy1 : ∀ l ∈ L, ¬ Agr nx ou (Zk n W (i + 1)) l y
      . exact add y hy hy1
      exfalso
      have ex : ∃ l, l ∈ L /\ Agr nx ou (Zk n W (i + 1)) l x := Classical.byContradiction fun hno => hx1 fun l hl h' => hno ⟨l, hl, h'⟩
      have ey : ∃ l, l ∈ L /\ Agr nx ou (Zk n W (i + 1)) l y := Classical.byContradiction fun hno => hy1 fun l hl h' => hno ⟨l, hl, h'⟩
      obtain ⟨l, hl, e1⟩ := ex
      obtain ⟨l', hl', e2⟩ := ey
      obtain ⟨a, ha, rfl⟩ := List.getElem_of_mem hl
      obtain ⟨b, hb, rfl⟩ := List.getElem_of_mem hl'
      have hab : Agr nx ou (Zk n W i) L[a] L[b] := ((e1.mono (by omega)).trans hxy).trans (e2.mono (by omega)).symm
      rcases Nat.lt_trichotomy a b with h | h | h
      . exact List.pairwise_iff_getElem.1 h2 a b ha hb h hab
      . subst h
        exact hn (e1.symm.trans e2)
      . exact List.pairwise_iff_getElem.1 h2 b a hb ha h hab.symm
theorem nodup_le_int {S : Nat} {L : List Int} (h1 : ∀ x ∈ L, 0 <= x /\ x < (S : Int)) (h2 : L.Nodup) (h3 : S <= L.length) {x : Int} (hx : 0 <= x /\ x < (S : Int)) : x ∈ L := by
  have h4 : (L.map Int.toNat).Nodup := by
    refine List.nodup_iff_pairwise_ne.2 (List.pairwise_map.2 ((List.nodup_iff_pairwise_ne.1 h2).imp_of_mem ?_))
    intro a b ha hb hab e
    have := h1 a ha
    have := h1 b hb
    exact hab (by omega)
  have := nodup_all h4 (N := S) (fun q hq => by
    obtain ⟨a, ha, rfl⟩ := List.mem_map.1 hq
    have := h1 a ha
    omega) (by simpa using h3) (q := x.toNat) (by omega)
  obtain ⟨a, ha, e⟩ := List.mem_map.1 this
  have := h1 a ha
  have : a = x := by omega
  rw [<- this]; exact ha
theorem w_method {s s' : Int} {nx ou nx' ou' : List (List Int)} (hs : 1 <= s) (hs' : 1 <= s') (hcl : ∀ l x, 0 <= l -> l < (nx.length : Int) -> 0 <= x -> x < s -> 0 <= at2 nx l x /\ at2 nx l x < s)
    (hcl' : ∀ l x, 0 <= l -> l < (nx.length : Int) -> 0 <= x -> x < s' -> 0 <= at2 nx' l x /\ at2 nx' l x < s') {W : List (List Int)} (hW0 : W ≠ [])
    (hW : ∀ p q : Nat, (p : Int) < s -> (q : Int) < s -> p ≠ q -> ∃ w ∈ W, runO nx ou p w ≠ runO nx ou q w) {V : Nat -> List Int} (hV : ∀ q : Nat, (q : Int) < s -> runS nx 0 (V q) = q /\ LtW nx.length (V q)) (hV0 : V 0 = []) {k : Nat} (hk : s' <= s + k)
    (hT : ∀ q : Nat, (q : Int) < s -> ∀ x, x = [] \/ (∃ l, (0 <= l /\ l < (nx.length : Int)) /\ x = [l]) -> ∀ u, u.length <= k -> LtW nx.length u -> ∀ w ∈ W, runO nx ou 0 (V q ++ x ++ u ++ w) = runO nx' ou' 0 (V q ++ x ++ u ++ w)) :
    ∀ w, LtW nx.length w -> runO nx ou 0 w = runO nx' ou' 0 w := by
  have rng' : ∀ (w : List Int) (x : Int), (0 <= x /\ x < s') -> LtW nx.length w -> 0 <= runS nx' x w /\ runS nx' x w < s' := by
    intro w
    induction w with
    | nil => exact fun x hx _ => hx
    | cons l w ih =>
      intro x hx hw
      have hl := hw l (List.mem_cons_self ..)
      exact ih (at2 nx' l x) (hcl' l x hl.1 hl.2 hx.1 hx.2) fun a ha => hw a (List.mem_cons_of_mem _ ha)
  have rng : ∀ (w : List Int) (x : Int), (0 <= x /\ x < s) -> LtW nx.length w -> 0 <= runS nx x w /\ runS nx x w < s := by
    intro w
    induction w with
    | nil => exact fun x hx _ => hx
    | cons l w ih =>
      intro x hx hw
      have hl := hw l (List.mem_cons_self ..)
      exact ih (at2 nx l x) (hcl l x hl.1 hl.2 hx.1 hx.2) fun a ha => hw a (List.mem_cons_of_mem _ ha)
  let T : Nat -> Int := fun q => runS nx' 0 (V q)
  have hTr : ∀ q : Nat, (q : Int) < s -> 0 <= T q /\ T q < s' := fun q hq => rng' _ _ ⟨by omega, by omega⟩ (hV q hq).2
  have hZ : ∀ q : Nat, (q : Int) < s -> ∀ x, x = [] \/ (∃ l, (0 <= l /\ l < (nx.length : Int)) /\ x = [l]) -> ∀ z, Zk nx.length W k z -> runO nx ou (runS nx q x) z = runO nx' ou' (runS nx' (T q) x) z := by
    rintro q hq x hx z ⟨u, w, h1, h2, h3, rfl⟩
    have := hT q hq x hx u h1 h2 w h3
    rw [List.append_assoc _ u w] at this
    have := runO_behind this
    rw [runS_append, runS_append, (hV q hq).1] at this
    exact this
  have hZ0 : ∀ q : Nat, (q : Int) < s -> ∀ z, Zk nx.length W k z -> runO nx ou q z = runO nx' ou' (T q) z := fun q hq z hz => hZ q hq [] (.inl rfl) z hz
  have hagr : ∀ x y, (0 <= x /\ x < s') -> (0 <= y /\ y < s') -> Agr nx' ou' (Zk nx.length W k) x y -> Eqv nx' ou' nx.length x y := by
    have h0 : ∃ L : List Int, (∀ x ∈ L, 0 <= x /\ x < s') /\ L.Pairwise (fun x y => ¬ Agr nx' ou' (Zk nx.length W 0) x y) /\ s.toNat <= L.length := by
      refine ⟨(List.range s.toNat).map T, fun x hx => ?_, ?_, by simp⟩
      . obtain ⟨q, hq, rfl⟩ := List.mem_map.1 hx
        have := List.mem_range.1 hq
        exact hTr q (by omega)
      . refine List.pairwise_map.2 ((List.nodup_iff_pairwise_ne.1 List.nodup_range).imp_of_mem ?_)
        intro p q hp hq hpq hag
        have hp := List.mem_range.1 hp
        have hq := List.mem_range.1 hq
        obtain ⟨w, hw, hne⟩ := hW p q (by omega) (by omega) hpq
        have hz : Zk nx.length W 0 w := ⟨[], w, by simp, fun a ha => by simp at ha, hw, rfl⟩
        apply hne
        rw [hZ0 p (by omega) w (hz.mono (by omega)), hZ0 q (by omega) w (hz.mono (by omega))]
        exact hag w hz
    rcases agr_grow hcl' hW0 h0 k with h | ⟨L, h1, h2, h3⟩
    . exact h
    . intro x y hx hy hxy
      obtain ⟨S, rfl⟩ : ∃ S : Nat, s' = S := ⟨s'.toNat, by omega⟩
      have hnd : L.Nodup := List.nodup_iff_pairwise_ne.2 (h2.imp fun {a b} hab e => hab (by subst e; exact fun _ _ => rfl))
      have mx := nodup_le_int h1 hnd (by omega) hx
      have my := nodup_le_int h1 hnd (by omega) hy
      obtain ⟨a, ha, rfl⟩ := List.getElem_of_mem mx
      obtain ⟨b, hb, rfl⟩ := List.getElem_of_mem my
      rcases Nat.lt_trichotomy a b with h | h | h
      . exact absurd hxy (List.pairwise_iff_getElem.1 h2 a b ha hb h)
      . subst h; exact fun _ _ => rfl
      . exact absurd hxy.symm (List.pairwise_iff_getElem.1 h2 b a hb ha h)
  have key : ∀ (w : List Int) (q : Nat) (t : Int), (q : Int) < s -> (0 <= t /\ t < s') -> Eqv nx' ou' nx.length t (T q) -> LtW nx.length w -> runO nx ou q w = runO nx' ou' t w := by
    intro w
    induction w with
    | nil => intro q t _ _ _ _; rfl
    | cons l w ih =>
      intro q t hq ht he hw
      have hl := hw l (List.mem_cons_self ..)
      have hw' : LtW nx.length w := fun a ha => hw a (List.mem_cons_of_mem _ ha)
      obtain ⟨v0, W', rfl⟩ := List.exists_cons_of_ne_nil hW0
      have hout : at2 ou l q = at2 ou' l (T q) := by
        have h1 := hT q hq [l] (.inr ⟨l, hl, rfl⟩) [] (by simp) (fun a ha => by simp at ha) v0 (List.mem_cons_self ..)
        rw [List.append_nil] at h1
        have h2 := runO_ahead h1
        have h3 := runO_behind h2
        rw [(hV q hq).1] at h3
        exact (List.cons.inj h3).1
      have hout2 : at2 ou' l t = at2 ou' l (T q) := (List.cons.inj (he [l] fun a ha => by simp at ha; subst ha; exact hl)).1
      have hq' := hcl l q hl.1 hl.2 (by omega) hq
      have ht' := hcl' l t hl.1 hl.2 ht.1 ht.2
      obtain ⟨q', hqe⟩ : ∃ q' : Nat, at2 nx l q = q' := ⟨(at2 nx l q).toNat, by omega⟩
      have hTq' := hTr q' (by omega)
      have hTl := hcl' l (T q) hl.1 hl.2 (hTr q hq).1 (hTr q hq).2
      have e1 : Eqv nx' ou' nx.length (at2 nx' l t) (at2 nx' l (T q)) := fun z hz => (List.cons.inj (he (l :: z) fun a ha => by
        rcases List.mem_cons.1 ha with rfl | ha
        . exact hl
        . exact hz a ha)).2
      have e2 : Eqv nx' ou' nx.length (at2 nx' l (T q)) (T q') := hagr _ _ hTl hTq' fun z hz => by
        have a1 := hZ q hq [l] (.inr ⟨l, hl, rfl⟩) z hz
        have a2 := hZ0 q' (by omega) z hz
        show runO nx' ou' (runS nx' (T q) [l]) z = _
        rw [<- a1, <- a2, <- hqe]
        rfl
      show _ :: _ = _ :: _
      rw [hout, hout2, hqe]
      congr 1
      exact ih q' (at2 nx' l t) (by omega) ht' (fun z hz => (e1 z hz).trans (e2 z hz)) hw'
  intro w hw
  have h0 : T 0 = 0 := by show runS nx' 0 (V 0) = 0; rw [hV0]; rfl
  exact key w 0 0 (by omega) ⟨by omega, by omega⟩ (by rw [h0]; exact fun _ _ => rfl) hw
end Go.Proofs.YtfemhnmggobhjaaGreat
namespace Go.Proofs.YtfemhnmggobhjaaGreat
open Go
attribute [local irreducible] awp awpL awpQL awpQ awpM pWalk Qt AC thenQ blockQ loopQ OpTo
set_option linter.unusedVariables false
set_option linter.unusedSimpArgs false
set_option maxHeartbeats 2000000
attribute [local irreducible] HC HX
theorem max_cover {ws : List (List Int)} {B : Nat} (hB : ∀ w ∈ ws, w.length <= B) : ∀ (n : Nat) (w : List Int), w ∈ ws -> B - w.length <= n -> ∃ v ∈ maxW ws, w.length <= v.length /\ w = v.take w.length := by
  intro n
  induction n with
  | zero =>
    intro w hw hn
    refine ⟨w, uniqW_mem.2 (List.mem_filter.2 ⟨hw, ?_⟩), Nat.le_refl _, by rw [List.take_length]⟩
    cases h : (ws.any fun x => begB w x) with
    | false => rfl
    | true =>
      obtain ⟨x, hx, hx2⟩ := List.any_eq_true.1 h
      unfold begB at hx2
      rw [Bool.and_eq_true, decide_eq_true_eq] at hx2
      have := hB x hx
      omega
  | succ n ih =>
    intro w hw hn
    cases h : (ws.any fun x => begB w x) with
    | false => exact ⟨w, uniqW_mem.2 (List.mem_filter.2 ⟨hw, by rw [h]; rfl⟩), Nat.le_refl _, by rw [List.take_length]⟩
    | true =>
      obtain ⟨x, hx, hx2⟩ := List.any_eq_true.1 h
      unfold begB at hx2
      rw [Bool.and_eq_true, decide_eq_true_eq, decide_eq_true_eq] at hx2
      obtain ⟨v, hv, h1, h2⟩ := ih x hx (by omega)
      refine ⟨v, hv, by omega, ?_⟩
      rw [hx2.2, h2, List.take_take, List.length_take]
      congr 1
      omega
theorem max_all {ws : List (List Int)} {w : List Int} (hw : w ∈ ws) : ∃ v ∈ maxW ws, w.length <= v.length /\ w = v.take w.length := by
  have : ∃ B, ∀ w ∈ ws, w.length <= B := by
    clear hw
    induction ws with
    | nil => exact ⟨0, fun w h => by cases h⟩
    | cons x ws ih =>
      obtain ⟨B, hB⟩ := ih
      refine ⟨max B x.length, fun w h => ?_⟩
      rcases List.mem_cons.1 h with rfl | h
      . omega
      . have := hB w h; omega
  obtain ⟨B, hB⟩ := this
  exact max_cover hB B w hw (by omega)
theorem covL_run {s o : Int} {nx ou : List (List Int)} (m : MV s o nx ou) : ∀ i, ∀ p ∈ lstC nx i, runS nx 0 p.2 = ((p.1 : Nat) : Int) := by
  have step : ∀ (p : Nat × List Int) (L : PL), COk s nx.length L -> p ∈ L -> (∀ q ∈ L, runS nx 0 q.2 = ((q.1 : Nat) : Int)) -> ∀ k, k <= nx.length -> ∀ q ∈ letC nx p L k, runS nx 0 q.2 = ((q.1 : Nat) : Int) := by
    intro p L hok hp h k
    induction k with
    | zero => exact fun _ => h
    | succ k ih =>
      intro hk q hq
      have hq : q ∈ addP (letC nx p L k) (nxC nx p.1 k) (p.2 ++ [(k : Int)]) := hq
      unfold addP at hq
      split at hq
      . exact ih (by omega) q hq
      . rcases List.mem_append.1 hq with hq | hq
        . exact ih (by omega) q hq
        . simp only [List.mem_singleton] at hq
          subst hq
          obtain ⟨h1, -, -⟩ := nxC_ok m (c := p.1) (x := k) (by omega) (hok.lt p hp)
          show runS nx 0 (p.2 ++ [(k : Int)]) = _
          rw [runS_append, h p hp, h1]
          rfl
  intro i
  induction i with
  | zero =>
    intro p hp
    simp only [lstC, List.mem_singleton] at hp
    subst hp
    rfl
  | succ i ih =>
    unfold lstC
    split
    . rename_i p hp
      exact step p _ (lstC_ok m i) (List.mem_of_getElem? hp) ih nx.length (Nat.le_refl _)
    . exact ih
theorem lstC_pre (nx : List (List Int)) (i : Nat) : ∀ d, ∃ t, lstC nx (i + d) = lstC nx i ++ t
  | 0 => ⟨[], by simp⟩
  | d + 1 => by
    obtain ⟨t, ht⟩ := lstC_pre nx i d
    have h : lstC nx (i + (d + 1)) = match (lstC nx (i + d))[i + d]? with
      | some p => letC nx p (lstC nx (i + d)) nx.length
      | none => lstC nx (i + d) := rfl
    cases hp : (lstC nx (i + d))[i + d]? with
    | some p =>
      rw [hp] at h
      obtain ⟨u, hu⟩ := letC_pre nx p (lstC nx (i + d)) nx.length
      exact ⟨t ++ u, by rw [h, <- List.append_assoc, <- ht]; exact hu⟩
    | none =>
      rw [hp] at h
      exact ⟨t, by rw [h]; exact ht⟩
theorem cvW_zero (nx : List (List Int)) : cvW (covL nx) 0 = [] := by
  obtain ⟨t, ht⟩ := lstC_pre nx 0 10
  have : covL nx = [(0, [])] ++ t := ht
  rw [this]
  rfl
theorem cvW_facts {s o : Int} {nx ou : List (List Int)} (m : MV s o nx ou) (hc : ¬ ((covL nx).length : Int) < s) {q : Nat} (hq : (q : Int) < s) : runS nx 0 (cvW (covL nx) q) = q /\ LtW nx.length (cvW (covL nx) q) /\ cvW (covL nx) q ∈ cvR (covL nx) s.toNat := by
  have hok : COk s nx.length (covL nx) := lstC_ok m 10
  have hmem := nodup_all hok.nd (N := s.toNat) (fun x hx => by
    obtain ⟨p, hp, rfl⟩ := List.mem_map.1 hx
    have := hok.lt p hp
    omega) (by simp; omega) (q := q) (by omega)
  obtain ⟨p, hp, rfl⟩ := List.mem_map.1 hmem
  obtain ⟨j, hj, ej⟩ := List.getElem_of_mem hp
  have hLj : (covL nx)[j]? = some p := by rw [List.getElem?_eq_getElem hj, ej]
  refine ⟨?_, ?_, List.mem_map.2 ⟨p.1, List.mem_range.2 (by omega), rfl⟩⟩
  . rw [cvW_at hok.nd hLj]; exact covL_run m 10 p hp
  . rw [cvW_at hok.nd hLj]; exact hok.el p hp
theorem csU_all {n e : Nat} (hn : 1 <= n) {u : List Int} (hl : u.length <= e) (h : LtW n u) : u ∈ csU n e := by
  obtain ⟨j, hj⟩ := lenW_all hn (m := u.length) rfl h
  have hm := List.mem_of_getElem? hj
  unfold lenW at hm
  obtain ⟨i, hi, e1⟩ := List.mem_map.1 (List.mem_filter.1 hm).1
  have hlt := (wN_lt hn (e + 1) i).1 (by rw [e1]; omega)
  exact List.mem_map.2 ⟨i, List.mem_range.2 hlt, e1⟩
theorem tlW_tells {s o : Int} {nx ou : List (List Int)} (m : MV s o nx ou) (ht : (tsD s nx ou).2 = true) {p q : Nat} (hp : (p : Int) < s) (hq : (q : Int) < s) (hpq : p ≠ q) : ∃ w ∈ tlW s nx ou, runO nx ou p w ≠ runO nx ou q w := by
  have hs := m.s1
  have h0 : tlO nx ou s.toNat := by
    unfold tsD at ht
    split at ht
    . assumption
    . cases ht
  have hts : (tsD s nx ou).1 = tlA nx ou s.toNat s.toNat := by unfold tsD; rw [if_pos h0]
  have key := tlA_tells m s.toNat (by omega) fun a b h1 h2 h3 => h0 a b h2 (by omega)
  have : ∃ w ∈ (tsD s nx ou).1, runO nx ou p w ≠ runO nx ou q w := by
    rw [hts]
    rcases Nat.lt_or_ge p q with h | h
    . exact key p q (by omega) h hq
    . obtain ⟨w, hw, hne⟩ := key q p (by omega) (by omega) hp
      exact ⟨w, hw, hne.symm⟩
  obtain ⟨w, hw, hne⟩ := this
  refine ⟨w, ?_, hne⟩
  unfold tlW
  rw [if_neg fun e => by rw [e] at hw; cases hw]
  exact hw
theorem complete_iff {s o s' : Int} {nx ou N ON : List (List Int)} {k : Nat} (m : MV s o nx ou) (m' : MV s' o N ON) (he : N.length = nx.length) (hk : s' <= s + k) (hc : ¬ ((covL nx).length : Int) < s) (ht : (tsD s nx ou).2 = true) (hk2 : k <= 2) :
    decide ((failS nx ou N ON 0 (maxW (csP s nx ou k))).1 < 0) = !(apR nx ou N ON).2 := by
  have hn := m.n1
  have hs := m.s1
  have hPw := csP_ok m hk2
  cases hR : (apR nx ou N ON).2 with
  | false =>
    refine decide_eq_true ((failS_same _ _ _ _ _ _).2 (List.map_congr_left fun w hw => ?_))
    exact apR_same m m' he hR w (hPw w (List.mem_filter.1 (uniqW_mem.1 hw)).1).2
  | true =>
    refine decide_eq_false fun hpass => ?_
    have hall := (failS_same _ _ _ _ _ _).1 hpass
    have hag : ∀ v ∈ maxW (csP s nx ou k), runO nx ou 0 v = runO N ON 0 v := fun v hv => by
      obtain ⟨i, hi, rfl⟩ := List.getElem_of_mem hv
      have := congrArg (fun l => l[i]?) hall
      simpa [hi] using this
    have hagP : ∀ w ∈ csP s nx ou k, runO nx ou 0 w = runO N ON 0 w := fun w hw => by
      obtain ⟨v, hv, h1, h2⟩ := max_all hw
      rw [h2, <- runO_take, <- runO_take, hag v hv]
    obtain ⟨-, w2, w3⟩ := apR_word m m' he hR
    refine w3 (w_method (s := s) (s' := s') hs.1 m'.s1.1 (fun l x h1 h2 h3 h4 => tbl_at m.nx ⟨h1, h2⟩ ⟨h3, h4⟩) (fun l x h1 h2 h3 h4 => tbl_at m'.nx ⟨h1, by omega⟩ ⟨h3, h4⟩) (tlW_ok m).2.2 (fun p q h1 h2 h3 => tlW_tells m ht h1 h2 h3) (V := cvW (covL nx)) (fun q hq => ⟨(cvW_facts m hc hq).1, (cvW_facts m hc hq).2.1⟩) (cvW_zero nx) hk ?_ _ w2)
    intro q hq x hx u hu hul w hw
    apply hagP
    rw [List.append_assoc (cvW (covL nx) q ++ x) u w]
    refine crsW_mem.2 ⟨cvW (covL nx) q ++ x, uniqW_mem.2 (crsW_mem.2 ⟨_, (cvW_facts m hc hq).2.2, x, ?_, rfl⟩), u ++ w, crsW_mem.2 ⟨u, csU_all hn.1 hu hul, w, hw, rfl⟩, rfl⟩
    rw [trU_is]
    rcases hx with rfl | ⟨l, hl, rfl⟩
    . exact List.mem_cons_self ..
    . exact List.mem_cons_of_mem _ (List.mem_map.2 ⟨l.toNat, List.mem_range.2 (by omega), by rw [show ((l.toNat : Nat) : Int) = l by omega]⟩)
theorem csD_v {s o : Int} {nx ou : List (List Int)} (m : MV s o nx ou) {k : Nat} (hk : k <= 2) : (csD s o nx ou k = ([], 4) \/ csD s o nx ou k = ([], 3)) \/ (¬ ((covL nx).length : Int) < s /\ (tsD s nx ou).2 = true /\ csD s o nx ou k = (maxW (csP s nx ou k), 0) /\ SuOk nx.length (maxW (csP s nx ou k))) := by
  unfold csD
  rw [if_pos (machOk_mv m), if_pos (by simp [inB]; omega), Int.toNat_natCast]
  cases hb : (decide (((covL nx).length : Int) < s) || !(tsD s nx ou).2) with
  | true => rw [if_pos rfl]; exact .inl (.inl rfl)
  | false =>
    rw [if_neg (by simp)]
    rw [Bool.or_eq_false_iff] at hb
    by_cases hl : (uniqW (csP s nx ou k)).length <= 400
    . rw [if_pos hl]
      refine .inr ⟨of_decide_eq_false hb.1, by simpa using hb.2, rfl, ?_, fun w hw => ?_⟩
      . have hlen : (maxW (csP s nx ou k)).length <= (uniqW (csP s nx ou k)).length := by rw [<- maxW_uniq]; exact List.length_filter_le _ _
        omega
      . have := csP_ok m hk w (List.mem_filter.1 (uniqW_mem.1 hw)).1
        exact ⟨by omega, this.2⟩
    . rw [if_neg hl]; exact .inl (.inr rfl)
end Go.Proofs.YtfemhnmggobhjaaGreat
namespace Go.Proofs.YtfemhnmggobhjaaGreat
open Go
attribute [local irreducible] awp awpL awpQL awpQ awpM pWalk Qt AC thenQ blockQ loopQ OpTo
set_option linter.unusedVariables false
set_option linter.unusedSimpArgs false
set_option maxHeartbeats 2000000
attribute [local irreducible] HC HX
section
variable {s o : Int} {nx ou : List (List Int)}
theorem impl_CompleteSuiteV (m : MV s o nx ou) (k : Nat) : AC Tryz.prog 9 [mach s o nx ou, .int .i64 k] (.tup [rows (csD s o nx ou k).1, .int .i64 (csD s o nx ou k).2]) := by
  have := ac_of_hc (xs := [mach s o nx ou, .int .i64 k]) (d := .tup [.lst ((rws (csD s o nx ou k).1).map D.lst), .int .i64 (csD s o nx ou k).2]) (impl_CompleteSuite (e := (k : Int)) m.rnx m.rou) rfl
  rw [rws_dat] at this
  exact this
theorem kil_all (m : MV s o nx ou) {k : Nat} (hc : ¬ ((covL nx).length : Int) < s) (ht : (tsD s nx ou).2 = true) (hk : k <= 2) : ∀ (K : Nat), (K : Int) <= mutN s o nx.length -> (kilL s o nx ou (maxW (csP s nx ou k)) K).length + sameC s o nx ou K = K
  | 0, _ => rfl
  | K + 1, hK => by
    have ih := kil_all m hc ht hk K (by omega)
    obtain ⟨m', he⟩ := mv_mut m (k := (K : Int)) (by omega)
    have h := complete_iff m m' he (k := k) (by omega) hc ht hk
    unfold kilL sameC
    rw [List.length_append]
    have hb : kilB s o nx ou (maxW (csP s nx ou k)) (K : Int) = (apR nx ou (mutX s o nx ou K).1 (mutX s o nx ou K).2).2 := by
      unfold kilB
      have : ∀ (x : Int) (b : Bool), decide (x < 0) = !b -> decide (0 <= x) = b := fun x b e => by
        cases b with
        | true => exact decide_eq_true (by have := of_decide_eq_false e; omega)
        | false => exact decide_eq_false (by have := of_decide_eq_true e; omega)
      exact this _ _ h
    rw [hb]
    cases (apR nx ou (mutX s o nx ou K).1 (mutX s o nx ou K).2).2 <;> simp <;> omega
theorem fsD_none (m : MV s o nx ou) {k st : Nat} (hc : ¬ ((covL nx).length : Int) < s) (ht : (tsD s nx ou).2 = true) (hk : k <= 2) (su : SuOk nx.length (maxW (csP s nx ou k))) (hst : 1 <= st /\ (st : Int) <= s + k /\ st <= 10) (hcn : ¬ 50000 < cntM st o nx.length) :
    fsD s o nx ou (maxW (csP s nx ou k)) st = ((0, 0), ([], []), 6) := by
  have hn := m.n1
  unfold fsD
  rw [if_pos (machOk_mv m), if_pos (by rw [suiteOk_su su]; simp [inB]; omega), if_neg hcn]
  have hF := Classical.choose_spec (fst_ex o nx ou (maxW (csP s nx ou k)) (st : Int).toNat)
  cases hr : Classical.choose (fst_ex o nx ou (maxW (csP s nx ou k)) (st : Int).toNat) with
  | none => rfl
  | some p =>
    exfalso
    obtain ⟨n, j⟩ := p
    rw [hr] at hF
    obtain ⟨⟨a1, a2, a3, a4⟩, -⟩ := hF.yes n j rfl
    have mN : MV n o (numX n o nx.length j).1 (numX n o nx.length j).2 := mv_num (by omega) m.o1 hn (by omega)
    have hN : (numX n o nx.length j).1.length = nx.length := by simp [numX]
    have h := complete_iff m mN hN (k := k) (by omega) hc ht hk
    unfold hitB at a4
    rw [h] at a4
    cases hb : (apR nx ou (numX n o nx.length j).1 (numX n o nx.length j).2).2 <;> rw [hb] at a4 <;> cases a4
theorem cntM_one {o : Int} {L : Nat} (ho : 1 <= o /\ o <= 3) (hL : 1 <= L /\ L <= 3) : ¬ 50000 < cntM ((1 : Nat) : Int) o L := by
  obtain ⟨q, rfl⟩ : ∃ q : Nat, o = q := ⟨o.toNat, by omega⟩
  have key : ∀ q, q < 4 -> ∀ L, L < 4 -> ¬ 50000 < cntM ((1 : Nat) : Int) (q : Nat) L := by decide
  exact key q (by omega) L (by omega)
theorem cntM_two {o : Int} {L : Nat} (ho : 1 <= o /\ o < 3) (hL : 1 <= L /\ L < 3) : ¬ 50000 < cntM ((2 : Nat) : Int) o L := by
  obtain ⟨q, rfl⟩ : ∃ q : Nat, o = q := ⟨o.toNat, by omega⟩
  have key : ∀ q, q < 3 -> ∀ L, L < 3 -> ¬ 50000 < cntM ((2 : Nat) : Int) (q : Nat) L := by decide
  exact key q (by omega) L (by omega)
end
structure FcH (code more : List Int) (s o : Int) (nx ou : List (List Int)) (k : Nat) (s2 : Int) (N O ws : List (List Int)) (A S0 : Nat) (R1 : List Int) (R2 : Bool) : Prop where
  g1 : AC Tryz.prog 15 [u8s code] (.bool false)
  g2 : AC Tryz.prog 15 [u8s more] (.bool false)
  p1 : AC Tryz.prog 16 [u8s code, .int .i64 3] (mach s o nx ou)
  hn : 1 <= nx.length /\ nx.length <= 3
  hs : 1 <= s /\ s <= 10
  ho : 1 <= o /\ o <= 3
  hle : (List.map ints nx).length = nx.length
  hk : 0 <= (k : Int) /\ (k : Int) < 2
  p2 : AC Tryz.prog 31 [u8s more, .int .i64 2] (.int .i64 k)
  p5 : AC Tryz.prog 32 [u8s more, mach s o nx ou, .int .i64 (s + k)] (mach s2 o N O)
  p3 : AC Tryz.prog 9 [mach s o nx ou, .int .i64 k] (.tup [rows ws, .int .i64 0])
  p4 : AC Tryz.prog 7 [mach s o nx ou, .int .i64 k] (.tup [rows ws, .int .i64 0])
  z1 : AC Tryz.prog 21 [rows ws, rows ws] (.bool true)
  p9 : AC Tryz.prog 36 [mach s o nx ou] (.tup [.int .i64 ((A : Int) + S0), .int .i64 0])
  p8 : AC Tryz.prog 35 [mach s o nx ou, rows ws] (.tup [.int .i64 A, .int .i64 S0, .int .i64 0, .int .i64 0])
  hA1 : (A : Int) + S0 <= 1000000
  p6 : AC Tryz.prog 33 [mach s o nx ou, mach s2 o N O, rows ws] (.tup [.bool !R2, .int .i64 0])
  p7 : AC Tryz.prog 34 [mach s o nx ou, mach s2 o N O] (.tup [if R2 = true then ints R1 else .nils, .int .i64 (if R2 = true then 0 else 6)])
theorem fc_1 {code more : List Int} {s o : Int} {nx ou : List (List Int)} {k : Nat} {s2 : Int} {N O ws : List (List Int)} {A S0 : Nat} {R1 : List Int} {R2 : Bool} (h : FcH code more s o nx ou k s2 N O ws A S0 R1 R2) (pf : AC Tryz.prog 37 [mach s o nx ou, rows ws, .int .i64 2] (.tup [mach 0 0 [] [], .int .i64 6])) (a1 : 1 < s + (k : Int)) (a2 : nx.length < 3) (a3 : o < 3) : AC Tryz.prog 5 [u8s code, u8s more] (.bool true) := by
  obtain ⟨g1, g2, p1, hn, hs, ho, hle, hk, p2, p5, p3, p4, z1, p9, p8, hA1, p6, p7⟩ := h
  cases R2
  all_goals
    refine ac_intro tabIs _ Tryz.func5 rfl rfl Tryz.ntmps5 rfl rfl fun w0 ok0 he0 => ?_
    repeat (first | refine zc ?_ | refine zk (e := by exact g1) (n := ?_) | refine zk (e := by exact g2) (n := ?_) | refine zk (e := by exact p1) (n := ?_) | refine zk (e := by exact p2) (n := ?_) | refine zk (e := by exact p3) (n := ?_) | refine zk (e := by exact p4) (n := ?_) | refine zk (e := by exact z1) (n := ?_) | refine zk (e := by exact p5) (n := ?_) | refine zk (e := by exact p6) (n := ?_) | refine zk (e := by exact p7) (n := ?_) | refine zk (e := by exact p8) (n := ?_) | refine zk (e := by exact p9) (n := ?_) | refine zk (e := by exact pf) (n := ?_) | refine zv ?_ | refine zg ?_)
    refine zt ?_
    rfl
theorem fc_2 {code more : List Int} {s o : Int} {nx ou : List (List Int)} {k : Nat} {s2 : Int} {N O ws : List (List Int)} {A S0 : Nat} {R1 : List Int} {R2 : Bool} (h : FcH code more s o nx ou k s2 N O ws A S0 R1 R2) (pf : AC Tryz.prog 37 [mach s o nx ou, rows ws, .int .i64 1] (.tup [mach 0 0 [] [], .int .i64 6])) (a1 : 1 < s + (k : Int)) (a2 : nx.length < 3) (a3 : ¬ o < 3) : AC Tryz.prog 5 [u8s code, u8s more] (.bool true) := by
  obtain ⟨g1, g2, p1, hn, hs, ho, hle, hk, p2, p5, p3, p4, z1, p9, p8, hA1, p6, p7⟩ := h
  cases R2
  all_goals
    refine ac_intro tabIs _ Tryz.func5 rfl rfl Tryz.ntmps5 rfl rfl fun w0 ok0 he0 => ?_
    repeat (first | refine zc ?_ | refine zk (e := by exact g1) (n := ?_) | refine zk (e := by exact g2) (n := ?_) | refine zk (e := by exact p1) (n := ?_) | refine zk (e := by exact p2) (n := ?_) | refine zk (e := by exact p3) (n := ?_) | refine zk (e := by exact p4) (n := ?_) | refine zk (e := by exact z1) (n := ?_) | refine zk (e := by exact p5) (n := ?_) | refine zk (e := by exact p6) (n := ?_) | refine zk (e := by exact p7) (n := ?_) | refine zk (e := by exact p8) (n := ?_) | refine zk (e := by exact p9) (n := ?_) | refine zk (e := by exact pf) (n := ?_) | refine zv ?_ | refine zg ?_)
    refine zt ?_
    rfl
theorem fc_3 {code more : List Int} {s o : Int} {nx ou : List (List Int)} {k : Nat} {s2 : Int} {N O ws : List (List Int)} {A S0 : Nat} {R1 : List Int} {R2 : Bool} (h : FcH code more s o nx ou k s2 N O ws A S0 R1 R2) (pf : AC Tryz.prog 37 [mach s o nx ou, rows ws, .int .i64 1] (.tup [mach 0 0 [] [], .int .i64 6])) (a1 : 1 < s + (k : Int)) (a2 : ¬ nx.length < 3) : AC Tryz.prog 5 [u8s code, u8s more] (.bool true) := by
  obtain ⟨g1, g2, p1, hn, hs, ho, hle, hk, p2, p5, p3, p4, z1, p9, p8, hA1, p6, p7⟩ := h
  cases R2
  all_goals
    refine ac_intro tabIs _ Tryz.func5 rfl rfl Tryz.ntmps5 rfl rfl fun w0 ok0 he0 => ?_
    repeat (first | refine zc ?_ | refine zk (e := by exact g1) (n := ?_) | refine zk (e := by exact g2) (n := ?_) | refine zk (e := by exact p1) (n := ?_) | refine zk (e := by exact p2) (n := ?_) | refine zk (e := by exact p3) (n := ?_) | refine zk (e := by exact p4) (n := ?_) | refine zk (e := by exact z1) (n := ?_) | refine zk (e := by exact p5) (n := ?_) | refine zk (e := by exact p6) (n := ?_) | refine zk (e := by exact p7) (n := ?_) | refine zk (e := by exact p8) (n := ?_) | refine zk (e := by exact p9) (n := ?_) | refine zk (e := by exact pf) (n := ?_) | refine zv ?_ | refine zg ?_)
    refine zt ?_
    rfl
theorem fc_4 {code more : List Int} {s o : Int} {nx ou : List (List Int)} {k : Nat} {s2 : Int} {N O ws : List (List Int)} {A S0 : Nat} {R1 : List Int} {R2 : Bool} (h : FcH code more s o nx ou k s2 N O ws A S0 R1 R2) (pf : AC Tryz.prog 37 [mach s o nx ou, rows ws, .int .i64 1] (.tup [mach 0 0 [] [], .int .i64 6])) (a1 : ¬ 1 < s + (k : Int)) : AC Tryz.prog 5 [u8s code, u8s more] (.bool true) := by
  obtain ⟨g1, g2, p1, hn, hs, ho, hle, hk, p2, p5, p3, p4, z1, p9, p8, hA1, p6, p7⟩ := h
  cases R2
  all_goals
    refine ac_intro tabIs _ Tryz.func5 rfl rfl Tryz.ntmps5 rfl rfl fun w0 ok0 he0 => ?_
    repeat (first | refine zc ?_ | refine zk (e := by exact g1) (n := ?_) | refine zk (e := by exact g2) (n := ?_) | refine zk (e := by exact p1) (n := ?_) | refine zk (e := by exact p2) (n := ?_) | refine zk (e := by exact p3) (n := ?_) | refine zk (e := by exact p4) (n := ?_) | refine zk (e := by exact z1) (n := ?_) | refine zk (e := by exact p5) (n := ?_) | refine zk (e := by exact p6) (n := ?_) | refine zk (e := by exact p7) (n := ?_) | refine zk (e := by exact p8) (n := ?_) | refine zk (e := by exact p9) (n := ?_) | refine zk (e := by exact pf) (n := ?_) | refine zv ?_ | refine zg ?_)
    refine zt ?_
    rfl
theorem law_FnComplete {code more : List Int} (hb : BytesOk code) (hb2 : BytesOk more) : AC Tryz.prog 5 [u8s code, u8s more] (.bool true) := by
  have g1 := laws_f6big (code := code)
  have g2 := laws_f6big (code := more)
  by_cases c1 : (4096 : Int) < code.length
  . rw [decide_eq_true c1] at g1
    refine ac_intro tabIs _ Tryz.func5 rfl rfl Tryz.ntmps5 rfl rfl fun w0 ok0 he0 => ?_
    repeat (first | refine zc ?_ | refine zk (e := by exact g1) (n := ?_) | refine zv ?_)
    refine zt ?_
    rfl
  rw [decide_eq_false c1] at g1
  by_cases c2 : (4096 : Int) < more.length
  . rw [decide_eq_true c2] at g2
    refine ac_intro tabIs _ Tryz.func5 rfl rfl Tryz.ntmps5 rfl rfl fun w0 ok0 he0 => ?_
    repeat (first | refine zc ?_ | refine zk (e := by exact g1) (n := ?_) | refine zk (e := by exact g2) (n := ?_) | refine zv ?_)
    refine zt ?_
    rfl
  rw [decide_eq_false c2] at g2
  obtain ⟨s, o, nx, ou, m, hs3, p1⟩ := spec_P6Good (most := 3) hb (by omega)
  have hn := m.n1
  have hs := m.s1
  have ho := m.o1
  have hle : (List.map ints nx).length = nx.length := by simp
  have p2 := spec_P6Pick (n := 2) hb2 (by omega)
  have hk := pick_range (s := ⟨0, 0⟩) (n := 2) hb2 (by omega)
  obtain ⟨k, hk'⟩ : ∃ k : Nat, pickV more 2 ⟨0, 0⟩ = k := ⟨(pickV more 2 ⟨0, 0⟩).toNat, by omega⟩
  rw [hk'] at p2 hk
  have p3 := impl_CompleteSuiteV m k
  have p4 := spec_CompleteSuite (s := s) (o := o) (e := (k : Int)) m.rnx m.rou
  have z0 := laws_f6rows (a := []) (b := []) rowsOk_nil rowsOk_nil
  rw [decide_eq_true rfl] at z0
  rcases csD_v m (k := k) (by omega) with (h | h) | ⟨hc, ht, h, su⟩
  . rw [h] at p3 p4
    refine ac_intro tabIs _ Tryz.func5 rfl rfl Tryz.ntmps5 rfl rfl fun w0 ok0 he0 => ?_
    repeat (first | refine zc ?_ | refine zk (e := by exact g1) (n := ?_) | refine zk (e := by exact g2) (n := ?_) | refine zk (e := by exact p1) (n := ?_) | refine zk (e := by exact p2) (n := ?_) | refine zk (e := by exact p3) (n := ?_) | refine zk (e := by exact p4) (n := ?_) | refine zk (e := by exact z0) (n := ?_) | refine zv ?_)
    refine zt ?_
    rfl
  . rw [h] at p3 p4
    refine ac_intro tabIs _ Tryz.func5 rfl rfl Tryz.ntmps5 rfl rfl fun w0 ok0 he0 => ?_
    repeat (first | refine zc ?_ | refine zk (e := by exact g1) (n := ?_) | refine zk (e := by exact g2) (n := ?_) | refine zk (e := by exact p1) (n := ?_) | refine zk (e := by exact p2) (n := ?_) | refine zk (e := by exact p3) (n := ?_) | refine zk (e := by exact p4) (n := ?_) | refine zk (e := by exact z0) (n := ?_) | refine zv ?_)
    refine zt ?_
    rfl
  rw [h] at p3 p4
  dsimp only at p3 p4
  have p5 := spec_P6Like (code := more) (most := s + (k : Int)) hb2 m (by omega)
  obtain ⟨m', he⟩ := mv_lk (code := more) (most := s + (k : Int)) m hb2 (by omega)
  have hlk : lkS more (s + (k : Int)) <= s + k := by
    have := pick_range (s := ⟨0, 0⟩) (n := s + (k : Int)) hb2 (by omega)
    unfold lkS
    omega
  have hci := complete_iff m m' he (k := k) (by omega) hc ht (by omega)
  have hkil := kil_all m hc ht (k := k) (by omega) (mutN s o nx.length).toNat (by have := mutN_bounds m.s1 m.o1 m.n1.2; omega)
  have hfs := fun st h1 h2 => fsD_none m (k := k) (st := st) hc ht (by omega) su h1 h2
  generalize lkS more (s + (k : Int)) = s2 at *
  generalize (lkM more (s + (k : Int)) s o nx ou).1 = N at *
  generalize (lkM more (s + (k : Int)) s o nx ou).2.1 = O at *
  have z1 := laws_f6rows (a := maxW (csP s nx ou k)) (b := maxW (csP s nx ou k)) (su.rows (by omega)) (su.rows (by omega))
  rw [decide_eq_true rfl] at z1
  generalize maxW (csP s nx ou k) = ws at *
  have p6 := impl_PassesV m m' he su
  rw [hci] at p6
  have p7 := impl_MachineDifferenceV m m' he
  have p8 := impl_CoverageOfV m su
  have p9 := impl_MutantCountV m
  have hN := mutN_bounds m.s1 m.o1 m.n1.2
  have pf := fun st => impl_FirstSurvivorA (s := s) (o := o) (st := st) m.rnx m.rou (su.rows (by omega))
  generalize (kilL s o nx ou ws (mutN s o nx.length).toNat).length = A at *
  generalize sameC s o nx ou (mutN s o nx.length).toNat = S0 at *
  have hA : mutN s o nx.length = (A : Int) + S0 := by omega
  rw [hA, show ((A : Int) + S0 - A - S0) = 0 by omega] at p8
  rw [hA] at p9
  have hA1 : (A : Int) + S0 <= 1000000 := by omega
  have pf1 := pf 1
  have hf1 := hfs 1 (by omega) (cntM_one m.o1 hn)
  rw [show ((1 : Nat) : Int) = 1 from rfl] at hf1
  rw [hf1] at pf1
  have pf2 : 1 < s + (k : Int) -> nx.length < 3 -> o < 3 -> AC Tryz.prog 37 [mach s o nx ou, rows ws, .int .i64 2] (.tup [mach 0 0 [] [], .int .i64 6]) := fun a b c => by
    have h1 := pf 2
    have hf2 := hfs 2 (by omega) (cntM_two ⟨ho.1, c⟩ ⟨hn.1, b⟩)
    rw [show ((2 : Nat) : Int) = 2 from rfl] at hf2
    rw [hf2] at h1
    exact h1
  clear hfs pf hkil hci h
  generalize apR nx ou N O = R at *
  obtain ⟨R1, R2⟩ := R
  dsimp only at p6 p7
  have h : FcH code more s o nx ou k s2 N O ws A S0 R1 R2 := ⟨g1, g2, p1, hn, hs, ho, hle, hk, p2, p5, p3, p4, z1, p9, p8, hA1, p6, p7⟩
  by_cases a1 : 1 < s + (k : Int)
  . by_cases a2 : nx.length < 3
    . by_cases a3 : o < 3
      . exact fc_1 h (pf2 a1 a2 a3) a1 a2 a3
      . exact fc_2 h pf1 a1 a2 a3
    . exact fc_3 h pf1 a1 a2
  . exact fc_4 h pf1 a1
end Go.Proofs.YtfemhnmggobhjaaGreat
