/- Plain: determinants (columns, Chio, Bareiss), Laplacians of connected automata, weights, Friedman. -/
import Derived.Test.YtckpadnjldebaaaGreatFwA
import Derived.Test.YtckpadnjldebaaaGreatMa
import Derived.Test.YtckpadnjldebaaaGreatSb
namespace Go.Proofs.YtckpadnjldebaaaGreat.Gw
set_option linter.unusedVariables false
abbrev Mx := Nat -> Nat -> Int
def sk (j c : Nat) : Nat := if c < j then c else c + 1
def sgn : Nat -> Int
  | 0 => 1
  | j + 1 => - sgn j
def sm : Nat -> (Nat -> Int) -> Int
  | 0, _ => 0
  | n + 1, f => sm n f + f n
def det : Nat -> Mx -> Int
  | 0, _ => 1
  | n + 1, m => sm (n + 1) fun j => sgn j * m 0 j * det n fun i c => m (i + 1) (sk j c)
theorem sm_congr {f g : Nat -> Int} : ∀ {n : Nat}, (∀ i, i < n -> f i = g i) -> sm n f = sm n g
  | 0, _ => rfl
  | n + 1, h => by
    show sm n f + f n = sm n g + g n
    rw [sm_congr (n := n) fun i hi => h i (by omega), h n (by omega)]
theorem sm_zero {f : Nat -> Int} : ∀ {n : Nat}, (∀ i, i < n -> f i = 0) -> sm n f = 0
  | 0, _ => rfl
  | n + 1, h => by
    show sm n f + f n = 0
    rw [sm_zero (n := n) fun i hi => h i (by omega), h n (by omega)]; rfl
theorem sm_add (f g : Nat -> Int) : ∀ n : Nat, sm n (fun i => f i + g i) = sm n f + sm n g
  | 0 => rfl
  | n + 1 => by
    show sm n _ + (f n + g n) = (sm n f + f n) + (sm n g + g n)
    rw [sm_add f g n]; omega
theorem sm_mul (a : Int) (f : Nat -> Int) : ∀ n : Nat, sm n (fun i => a * f i) = a * sm n f
  | 0 => by simp [sm]
  | n + 1 => by
    show sm n _ + _ = a * (sm n f + f n)
    rw [sm_mul a f n, Int.mul_add]
theorem sm_head (f : Nat -> Int) : ∀ n : Nat, sm (n + 1) f = f 0 + sm n fun i => f (i + 1)
  | 0 => by simp [sm]
  | n + 1 => by
    show sm (n + 1) f + f (n + 1) = f 0 + (sm n (fun i => f (i + 1)) + f (n + 1))
    rw [sm_head f n]; omega
theorem sm_swap (f : Nat -> Nat -> Int) (m : Nat) : ∀ n : Nat, sm n (fun i => sm m fun j => f i j) = sm m fun j => sm n fun i => f i j
  | 0 => (sm_zero fun _ _ => rfl).symm
  | n + 1 => by
    show sm n _ + _ = _
    rw [sm_swap f m n, <- sm_add]; rfl
theorem sm_skip (f : Nat -> Int) : ∀ {n t : Nat}, t <= n -> sm (n + 1) f = f t + sm n fun c => f (sk t c)
  | 0, t, h => by
    have : t = 0 := by omega
    subst this
    simp [sm]
  | n + 1, t, h => by
    by_cases ht : t = n + 1
    . subst ht
      show sm (n + 1) f + f (n + 1) = _
      rw [sm_congr (f := f) (g := fun c => f (sk (n + 1) c)) fun i hi => by simp [sk, hi]]
      omega
    . show sm (n + 1) f + f (n + 1) = f t + (sm n (fun c => f (sk t c)) + f (sk t n))
      rw [sm_skip f (n := n) (t := t) (by omega), show sk t n = n + 1 by simp [sk]; omega]
      omega
theorem sm_one {f : Nat -> Int} {n t : Nat} (ht : t < n) (h : ∀ i, i < n -> i ≠ t -> f i = 0) : sm n f = f t := by
  obtain ⟨n, rfl⟩ : ∃ k, n = k + 1 := ⟨n - 1, by omega⟩
  rw [sm_skip f (t := t) (by omega), sm_zero fun i hi => h _ (by unfold sk; (repeat' split) <;> omega) (by unfold sk; (repeat' split) <;> omega)]
  omega
theorem sm_two {f : Nat -> Int} {n t : Nat} (ht : t + 1 < n) (h : ∀ i, i < n -> i ≠ t -> i ≠ t + 1 -> f i = 0) (h2 : f t + f (t + 1) = 0) : sm n f = 0 := by
  obtain ⟨n, rfl⟩ : ∃ k, n = k + 1 := ⟨n - 1, by omega⟩
  rw [sm_skip f (t := t) (by omega), sm_one (t := t) (by omega) fun i hi hne => h _ (by unfold sk; (repeat' split) <;> omega) (by unfold sk; (repeat' split) <;> omega) (by unfold sk; (repeat' split) <;> omega)]
  rw [show sk t t = t + 1 by simp [sk]]
  exact h2
theorem det_congr : ∀ {n : Nat} {a b : Mx}, (∀ i j, i < n -> j < n -> a i j = b i j) -> det n a = det n b
  | 0, _, _, _ => rfl
  | n + 1, a, b, h => by
    refine sm_congr fun j hj => ?_
    rw [h 0 j (by omega) hj, det_congr (n := n) fun i c hi hc => h (i + 1) (sk j c) (by omega) (by unfold sk; (repeat' split) <;> omega)]
theorem det_lin (x y : Int) : ∀ {n c : Nat} {m u v : Mx}, c < n -> (∀ i, i < n -> m i c = x * u i c + y * v i c) -> (∀ i j, i < n -> j < n -> j ≠ c -> m i j = u i j) -> (∀ i j, i < n -> j < n -> j ≠ c -> m i j = v i j) -> det n m = x * det n u + y * det n v
  | 0, _, _, _, _, h, _, _, _ => by omega
  | n + 1, c, m, u, v, hc, h1, h2, h3 => by
    show sm (n + 1) _ = x * sm (n + 1) _ + y * sm (n + 1) _
    rw [<- sm_mul, <- sm_mul, <- sm_add]
    refine sm_congr fun j hj => ?_
    by_cases hjc : j = c
    . subst hjc
      have e1 : det n (fun i d => m (i + 1) (sk j d)) = det n (fun i d => u (i + 1) (sk j d)) := det_congr fun i d hi hd => h2 _ _ (by omega) (by unfold sk; (repeat' split) <;> omega) (by unfold sk; (repeat' split) <;> omega)
      have e2 : det n (fun i d => m (i + 1) (sk j d)) = det n (fun i d => v (i + 1) (sk j d)) := det_congr fun i d hi hd => h3 _ _ (by omega) (by unfold sk; (repeat' split) <;> omega) (by unfold sk; (repeat' split) <;> omega)
      rw [h1 0 (by omega), <- e1, <- e2]
      grind
    . have e := det_lin x y (n := n) (c := if c < j then c else c - 1) (m := fun i d => m (i + 1) (sk j d)) (u := fun i d => u (i + 1) (sk j d)) (v := fun i d => v (i + 1) (sk j d)) (by split <;> omega)
        (fun i hi => by
          have : sk j (if c < j then c else c - 1) = c := by unfold sk; (repeat' split) <;> omega
          simp only [this]
          exact h1 _ (by omega))
        (fun i d hi hd hne => h2 _ _ (by omega) (by unfold sk; (repeat' split) <;> omega) (by unfold sk; split at hne <;> (repeat' split) <;> omega))
        (fun i d hi hd hne => h3 _ _ (by omega) (by unfold sk; (repeat' split) <;> omega) (by unfold sk; split at hne <;> (repeat' split) <;> omega))
      rw [e, <- h2 0 j (by omega) hj hjc, <- h3 0 j (by omega) hj hjc]
      grind
theorem det_alt : ∀ {n c : Nat} {m : Mx}, c + 1 < n -> (∀ i, i < n -> m i c = m i (c + 1)) -> det n m = 0
  | 0, _, _, h, _ => by omega
  | n + 1, c, m, hc, h => by
    refine sm_two (t := c) hc (fun j hj h1 h2 => ?_) ?_
    . have : det n (fun i d => m (i + 1) (sk j d)) = 0 := det_alt (c := if j < c then c - 1 else c) (by split <;> omega) fun i hi => by
        have e1 : sk j (if j < c then c - 1 else c) = c := by unfold sk; (repeat' split) <;> omega
        have e2 : sk j ((if j < c then c - 1 else c) + 1) = c + 1 := by unfold sk; (repeat' split) <;> omega
        simp only [e1, e2]
        exact h _ (by omega)
      rw [this, Int.mul_zero]
    . have : det n (fun i d => m (i + 1) (sk c d)) = det n (fun i d => m (i + 1) (sk (c + 1) d)) := det_congr fun i d hi hd => by
        by_cases hdc : d = c
        . subst hdc
          simp only [sk, Nat.lt_irrefl, if_false, show d < d + 1 by omega, if_true]
          exact (h _ (by omega)).symm
        . have : sk c d = sk (c + 1) d := by unfold sk; (repeat' split) <;> omega
          rw [this]
      show sgn c * m 0 c * det n (fun i d => m (i + 1) (sk c d)) + - sgn c * m 0 (c + 1) * det n (fun i d => m (i + 1) (sk (c + 1) d)) = 0
      rw [this, h 0 (by omega)]
      grind
theorem det_swap {n c : Nat} {m k : Mx} (hc : c + 1 < n) (h1 : ∀ i, i < n -> k i c = m i (c + 1)) (h2 : ∀ i, i < n -> k i (c + 1) = m i c) (h3 : ∀ i j, i < n -> j < n -> j ≠ c -> j ≠ c + 1 -> k i j = m i j) : det n k = - det n m := by
  let b (p q : Nat -> Int) : Mx := fun i j => if j = c then p i else if j = c + 1 then q i else m i j
  let u : Nat -> Int := fun i => m i c
  let v : Nat -> Int := fun i => m i (c + 1)
  let w : Nat -> Int := fun i => m i c + m i (c + 1)
  have hw : det n (b w w) = 0 := det_alt hc fun i _ => by simp [b, w]
  have hu : det n (b u u) = 0 := det_alt hc fun i _ => by simp [b]
  have hv : det n (b v v) = 0 := det_alt hc fun i _ => by simp [b]
  have l1 : det n (b w w) = 1 * det n (b u w) + 1 * det n (b v w) := det_lin 1 1 (c := c) (by omega) (fun i _ => by simp [b, w, u, v]) (fun i j _ _ hj => by simp [b, hj]) (fun i j _ _ hj => by simp [b, hj])
  have l2 : det n (b u w) = 1 * det n (b u u) + 1 * det n (b u v) := det_lin 1 1 (c := c + 1) (by omega) (fun i _ => by simp [b, w, u, v]) (fun i j _ _ hj => by simp [b, hj]) (fun i j _ _ hj => by simp [b, hj])
  have l3 : det n (b v w) = 1 * det n (b v u) + 1 * det n (b v v) := det_lin 1 1 (c := c + 1) (by omega) (fun i _ => by simp [b, w, u, v]) (fun i j _ _ hj => by simp [b, hj]) (fun i j _ _ hj => by simp [b, hj])
  have e1 : det n (b u v) = det n m := det_congr fun i j _ _ => by
    by_cases hj : j = c
    . subst hj; simp [b, u]
    by_cases hj2 : j = c + 1
    . subst hj2; simp [b, v]
    simp [b, hj, hj2]
  have e2 : det n (b v u) = det n k := det_congr fun i j hi hj' => by
    by_cases hj : j = c
    . subst hj; simp [b, v, h1 i hi]
    by_cases hj2 : j = c + 1
    . subst hj2; simp [b, u, h2 i hi]
    simp [b, hj, hj2, h3 i j hi hj' hj hj2]
  omega
theorem det_eq : ∀ {d : Nat} {n a : Nat} {m : Mx}, a + d + 1 < n -> (∀ i, i < n -> m i a = m i (a + d + 1)) -> det n m = 0
  | 0, _, _, _, h, e => det_alt h e
  | d + 1, n, a, m, h, e => by
    let k : Mx := fun i j => if j = a + d + 1 then m i (a + d + 2) else if j = a + d + 2 then m i (a + d + 1) else m i j
    have h1 : det n k = - det n m := det_swap (c := a + d + 1) h (fun i _ => by simp [k]) (fun i _ => by simp [k]) (fun i j _ _ x y => by simp [k, x, y])
    have h2 : det n k = 0 := det_eq (d := d) (a := a) (by omega) fun i hi => by
      have := e i hi
      simp [k, show a ≠ a + d + 1 by omega, show a ≠ a + d + 2 by omega]
      exact this
    omega
theorem det_eq2 {n a b : Nat} {m : Mx} (ha : a < n) (hb : b < n) (h : a ≠ b) (e : ∀ i, i < n -> m i a = m i b) : det n m = 0 := by
  rcases Nat.lt_or_gt_of_ne h with h | h
  . exact det_eq (d := b - a - 1) (a := a) (by omega) fun i hi => by rw [show a + (b - a - 1) + 1 = b by omega]; exact e i hi
  . exact det_eq (d := a - b - 1) (a := b) (by omega) fun i hi => by rw [show b + (a - b - 1) + 1 = a by omega]; exact (e i hi).symm
theorem det_op (x y : Int) {n a b : Nat} {m k : Mx} (ha : a < n) (hb : b < n) (h : a ≠ b) (e1 : ∀ i, i < n -> k i b = x * m i b + y * m i a) (e2 : ∀ i j, i < n -> j < n -> j ≠ b -> k i j = m i j) : det n k = x * det n m := by
  have l := det_lin x y (c := b) (m := k) (u := m) (v := fun i j => if j = b then m i a else m i j) hb (fun i hi => by simp [e1 i hi]) e2 (fun i j hi hj hne => by simp [hne, e2 i j hi hj hne])
  rw [l, det_eq2 (a := a) (b := b) (m := fun i j => if j = b then m i a else m i j) ha hb h fun i _ => by simp [h]]
  omega
theorem det_row0 {n : Nat} {m : Mx} (h : ∀ j, 0 < j -> j < n + 1 -> m 0 j = 0) : det (n + 1) m = m 0 0 * det n fun i c => m (i + 1) (c + 1) := by
  show sm (n + 1) _ = _
  rw [sm_one (t := 0) (by omega) fun i hi hne => by rw [h i (by omega) hi]; simp]
  simp [sgn, sk]
def chio (m : Mx) : Mx := fun i j => m 0 0 * m (i + 1) (j + 1) - m (i + 1) 0 * m 0 (j + 1)
theorem det_chioAux (n : Nat) (m : Mx) : ∀ t : Nat, t <= n -> det (n + 1) (fun i j => if 0 < j /\ j <= t then m 0 0 * m i j - m i 0 * m 0 j else m i j) = m 0 0 ^ t * det (n + 1) m
  | 0, _ => by
    rw [Int.pow_zero, Int.one_mul]
    exact det_congr fun i j _ _ => by rw [if_neg (by omega)]
  | t + 1, h => by
    rw [det_op (m 0 0) (- m 0 (t + 1)) (a := 0) (b := t + 1) (m := fun i j => if 0 < j /\ j <= t then m 0 0 * m i j - m i 0 * m 0 j else m i j) (by omega) (by omega) (by omega)
      (fun i _ => by simp; grind)
      (fun i j _ _ hne => by
        by_cases hj : 0 < j /\ j <= t
        . rw [if_pos hj, if_pos (by omega)]
        . rw [if_neg hj, if_neg (by omega)]), det_chioAux n m t (by omega)]
    rw [Int.pow_succ]
    grind
theorem det_chio (n : Nat) (m : Mx) : m 0 0 * det n (chio m) = m 0 0 ^ n * det (n + 1) m := by
  rw [<- det_chioAux n m n (Nat.le_refl n), det_row0 fun j h1 h2 => by rw [if_pos (by omega)]; grind]
  rw [if_neg (by omega)]
  congr 1
  exact det_congr fun i j _ hj => by
    show _ = ite _ _ _
    rw [if_pos (by omega)]; rfl
theorem det_col : ∀ (n : Nat) (m : Mx), det (n + 1) m = sm (n + 1) fun i => sgn i * m i 0 * det n fun r c => m (sk i r) (c + 1)
  | 0, m => rfl
  | n + 1, m => by
    rw [show det (n + 2) m = sm (n + 2) fun j => sgn j * m 0 j * det (n + 1) fun i c => m (i + 1) (sk j c) from rfl]
    rw [sm_head, sm_head (fun i => sgn i * m i 0 * det (n + 1) fun r c => m (sk i r) (c + 1))]
    congr 1
    have e1 : ∀ j, j < n + 1 -> sgn (j + 1) * m 0 (j + 1) * det (n + 1) (fun i c => m (i + 1) (sk (j + 1) c)) = sm (n + 1) fun i => (- (sgn i * sgn j) * m 0 (j + 1) * m (i + 1) 0) * det n fun r c => m (sk i r + 1) (sk j c + 1) := fun j hj => by
      rw [det_col n, <- sm_mul]
      refine sm_congr fun i hi => ?_
      have : (fun r c => m (sk i r + 1) (sk (j + 1) (c + 1))) = fun r c => m (sk i r + 1) (sk j c + 1) := by
        funext r c
        rw [show sk (j + 1) (c + 1) = sk j c + 1 by unfold sk; (repeat' split) <;> omega]
      rw [this]
      simp only [sgn, show sk (j + 1) 0 = 0 by simp [sk]]
      grind
    have e2 : ∀ i, i < n + 1 -> sgn (i + 1) * m (i + 1) 0 * det (n + 1) (fun r c => m (sk (i + 1) r) (c + 1)) = sm (n + 1) fun j => (- (sgn i * sgn j) * m 0 (j + 1) * m (i + 1) 0) * det n fun r c => m (sk i r + 1) (sk j c + 1) := fun i hi => by
      rw [show det (n + 1) (fun r c => m (sk (i + 1) r) (c + 1)) = sm (n + 1) fun j => sgn j * m (sk (i + 1) 0) (j + 1) * det n fun r c => m (sk (i + 1) (r + 1)) (sk j c + 1) from rfl, <- sm_mul]
      refine sm_congr fun j hj => ?_
      have : (fun r c => m (sk (i + 1) (r + 1)) (sk j c + 1)) = fun r c => m (sk i r + 1) (sk j c + 1) := by
        funext r c
        rw [show sk (i + 1) (r + 1) = sk i r + 1 by unfold sk; (repeat' split) <;> omega]
      rw [this]
      simp only [sgn, show sk (i + 1) 0 = 0 by simp [sk]]
      grind
    rw [sm_congr e1, sm_congr e2, sm_swap]
theorem det_sumAux {n c : Nat} {m : Mx} (hc : c < n) : ∀ t : Nat, t <= n -> det n (fun i j => if j = c then m i c + sm t (fun d => if d = c then 0 else m i d) else m i j) = det n m
  | 0, _ => det_congr fun i j _ _ => by
    by_cases h : j = c
    . subst h; simp [sm]
    . simp [h]
  | t + 1, h => by
    refine Eq.trans ?_ (det_sumAux (m := m) hc t (by omega))
    by_cases ht : t = c
    . refine det_congr fun i j _ _ => ?_
      simp [sm, ht]
    . rw [det_op 1 1 (a := t) (b := c) (m := fun i j => if j = c then m i c + sm t (fun d => if d = c then 0 else m i d) else m i j) (by omega) hc ht (fun i _ => by simp [sm, ht]; omega) (fun i j _ _ hne => by simp [hne])]
      omega
theorem det_sum0 {n : Nat} {m : Mx} (hn : 0 < n) (h : ∀ i, i < n -> sm n (m i) = 0) : det n m = 0 := by
  obtain ⟨n, rfl⟩ : ∃ k, n = k + 1 := ⟨n - 1, by omega⟩
  rw [<- det_sumAux (c := 0) (m := m) hn (n + 1) (Nat.le_refl _)]
  have : ∀ i, i < n + 1 -> m i 0 + sm (n + 1) (fun d => if d = 0 then 0 else m i d) = 0 := fun i hi => by
    have := h i hi
    rw [sm_head] at this
    rw [sm_head]
    simpa using this
  rw [det_lin 0 0 (c := 0) (m := fun i j => if j = 0 then m i 0 + sm (n + 1) (fun d => if d = 0 then 0 else m i d) else m i j) (u := m) (v := m) hn (fun i hi => by simp [this i hi]) (fun i j _ _ hne => by simp [hne]) (fun i j _ _ hne => by simp [hne])]
  omega
def wt (n : Nat) (m : Mx) (s : Nat) : Int := det n fun r c => m (sk s r) (sk s c)
theorem wt_col {n : Nat} {m : Mx} {s : Nat} (hs : s <= n) (h : ∀ i, i < n + 1 -> sm (n + 1) (m i) = 0) : ∀ t : Nat, t <= n -> (det n fun r c => m (sk s r) (sk t c)) = sgn t * det n fun r c => m (sk s r) (c + 1)
  | 0, _ => by
    rw [show sgn 0 = 1 from rfl, Int.one_mul]
    exact det_congr fun i j _ _ => by simp [sk]
  | t + 1, ht => by
    have ih := wt_col hs h t (by omega)
    have z : det n (fun r c => if c = t then m (sk s r) t + m (sk s r) (t + 1) else m (sk s r) (sk t c)) = 0 := det_sum0 (by omega) fun i hi => by
      have e1 := h (sk s i) (by unfold sk; (repeat' split) <;> omega)
      rw [sm_skip _ (t := t) (by omega)] at e1
      obtain ⟨n, rfl⟩ : ∃ k, n = k + 1 := ⟨n - 1, by omega⟩
      rw [sm_skip _ (t := t) (by omega)] at e1 ⊢
      rw [sm_congr (g := fun c => m (sk s i) (sk t (sk t c))) fun c _ => by rw [if_neg (by unfold sk; (repeat' split) <;> omega)]]
      simp only [if_true, show sk t t = t + 1 by simp [sk]] at e1 ⊢
      omega
    rw [det_lin 1 1 (c := t) (u := fun r c => m (sk s r) (sk (t + 1) c)) (v := fun r c => m (sk s r) (sk t c)) (by omega)
      (fun i _ => by simp [sk])
      (fun i j _ _ hne => by
        simp only [hne, if_false]
        rw [show sk t j = sk (t + 1) j by unfold sk; (repeat' split) <;> omega])
      (fun i j _ _ hne => by simp [hne])] at z
    show _ = - sgn t * _
    grind
theorem wt_null {n : Nat} {m : Mx} (h : ∀ i, i < n + 1 -> sm (n + 1) (m i) = 0) {t : Nat} (ht : t <= n) : sm (n + 1) (fun s => wt n m s * m s t) = 0 := by
  have e : sm (n + 1) (fun s => wt n m s * m s t) = det (n + 1) fun i j => if j = 0 then m i t else m i j := by
    rw [det_col]
    refine sm_congr fun s hs => ?_
    rw [show wt n m s = _ from wt_col (by omega) h s (by omega)]
    simp
    grind
  rw [e]
  by_cases h0 : t = 0
  . subst h0
    rw [<- det_sum0 (m := m) (by omega) h]
    exact det_congr fun i j _ _ => by
      by_cases hj : j = 0
      . subst hj; simp
      . simp [hj]
  . exact det_eq2 (a := 0) (b := t) (by omega) (by omega) (by omega) fun i _ => by simp [h0]
def lv (m : Mx) (k i j : Nat) : Int := det (k + 1) fun r c => m (if r < k then r else i) (if c < k then c else j)
def pv (m : Mx) : Nat -> Int
  | 0 => 1
  | k + 1 => lv m k k k
theorem lv_zero (m : Mx) (i j : Nat) : lv m 0 i j = m i j := by
  unfold lv det sm sm
  simp [sgn, det]
theorem lv_last (m : Mx) (k : Nat) : lv m k k k = det (k + 1) m := det_congr fun i j hi hj => by
  rw [show (if i < k then i else k) = i by split <;> omega, show (if j < k then j else k) = j by split <;> omega]
theorem lv_chio {m : Mx} (h : m 0 0 ≠ 0) (k i j : Nat) : lv (chio m) k i j = m 0 0 ^ k * lv m (k + 1) (i + 1) (j + 1) := by
  have e := det_chio (k + 1) fun r c => m (if r < k + 1 then r else i + 1) (if c < k + 1 then c else j + 1)
  have e2 : det (k + 1) (chio fun r c => m (if r < k + 1 then r else i + 1) (if c < k + 1 then c else j + 1)) = lv (chio m) k i j := det_congr fun r c _ _ => by
    have f : ∀ x y : Nat, (if x + 1 < k + 1 then x + 1 else y + 1) = (if x < k then x else y) + 1 := fun x y => by split <;> split <;> omega
    simp only [chio, f, show (if 0 < k + 1 then 0 else i + 1) = 0 by simp, show (if 0 < k + 1 then 0 else j + 1) = 0 by simp]
  rw [e2] at e
  simp only [show (if 0 < k + 1 then 0 else i + 1) = 0 by simp, show (if 0 < k + 1 then 0 else j + 1) = 0 by simp] at e
  rw [Int.pow_succ] at e
  refine Int.eq_of_mul_eq_mul_left h ?_
  rw [e]
  unfold lv
  grind
theorem bareiss : ∀ (k : Nat) {m : Mx} {i j : Nat}, (∀ q, q < k -> lv m q q q ≠ 0) -> k < i -> k < j -> lv m k k k * lv m k i j - lv m k i k * lv m k k j = lv m (k + 1) i j * pv m k
  | 0, m, i, j, _, hi, hj => by
    simp only [lv_zero, pv]
    have : lv m 1 i j = m 0 0 * m i j - m 0 j * m i 0 := by
      unfold lv
      simp [det, sm, sgn, sk, Int.neg_mul]
      omega
    rw [this]
    grind
  | k + 1, m, i, j, h, hi, hj => by
    obtain ⟨i, rfl⟩ : ∃ x, i = x + 1 := ⟨i - 1, by omega⟩
    obtain ⟨j, rfl⟩ : ∃ x, j = x + 1 := ⟨j - 1, by omega⟩
    have hp : m 0 0 ≠ 0 := by
      have := h 0 (by omega)
      rwa [lv_zero] at this
    have ih := bareiss k (m := chio m) (i := i) (j := j) (fun q hq => by
      rw [lv_chio hp]
      exact Int.mul_ne_zero (Int.pow_ne_zero hp) (h (q + 1) (by omega))) (by omega) (by omega)
    simp only [lv_chio hp] at ih
    have e : m 0 0 * pv (chio m) k = m 0 0 ^ k * pv m (k + 1) := by
      cases k with
      | zero => simp [pv, lv_zero]
      | succ k =>
        show m 0 0 * lv (chio m) k k k = _ * lv m (k + 1) (k + 1) (k + 1)
        rw [lv_chio hp, Int.pow_succ]
        grind
    generalize pv (chio m) k = y at *
    generalize pv m (k + 1) = z at *
    generalize lv m (k + 1) (k + 1) (k + 1) = a at *
    generalize lv m (k + 1) (i + 1) (j + 1) = b at *
    generalize lv m (k + 1) (i + 1) (k + 1) = c at *
    generalize lv m (k + 1) (k + 1) (j + 1) = d at *
    have hk : m 0 0 ^ k ≠ 0 := Int.pow_ne_zero hp
    rw [Int.pow_succ] at ih
    generalize m 0 0 ^ k = w at *
    generalize lv m (k + 1 + 1) (i + 1) (j + 1) = x at *
    generalize m 0 0 = p at *
    refine Int.eq_of_mul_eq_mul_left hk (Int.eq_of_mul_eq_mul_left hk (Int.eq_of_mul_eq_mul_left hp ?_))
    have t1 : p * (w * (w * (a * b - c * d))) = p * (w * a * (w * b) - w * c * (w * d)) := by grind
    rw [t1, ih]
    have t2 : p * (w * p * x * y) = w * p * x * (p * y) := by grind
    rw [t2, e]
    grind
theorem sm_le1 {f : Nat -> Int} {n t : Nat} (ht : t < n) (h : ∀ i, i < n -> i ≠ t -> f i <= 0) : sm n f <= f t := by
  obtain ⟨n, rfl⟩ : ∃ k, n = k + 1 := ⟨n - 1, by omega⟩
  rw [sm_skip f (t := t) (by omega)]
  have : ∀ q, q <= n -> sm q (fun c => f (sk t c)) <= 0 := fun q => by
    induction q with
    | zero => intro _; exact Int.le_refl _
    | succ q ih =>
      intro hq
      have a := ih (by omega)
      have b := h (sk t q) (by unfold sk; (repeat' split) <;> omega) (by unfold sk; (repeat' split) <;> omega)
      show sm q _ + f (sk t q) <= 0
      omega
  have := this n (Nat.le_refl n)
  omega
theorem sm_le2 {f : Nat -> Int} {n t u : Nat} (ht : t < n) (hu : u < n) (hne : t ≠ u) (h : ∀ i, i < n -> i ≠ t -> f i <= 0) : sm n f <= f t + f u := by
  obtain ⟨n, rfl⟩ : ∃ k, n = k + 1 := ⟨n - 1, by omega⟩
  rw [sm_skip f (t := t) (by omega)]
  have : sm n (fun c => f (sk t c)) <= f (sk t (if u < t then u else u - 1)) := sm_le1 (f := fun c => f (sk t c)) (by split <;> omega) fun i hi _ => h _ (by unfold sk; (repeat' split) <;> omega) (by unfold sk; (repeat' split) <;> omega)
  rw [show sk t (if u < t then u else u - 1) = u by unfold sk; (repeat' split) <;> omega] at this
  omega
theorem nnz {p x u v : Int} (e : p * x = u + v) (hu : 0 <= u) (hv : 0 <= v) (hp : 0 < p) (hx : x <= 0) : u = 0 /\ v = 0 := by
  have h := Int.mul_nonneg (Int.le_of_lt hp) (show 0 <= -x by omega)
  rw [Int.mul_neg] at h
  omega
theorem nnx {p x u v : Int} (e : p * x = u + v) (hu : 0 <= u) (hv : 0 <= v) (hp : 0 < p) : 0 <= x := by
  refine Int.not_lt.1 fun hlt => ?_
  have h := Int.mul_pos hp (show 0 < -x by omega)
  rw [Int.mul_neg] at h
  omega
theorem neg4 {p x a b c d : Int} (e : p * x = a * b - c * d) : p * -x = a * -b + -c * -d := by
  rw [Int.mul_neg, e, Int.mul_neg, Int.neg_mul_neg]; omega
structure Dom (m : Mx) (n : Nat) (c : Int) (k : Nat) : Prop where
  off : ∀ i j, k <= i -> i < n -> k <= j -> j < n -> i ≠ j -> lv m k i j <= 0
  row : ∀ i, k <= i -> i < n -> 0 <= sm (n - k) fun d => lv m k i (k + d)
  dia : ∀ i, k <= i -> i < n -> lv m k i i <= c * pv m k
  pos : 0 < pv m k
  out : ∀ S : Nat -> Prop, (∃ i, S i /\ k <= i /\ i < n) -> ∃ i, (S i /\ k <= i /\ i < n) /\ ((0 < sm (n - k) fun d => lv m k i (k + d)) \/ ∃ j, k <= j /\ j < n /\ ¬ S j /\ lv m k i j < 0)
theorem Dom.ent {m : Mx} {n k : Nat} {c : Int} (h : Dom m n c k) {i j : Nat} (hi : k <= i) (hi2 : i < n) (hj : k <= j) (hj2 : j < n) : 0 <= lv m k i i /\ - lv m k i i <= lv m k i j := by
  have r := h.row i hi hi2
  have o : ∀ d, d < n - k -> d ≠ i - k -> lv m k i (k + d) <= 0 := fun d hd hne => h.off i (k + d) hi hi2 (by omega) (by omega) (by omega)
  have a := sm_le1 (f := fun d => lv m k i (k + d)) (n := n - k) (t := i - k) (by omega) o
  simp only [show k + (i - k) = i by omega] at a
  refine ⟨by omega, ?_⟩
  by_cases hij : i = j
  . subst hij; omega
  . have b := sm_le2 (f := fun d => lv m k i (k + d)) (n := n - k) (t := i - k) (u := j - k) (by omega) (by omega) (by omega) o
    simp only [show k + (i - k) = i by omega, show k + (j - k) = j by omega] at b
    omega
theorem Dom.piv {m : Mx} {n k : Nat} {c : Int} (h : Dom m n c k) (hk : k < n) : 0 < lv m k k k := by
  obtain ⟨i, ⟨h1, h2, h3⟩, h4⟩ := h.out (fun x => x = k) ⟨k, rfl, Nat.le_refl k, hk⟩
  have h1 : i = k := h1
  subst h1
  rcases h4 with h4 | ⟨j, hj, hj2, hne, h4⟩
  . have o : ∀ d, d < n - i -> d ≠ 0 -> lv m i i (i + d) <= 0 := fun d hd hne => h.off i (i + d) (by omega) hk (by omega) (by omega) (by omega)
    have a := sm_le1 (f := fun d => lv m i i (i + d)) (n := n - i) (t := 0) (by omega) o
    simp only [Nat.add_zero] at a
    omega
  . have := (h.ent (Nat.le_refl i) hk hj hj2).2
    omega
theorem Dom.step {m : Mx} {n k : Nat} {c : Int} (h : Dom m n c k) (hk : k < n) (hb : ∀ q, q < k -> lv m q q q ≠ 0) : Dom m n c (k + 1) := by
  have hp := h.piv hk
  have hP := h.pos
  have e : ∀ i j, k < i -> k < j -> pv m k * lv m (k + 1) i j = lv m k k k * lv m k i j - lv m k i k * lv m k k j := fun i j hi hj => by
    rw [bareiss k hb hi hj]; exact Int.mul_comm _ _
  have rs : ∀ i, k <= i -> i < n -> (sm (n - k) fun d => lv m k i (k + d)) = lv m k i k + sm (n - (k + 1)) fun d => lv m k i (k + 1 + d) := fun i _ _ => by
    rw [show n - k = (n - (k + 1)) + 1 by omega, sm_head]
    congr 1
    exact sm_congr fun d _ => by rw [show k + (d + 1) = k + 1 + d by omega]
  have re : ∀ i, k < i -> i < n -> pv m k * (sm (n - (k + 1)) fun d => lv m (k + 1) i (k + 1 + d)) = lv m k k k * (sm (n - k) fun d => lv m k i (k + d)) + (- lv m k i k) * (sm (n - k) fun d => lv m k k (k + d)) := fun i hi hi2 => by
    rw [<- sm_mul, sm_congr (g := fun d => lv m k k k * lv m k i (k + 1 + d) + (- lv m k i k) * lv m k k (k + 1 + d)) fun d hd => by rw [e _ _ hi (by omega)]; grind]
    rw [sm_add, sm_mul, sm_mul, rs i (by omega) hi2, rs k (Nat.le_refl k) hk]
    grind
  have ok : ∀ i, k < i -> i < n -> 0 <= - lv m k i k := fun i hi hi2 => by
    have := h.off i k (by omega) hi2 (Nat.le_refl k) hk (by omega)
    omega
  have rr := h.row k (Nat.le_refl k) hk
  refine ⟨fun i j hi hi2 hj hj2 hne => ?_, fun i hi hi2 => ?_, fun i hi hi2 => ?_, hp, fun S hS => ?_⟩
  . have b := Int.mul_nonneg (Int.le_of_lt hp) (show 0 <= - lv m k i j by have := h.off i j (by omega) hi2 (by omega) hj2 hne; omega)
    have d := Int.mul_nonneg (ok i (by omega) hi2) (show 0 <= - lv m k k j by have := h.off k j (by omega) hk (by omega) hj2 (by omega); omega)
    have := nnx (neg4 (e i j (by omega) (by omega))) b d hP
    omega
  . exact nnx (re i (by omega) hi2) (Int.mul_nonneg (Int.le_of_lt hp) (h.row i (by omega) hi2)) (Int.mul_nonneg (ok i (by omega) hi2) rr) hP
  . have a := e i i (by omega) (by omega)
    have d := Int.mul_nonneg (ok i (by omega) hi2) (show 0 <= - lv m k k i by have := h.off k i (by omega) hk (by omega) hi2 (by omega); omega)
    have b := Int.mul_nonneg (Int.le_of_lt hp) (show 0 <= c * pv m k - lv m k i i by have := h.dia i (by omega) hi2; omega)
    have f : pv m k * (c * lv m k k k - lv m (k + 1) i i) = lv m k k k * (c * pv m k - lv m k i i) + - lv m k i k * - lv m k k i := by
      rw [Int.mul_sub, a, Int.mul_sub, Int.neg_mul_neg]
      rw [show pv m k * (c * lv m k k k) = lv m k k k * (c * pv m k) by rw [Int.mul_left_comm, Int.mul_comm (pv m k), Int.mul_left_comm]]
      omega
    have := nnx f b d hP
    show _ <= c * lv m k k k
    omega
  . refine Classical.byContradiction fun hn => ?_
    have hz : ∀ i, S i -> k + 1 <= i -> i < n -> (sm (n - k) fun d => lv m k i (k + d)) = 0 /\ (lv m k i k = 0 \/ (sm (n - k) fun d => lv m k k (k + d)) = 0) /\ ∀ j, k + 1 <= j -> j < n -> ¬ S j -> lv m k i j = 0 /\ (lv m k i k = 0 \/ lv m k k j = 0) := fun i hs hi hi2 => by
      obtain ⟨y1, y2⟩ := nnz (re i (by omega) hi2) (Int.mul_nonneg (Int.le_of_lt hp) (h.row i (by omega) hi2)) (Int.mul_nonneg (ok i (by omega) hi2) rr) hP (Int.not_lt.1 fun hlt => hn ⟨i, ⟨hs, hi, hi2⟩, .inl hlt⟩)
      refine ⟨(Int.mul_eq_zero.1 y1).resolve_left (by omega), (Int.mul_eq_zero.1 y2).imp (fun x => by omega) id, fun j hj hj2 hns => ?_⟩
      have b := Int.mul_nonneg (Int.le_of_lt hp) (show 0 <= - lv m k i j by have := h.off i j (by omega) hi2 (by omega) hj2 (fun x => hns (x ▸ hs)); omega)
      have d := Int.mul_nonneg (ok i (by omega) hi2) (show 0 <= - lv m k k j by have := h.off k j (by omega) hk (by omega) hj2 (by omega); omega)
      have z : 0 <= lv m (k + 1) i j := Int.not_lt.1 fun hlt => hn ⟨i, ⟨hs, hi, hi2⟩, .inr ⟨j, hj, hj2, hns, hlt⟩⟩
      obtain ⟨y1, y2⟩ := nnz (neg4 (e i j (by omega) (by omega))) b d hP (by omega)
      exact ⟨by have := (Int.mul_eq_zero.1 y1).resolve_left (by omega); omega, (Int.mul_eq_zero.1 y2).imp (fun x => by omega) fun x => by omega⟩
    by_cases hall : ∀ i, S i -> k + 1 <= i -> i < n -> lv m k i k = 0
    . obtain ⟨i, ⟨⟨hs, hk1⟩, hi, hi2⟩, h4⟩ := h.out (fun x => S x /\ k + 1 <= x) (by obtain ⟨i, a, b, d⟩ := hS; exact ⟨i, ⟨a, b⟩, by omega, d⟩)
      obtain ⟨q1, q2, q3⟩ := hz i hs hk1 hi2
      rcases h4 with h4 | ⟨j, hj, hj2, hns, h4⟩
      . omega
      . by_cases hjk : j = k
        . subst hjk
          have := hall i hs hk1 hi2
          omega
        . have := (q3 j (by omega) hj2 fun x => hns ⟨x, by omega⟩).1
          omega
    . obtain ⟨i0, hi0⟩ := Classical.not_forall.1 hall
      have hs0 : S i0 := Classical.byContradiction fun x => hi0 fun y => absurd y x
      have hk0 : k + 1 <= i0 := Classical.byContradiction fun x => hi0 fun _ y => absurd y x
      have hn0 : i0 < n := Classical.byContradiction fun x => hi0 fun _ _ y => absurd y x
      have hne0 : lv m k i0 k ≠ 0 := fun x => hi0 fun _ _ _ => x
      obtain ⟨p1, p2, p3⟩ := hz i0 hs0 hk0 hn0
      have p2 := p2.resolve_left hne0
      obtain ⟨i, ⟨hs, hi, hi2⟩, h4⟩ := h.out (fun x => S x \/ x = k) ⟨i0, .inl hs0, by omega, hn0⟩
      by_cases hik : i = k
      . subst hik
        rcases h4 with h4 | ⟨j, hj, hj2, hns, h4⟩
        . omega
        . have hjk : j ≠ i := fun x => hns (.inr x)
          have := (p3 j (by omega) hj2 fun x => hns (.inl x)).2.resolve_left hne0
          omega
      . obtain ⟨q1, q2, q3⟩ := hz i (hs.resolve_right hik) (by omega) hi2
        rcases h4 with h4 | ⟨j, hj, hj2, hns, h4⟩
        . omega
        . have hjk : j ≠ k := fun x => hns (.inr x)
          have := (q3 j (by omega) hj2 fun x => hns (.inl x)).1
          omega
theorem Dom.all {m : Mx} {n : Nat} {c : Int} (h : Dom m n c 0) : ∀ k, k <= n -> Dom m n c k /\ ∀ q, q < k -> lv m q q q ≠ 0
  | 0, _ => ⟨h, fun _ hq => by omega⟩
  | k + 1, hk => by
    obtain ⟨a, b⟩ := Dom.all h k (by omega)
    refine ⟨a.step (by omega) b, fun q hq => ?_⟩
    by_cases hqk : q = k
    . subst hqk
      have := a.piv (by omega)
      omega
    . exact b q (by omega)
theorem Dom.bound {m : Mx} {n : Nat} {c : Int} (h : Dom m n c 0) (hc : 0 <= c) : ∀ k, k <= n -> pv m k <= c ^ k
  | 0, _ => by simp [pv]
  | k + 1, hk => by
    have a := Dom.bound h hc k (by omega)
    have b := ((h.all k (by omega)).1).dia k (Nat.le_refl k) (by omega)
    show lv m k k k <= c ^ (k + 1)
    rw [Int.pow_succ]
    have := Int.mul_le_mul_of_nonneg_left a hc
    have e : c ^ k * c = c * c ^ k := Int.mul_comm _ _
    omega
def rn (δ : Nat -> Nat -> Nat) : List Nat -> Nat -> Nat
  | [], q => q
  | x :: u, q => rn δ u (δ x q)
def lap (K : Nat) (δ : Nat -> Nat -> Nat) : Mx := fun i j => sm K fun x => (if i = j then 1 else 0) - (if δ x i = j then 1 else 0)
structure Con (N K : Nat) (δ : Nat -> Nat -> Nat) : Prop where
  rng : ∀ x i, x < K -> i < N -> δ x i < N
  con : ∀ i j, i < N -> j < N -> ∃ v : List Nat, (∀ x ∈ v, x < K) /\ rn δ v i = j
theorem sm_pick {N i : Nat} (f : Nat -> Int) (h : i < N) : sm N (fun j => (if i = j then 1 else 0) * f j) = f i := by
  rw [sm_one h fun j _ hne => by rw [if_neg (Ne.symm hne), Int.zero_mul], if_pos rfl, Int.one_mul]
theorem rn_lt {N K : Nat} {δ : Nat -> Nat -> Nat} (h : Con N K δ) : ∀ (v : List Nat) {i : Nat}, (∀ x ∈ v, x < K) -> i < N -> rn δ v i < N
  | [], _, _, hi => hi
  | x :: v, _, hv, hi => rn_lt h v (fun y hy => hv y (List.mem_cons_of_mem _ hy)) (h.rng x _ (hv x (List.mem_cons_self ..)) hi)
theorem rn_app (δ : Nat -> Nat -> Nat) : ∀ (u v : List Nat) (i : Nat), rn δ (u ++ v) i = rn δ v (rn δ u i)
  | [], _, _ => rfl
  | _ :: u, v, _ => rn_app δ u v _
theorem lap_sum {N K : Nat} {δ : Nat -> Nat -> Nat} (h : Con N K δ) (χ : Nat -> Int) {i : Nat} (hi : i < N) : sm N (fun j => lap K δ i j * χ j) = sm K fun x => χ i - χ (δ x i) := by
  have : (fun j => lap K δ i j * χ j) = fun j => sm K fun x => (if i = j then 1 else 0) * χ j + -1 * ((if δ x i = j then 1 else 0) * χ j) := by
    funext j
    rw [Int.mul_comm, lap, <- sm_mul]
    exact sm_congr fun x _ => by rw [Int.mul_sub, Int.mul_comm, Int.mul_comm (χ j)]; omega
  rw [this, sm_swap]
  exact sm_congr fun x hx => by
    rw [sm_add, sm_mul, sm_pick χ hi, sm_pick χ (h.rng x i hx hi)]; omega
theorem lap_row {N K : Nat} {δ : Nat -> Nat -> Nat} (h : Con N K δ) {i : Nat} (hi : i < N) : sm N (lap K δ i) = 0 := by
  have := lap_sum h (fun _ => 1) hi
  rw [sm_congr (g := fun j => lap K δ i j * 1) fun j _ => by rw [Int.mul_one], this]
  exact sm_zero fun x _ => by omega
theorem lap_off (K : Nat) (δ : Nat -> Nat -> Nat) {i j : Nat} (h : i ≠ j) : lap K δ i j <= 0 := by
  have : ∀ k, sm k (fun x => (if i = j then (1 : Int) else 0) - (if δ x i = j then 1 else 0)) <= 0 := fun k => by
    induction k with
    | zero => exact Int.le_refl _
    | succ k ih =>
      have b : ((if i = j then (1 : Int) else 0) - (if δ k i = j then 1 else 0)) <= 0 := by rw [if_neg h]; split <;> omega
      show sm k _ + (_ - _) <= 0
      omega
  exact this K
theorem lap_neg {K : Nat} {δ : Nat -> Nat -> Nat} {i j x : Nat} (h : i ≠ j) (hx : x < K) (e : δ x i = j) : lap K δ i j < 0 := by
  have := sm_le1 (f := fun x => (if i = j then (1 : Int) else 0) - (if δ x i = j then 1 else 0)) hx fun y _ _ => by rw [if_neg h]; split <;> omega
  simp only [if_neg h, if_pos e] at this
  unfold lap
  simp only [if_neg h]
  omega
theorem lap_dia (K : Nat) (δ : Nat -> Nat -> Nat) (i : Nat) : lap K δ i i <= K := by
  have : ∀ k : Nat, sm k (fun x => (if i = i then (1 : Int) else 0) - (if δ x i = i then 1 else 0)) <= k := fun k => by
    induction k with
    | zero => exact Int.le_refl _
    | succ k ih =>
      have b : ((if i = i then (1 : Int) else 0) - (if δ k i = i then 1 else 0)) <= 1 := by rw [if_pos rfl]; split <;> omega
      show sm k _ + (_ - _) <= _
      omega
  exact this K
theorem way {N K : Nat} {δ : Nat -> Nat -> Nat} (h : Con N K δ) (T : Nat -> Prop) : ∀ (v : List Nat) {q : Nat}, (∀ x ∈ v, x < K) -> q < N -> T q -> ¬ T (rn δ v q) -> ∃ p x, p < N /\ x < K /\ T p /\ ¬ T (δ x p)
  | [], _, _, _, ht, hn => absurd ht hn
  | x :: v, q, hv, hq, ht, hn => by
    have hx := hv x (List.mem_cons_self ..)
    by_cases hd : T (δ x q)
    . exact way h T v (fun y hy => hv y (List.mem_cons_of_mem _ hy)) (h.rng x q hx hq) hd hn
    . exact ⟨q, x, hq, hx, ht, hd⟩
theorem lap_dom {n K : Nat} {δ : Nat -> Nat -> Nat} (h : Con (n + 1) K δ) {s : Nat} (hs : s <= n) : Dom (fun r c => lap K δ (sk s r) (sk s c)) n K 0 := by
  have sk_ne : ∀ i, sk s i ≠ s := fun i => by unfold sk; split <;> omega
  have sk_lt : ∀ i, i < n -> sk s i < n + 1 := fun i hi => by unfold sk; split <;> omega
  have sk_inj : ∀ i j, sk s i = sk s j -> i = j := fun i j => by unfold sk; split <;> split <;> omega
  have rw1 : ∀ i, i < n -> (sm (n - 0) fun d => lv (fun r c => lap K δ (sk s r) (sk s c)) 0 i (0 + d)) = - lap K δ (sk s i) s := fun i hi => by
    have e := lap_row h (sk_lt i hi)
    rw [sm_skip _ (t := s) hs] at e
    rw [sm_congr (g := fun c => lap K δ (sk s i) (sk s c)) fun d _ => by rw [lv_zero, Nat.zero_add], Nat.sub_zero]
    omega
  refine ⟨fun i j _ hi _ hj hne => ?_, fun i _ hi => ?_, fun i _ hi => ?_, Int.one_pos, fun S hS => ?_⟩
  . rw [lv_zero]
    exact lap_off K δ fun e => hne (sk_inj i j e)
  . rw [rw1 i hi]
    have := lap_off K δ (sk_ne i)
    omega
  . rw [lv_zero]
    have := lap_dia K δ (sk s i)
    show _ <= (K : Int) * 1
    omega
  . obtain ⟨i0, h1, _, h2⟩ := hS
    obtain ⟨v, hv, e⟩ := h.con (sk s i0) s (sk_lt i0 h2) (by omega)
    obtain ⟨p, x, hp, hx, ⟨i, rfl, hi, hin⟩, hn⟩ := way h (fun q => ∃ i, q = sk s i /\ S i /\ i < n) v hv (sk_lt i0 h2) ⟨i0, rfl, h1, h2⟩ (by rw [e]; rintro ⟨i, he, _⟩; exact sk_ne i he.symm)
    refine ⟨i, ⟨hi, Nat.zero_le _, hin⟩, ?_⟩
    by_cases hd : δ x (sk s i) = s
    . left
      rw [rw1 i hin]
      have := lap_neg (sk_ne i) hx hd
      omega
    . right
      have hl := h.rng x _ hx hp
      obtain ⟨p, hpe⟩ : ∃ p, δ x (sk s i) = p := ⟨_, rfl⟩
      rw [hpe] at hl hd hn
      have hj : sk s (if p < s then p else p - 1) = p := by unfold sk; (repeat' split) <;> omega
      refine ⟨if p < s then p else p - 1, Nat.zero_le _, by split <;> omega, fun hS => hn ⟨_, hj.symm, hS, by split <;> omega⟩, ?_⟩
      rw [lv_zero]
      simp only [hj]
      exact lap_neg (fun e => hn ⟨i, e.symm, hi, hin⟩) hx hpe
def ws (N : Nat) (w : Nat -> Int) (P : Nat -> Bool) : Int := sm N fun i => if P i then w i else 0
theorem ws_avg {N K : Nat} {δ : Nat -> Nat -> Nat} (h : Con N K δ) {w : Nat -> Int} (hw : ∀ j, j < N -> sm N (fun s => w s * lap K δ s j) = 0) (P : Nat -> Bool) : sm K (fun x => ws N w fun i => P (δ x i)) = K * ws N w P := by
  have e : sm N (fun i => w i * sm K fun x => (if P i then (1 : Int) else 0) - (if P (δ x i) then 1 else 0)) = 0 := by
    rw [sm_congr (g := fun i => sm N fun j => (if P j then (1 : Int) else 0) * (w i * lap K δ i j)) fun i hi => by
      rw [<- lap_sum h (fun j => if P j then (1 : Int) else 0) hi, <- sm_mul]
      exact sm_congr fun j _ => by rw [Int.mul_comm (lap K δ i j), Int.mul_left_comm], sm_swap]
    exact sm_zero fun j hj => by rw [sm_mul, hw j hj, Int.mul_zero]
  have e2 : sm N (fun i => w i * sm K fun x => (if P i then (1 : Int) else 0) - (if P (δ x i) then 1 else 0)) = sm K fun x => ws N w P + -1 * ws N w fun i => P (δ x i) := by
    rw [sm_congr (g := fun i => sm K fun x => (if P i then w i else 0) + -1 * (if P (δ x i) then w i else 0)) fun i _ => by
      rw [<- sm_mul]
      exact sm_congr fun x _ => by split <;> split <;> simp <;> omega, sm_swap]
    exact sm_congr fun x _ => by rw [sm_add, sm_mul]; rfl
  rw [e2, sm_add, sm_mul] at e
  have e3 : ∀ (k : Nat) (c : Int), sm k (fun _ => c) = k * c := fun k c => by
    induction k with
    | zero => simp [sm]
    | succ k ih =>
      show sm k _ + c = _
      rw [ih]
      have : ((k + 1 : Nat) : Int) * c = k * c + c := by rw [Int.natCast_add, Int.add_mul]; simp
      omega
  rw [e3] at e
  omega
theorem sm_le {f g : Nat -> Int} : ∀ {n : Nat}, (∀ i, i < n -> f i <= g i) -> sm n f <= sm n g
  | 0, _ => Int.le_refl _
  | n + 1, h => by
    have a := sm_le (n := n) fun i hi => h i (by omega)
    have b := h n (by omega)
    show sm n f + f n <= sm n g + g n
    omega
theorem ws_le {N : Nat} {w : Nat -> Int} (hw : ∀ i, i < N -> 0 < w i) (P : Nat -> Bool) : ws N w P <= sm N w := sm_le fun i hi => by
  have := hw i hi
  split <;> omega
theorem ws_pos {N : Nat} {w : Nat -> Int} (hw : ∀ i, i < N -> 0 < w i) {P : Nat -> Bool} {i : Nat} (hi : i < N) (h : P i = true) : 0 < ws N w P := by
  have := sm_le1 (f := fun i => - (if P i then w i else 0)) hi fun j hj _ => by have := hw j hj; split <;> omega
  have e : sm N (fun i => - (if P i then w i else 0)) = -1 * ws N w P := by
    rw [ws, <- sm_mul]
    exact sm_congr fun i _ => by omega
  rw [e] at this
  have := hw i hi
  rw [h] at *
  simp only [if_true] at *
  omega
theorem sm_all {f : Nat -> Int} {c : Int} : ∀ {n : Nat}, (∀ i, i < n -> f i <= c) -> sm n f = n * c -> ∀ i, i < n -> f i = c
  | 0, _, _, _, hi => by omega
  | n + 1, h, e, i, hi => by
    have e : sm n f + f n = ((n + 1 : Nat) : Int) * c := e
    have e1 : ((n + 1 : Nat) : Int) * c = n * c + c := by rw [Int.natCast_add, Int.add_mul]; simp
    have a : sm n f <= n * c := by
      have : ∀ k : Nat, k <= n -> sm k f <= k * c := fun k => by
        induction k with
        | zero => intro _; simp [sm]
        | succ k ih =>
          intro hk
          have := ih (by omega)
          have := h k (by omega)
          have e2 : ((k + 1 : Nat) : Int) * c = k * c + c := by rw [Int.natCast_add, Int.add_mul]; simp
          show sm k f + f k <= _
          omega
      exact this n (Nat.le_refl n)
    have b := h n (by omega)
    by_cases hin : i = n
    . subst hin; omega
    . exact sm_all (n := n) (fun i hi => h i (by omega)) (by omega) i (by omega)
theorem friedman {N K : Nat} {δ : Nat -> Nat -> Nat} (h : Con N K δ) (hN : 0 < N) {w : Nat -> Int} (hp : ∀ i, i < N -> 0 < w i) (hw : ∀ j, j < N -> sm N (fun s => w s * lap K δ s j) = 0)
    {z : List Nat} (hz : ∀ x ∈ z, x < K) (hmin : ∀ u : List Nat, (∀ x ∈ u, x < K) -> ∀ i j, i < N -> j < N -> rn δ u (rn δ z i) = rn δ u (rn δ z j) -> rn δ z i = rn δ z j) :
    ∃ M : Int, ∀ i, i < N -> ws N w (fun j => rn δ z j == rn δ z i) = M := by
  let val (u : List Nat) (q : Nat) : Int := ws N w fun j => rn δ u j == q
  have hex : ∃ u q, (∀ x ∈ u, x < K) /\ q < N /\ ∀ u' q', (∀ x ∈ u', x < K) -> q' < N -> val u' q' <= val u q := by
    refine Classical.byContradiction fun hn => ?_
    have : ∀ k : Nat, ∃ u q, (∀ x ∈ u, x < K) /\ q < N /\ (k : Int) <= val u q := fun k => by
      induction k with
      | zero => exact ⟨[], 0, by simp, hN, by
          have := ws_pos hp (P := fun j => rn δ [] j == 0) hN (by simp [rn])
          show (0 : Int) <= ws _ _ _
          omega⟩
      | succ k ih =>
        obtain ⟨u, q, a, b, c⟩ := ih
        refine Classical.byContradiction fun hk => hn ⟨u, q, a, b, fun u' q' a' b' => ?_⟩
        have : ¬ ((k + 1 : Nat) : Int) <= val u' q' := fun x => hk ⟨u', q', a', b', x⟩
        omega
    obtain ⟨u, q, _, _, c⟩ := this (sm N w).toNat.succ
    have := ws_le hp fun j => rn δ u j == q
    have d : val u q = ws N w fun j => rn δ u j == q := rfl
    omega
  obtain ⟨u, q, hu, hq, hmax⟩ := hex
  have hall : ∀ v : List Nat, (∀ x ∈ v, x < K) -> val (v ++ u) q = val u q := fun v => by
    induction v with
    | nil => intro _; rfl
    | cons x v ih =>
      intro hv
      have iv := ih fun y hy => hv y (List.mem_cons_of_mem _ hy)
      have hvu : ∀ y ∈ v ++ u, y < K := fun y hy => (List.mem_append.1 hy).elim (fun h => hv y (List.mem_cons_of_mem _ h)) (hu y)
      have av := ws_avg h hw fun j => rn δ (v ++ u) j == q
      rw [show ws N w (fun j => rn δ (v ++ u) j == q) = val u q from iv] at av
      exact sm_all (fun y hy => hmax (y :: (v ++ u)) q (fun t ht => (List.mem_cons.1 ht).elim (fun e => e ▸ hy) (hvu t)) hq) av x (hv x (List.mem_cons_self ..))
  refine ⟨val u q, fun i hi => ?_⟩
  have hM : 0 < val u q := by
    have a := hmax u (rn δ u 0) hu (rn_lt h u hu hN)
    have b := ws_pos hp (P := fun j => rn δ u j == rn δ u 0) hN (by simp)
    have d : val u (rn δ u 0) = ws N w fun j => rn δ u j == rn δ u 0 := rfl
    omega
  obtain ⟨p, hpN, hpq⟩ : ∃ p, p < N /\ rn δ u p = q := by
    refine Classical.byContradiction fun hn => ?_
    have : val u q = 0 := sm_zero fun j hj => if_neg fun e => hn ⟨j, hj, by simpa using e⟩
    omega
  obtain ⟨v, hv, hvp⟩ := h.con (rn δ z i) p (rn_lt h z hz hi) hpN
  have hvu : ∀ y ∈ v ++ u, y < K := fun y hy => (List.mem_append.1 hy).elim (hv y) (hu y)
  have e := hall (z ++ v) fun y hy => (List.mem_append.1 hy).elim (hz y) (hv y)
  rw [<- e]
  refine sm_congr fun j hj => ?_
  have key : (rn δ z j == rn δ z i) = (rn δ (z ++ v ++ u) j == q) := by
    have e1 : rn δ (z ++ v ++ u) j = rn δ (v ++ u) (rn δ z j) := by rw [List.append_assoc, rn_app]
    have e2 : q = rn δ (v ++ u) (rn δ z i) := by rw [rn_app, hvp, hpq]
    rw [e1, e2, Bool.eq_iff_iff, beq_iff_eq, beq_iff_eq]
    exact ⟨fun e => by rw [e], fun e => hmin (v ++ u) hvu j i hj hi e⟩
  show (if (rn δ z j == rn δ z i) = true then w j else 0) = _
  rw [key]
end Go.Proofs.YtckpadnjldebaaaGreat.Gw
namespace Go.Proofs.YtckpadnjldebaaaGreat
set_option linter.unusedVariables false
open Gw
def mtL (n : Nat) (f : Nat -> Nat -> Int) : List (List Int) := (List.range n).map fun i => (List.range n).map (f i)
theorem mtL_length (n : Nat) (f : Nat -> Nat -> Int) : (mtL n f).length = n := by simp [mtL]
theorem mtL_row {n i : Nat} {f : Nat -> Nat -> Int} (h : i < n) : (mtL n f)[i]? = some ((List.range n).map (f i)) := by simp [mtL, h]
theorem mtL_congr {n : Nat} {f g : Nat -> Nat -> Int} (h : ∀ a b, a < n -> b < n -> f a b = g a b) : mtL n f = mtL n g := by
  refine List.map_congr_left fun a ha => List.map_congr_left fun b hb => ?_
  exact h a b (List.mem_range.1 ha) (List.mem_range.1 hb)
theorem mtL_set {n i j : Nat} {f : Nat -> Nat -> Int} {v : Int} (hi : i < n) (hj : j < n) : (rws (mtL n f)).set i ((((List.range n).map (f i)).map (D.int .i64)).set j (.int .i64 v)) = rws (mtL n fun a b => if a = i /\ b = j then v else f a b) := by
  refine List.ext_getElem? fun a => ?_
  by_cases ha : a < n
  . by_cases hai : a = i
    . subst hai
      rw [List.getElem?_set_self (by simp [rws, mtL, ha])]
      simp only [rws, List.getElem?_map, mtL_row ha, Option.map_some]
      refine congrArg some (List.ext_getElem? fun b => ?_)
      by_cases hb : b < n
      . by_cases hbj : b = j
        . subst hbj
          rw [List.getElem?_set_self (by simp [hb])]
          simp [hb]
        . rw [List.getElem?_set_ne (fun e => hbj e.symm)]
          simp [hb, hbj]
      . rw [List.getElem?_eq_none (by simp; omega), List.getElem?_eq_none (by simp; omega)]
    . rw [List.getElem?_set_ne (fun e => hai e.symm)]
      simp only [rws, List.getElem?_map, mtL_row ha, Option.map_some]
      simp [hai]
  . rw [List.getElem?_eq_none (by simp [rws, mtL]; omega), List.getElem?_eq_none (by simp [rws, mtL]; omega)]
def evM (m : Mx) (k i j : Nat) : Nat -> Nat -> Int := fun a b => if k < a /\ k < b /\ (a < i \/ a = i /\ b < j) then lv m (k + 1) a b else lv m (min k (min a b)) a b
theorem evM_start (n : Nat) (m : Mx) : mtL n (evM m 0 1 1) = mtL n m := mtL_congr fun a b _ _ => by
  unfold evM
  rw [if_neg (by omega), Nat.zero_min, lv_zero]
theorem evM_step {m : Mx} {k i j : Nat} (hi : k < i) (hj : k < j) : (fun a b => if a = i /\ b = j then lv m (k + 1) i j else evM m k i j a b) = evM m k i (j + 1) := by
  funext a b
  unfold evM
  by_cases h : a = i /\ b = j
  . rw [if_pos h, if_pos (by omega), h.1, h.2]
  . rw [if_neg h]
    by_cases h2 : k < a /\ k < b /\ (a < i \/ a = i /\ b < j)
    . rw [if_pos h2, if_pos (by omega)]
    . rw [if_neg h2, if_neg (by omega)]
theorem evM_row (n : Nat) (m : Mx) (k i : Nat) : mtL n (evM m k i n) = mtL n (evM m k (i + 1) (k + 1)) := mtL_congr fun a b _ hb => by
  unfold evM
  by_cases h2 : k < a /\ k < b /\ (a < i \/ a = i /\ b < n)
  . rw [if_pos h2, if_pos (by omega)]
  . rw [if_neg h2, if_neg (by omega)]
theorem evM_next (n : Nat) (m : Mx) (k : Nat) : mtL n (evM m k n (k + 1)) = mtL n (evM m (k + 1) (k + 2) (k + 2)) := mtL_congr fun a b ha _ => by
  unfold evM
  rw [if_neg (c := k + 1 < a /\ _) (by omega)]
  by_cases h2 : k < a /\ k < b
  . rw [if_pos (by omega), show min (k + 1) (min a b) = k + 1 by omega]
  . rw [if_neg (by omega), show min (k + 1) (min a b) = min k (min a b) by omega]
theorem evM_ij {m : Mx} {k i j : Nat} (hi : k < i) (hj : k < j) : evM m k i j i j = lv m k i j := by
  unfold evM; rw [if_neg (by omega), show min k (min i j) = k by omega]
theorem evM_kk {m : Mx} {k i j : Nat} : evM m k i j k k = lv m k k k := by
  unfold evM; rw [if_neg (by omega), show min k (min k k) = k by omega]
theorem evM_ik {m : Mx} {k i j : Nat} (hi : k < i) : evM m k i j i k = lv m k i k := by
  unfold evM; rw [if_neg (by omega), show min k (min i k) = k by omega]
theorem evM_kj {m : Mx} {k i j : Nat} (hj : k < j) : evM m k i j k j = lv m k k j := by
  unfold evM; rw [if_neg (by omega), show min k (min k j) = k by omega]
theorem pv_det (m : Mx) : ∀ n : Nat, pv m n = det n m
  | 0 => rfl
  | n + 1 => lv_last m n
theorem pw3_le {c : Int} (h0 : 0 <= c) (h3 : c <= 3) : ∀ k : Nat, k <= 10 -> 0 <= c ^ k /\ c ^ k <= 59049 := fun k hk => by
  have : c = 0 \/ c = 1 \/ c = 2 \/ c = 3 := by omega
  have hk' : k = 0 \/ k = 1 \/ k = 2 \/ k = 3 \/ k = 4 \/ k = 5 \/ k = 6 \/ k = 7 \/ k = 8 \/ k = 9 \/ k = 10 := by omega
  rcases this with rfl | rfl | rfl | rfl <;> rcases hk' with rfl | rfl | rfl | rfl | rfl | rfl | rfl | rfl | rfl | rfl | rfl <;> decide
theorem lv_bound {m : Mx} {n k i j : Nat} {c : Int} (h : Dom m n c 0) (h0 : 0 <= c) (h3 : c <= 3) (hn : n <= 10) (hi : k <= i) (hi2 : i < n) (hj : k <= j) (hj2 : j < n) : -200000 <= lv m k i j /\ lv m k i j <= 200000 := by
  have d := (h.all k (by omega)).1
  have a := d.ent hi hi2 hj hj2
  have b := d.dia i hi hi2
  have p := h.bound h0 k (by omega)
  have q := pw3_le h0 h3 k (by omega)
  have e : c * pv m k <= 177147 := by
    have := Int.mul_le_mul h3 (show pv m k <= 59049 by omega) (Int.le_of_lt d.pos) (by omega)
    omega
  by_cases hij : i = j
  . subst hij; omega
  . have := d.off i j hi hi2 hj hj2 hij
    omega
theorem mul_bd {x y : Int} (hx : -200000 <= x /\ x <= 200000) (hy : -200000 <= y /\ y <= 200000) : -40000000000 <= x * y /\ x * y <= 40000000000 := by
  have h : (x * y).natAbs <= 200000 * 200000 := by
    rw [Int.natAbs_mul]
    exact Nat.mul_le_mul (by omega) (by omega)
  omega
theorem lv_quo {m : Mx} {n k i j : Nat} {c : Int} (h : Dom m n c 0) (hi : k < i) (hi2 : i < n) (hj : k < j) (hj2 : j < n) : (lv m k i j * lv m k k k - lv m k i k * lv m k k j).tdiv (pv m k) = lv m (k + 1) i j := by
  have d := h.all k (by omega)
  rw [Int.mul_comm (lv m k i j), bareiss k d.2 hi hj, Int.mul_tdiv_cancel _ (by have := d.1.pos; omega)]
end Go.Proofs.YtckpadnjldebaaaGreat
namespace Go.Proofs.YtckpadnjldebaaaGreat
set_option linter.unusedVariables false
open Gw
def Rc (nx : List (List Int)) (q t : Int) : Prop := ∃ w : List Int, (∀ l ∈ w, 0 <= l /\ l < nx.length) /\ runS nx q w = t
open Classical in
noncomputable def rcL (s : Int) (nx : List (List Int)) (q : Int) : List Int := (mk1 0 s.toNat).filter fun t => decide (Rc nx q t)
theorem mk1_mem {n : Nat} {x : Int} : x ∈ mk1 0 n ↔ 0 <= x /\ x < n := by
  rw [List.mem_iff_getElem?]
  constructor
  . rintro ⟨i, hi⟩
    have hlt := (List.getElem?_eq_some_iff.1 hi).1
    rw [mk1_length] at hlt
    rw [mk1_get _ _ _ hlt] at hi
    have := Option.some.inj hi
    omega
  . rintro ⟨h1, h2⟩
    exact ⟨x.toNat, by rw [mk1_get _ _ _ (by omega)]; congr 1; omega⟩
theorem rc_rng {s o : Int} {nx : List (List Int)} (h : Tbl s s nx) {q t : Int} (hq : 0 <= q /\ q < s) : Rc nx q t -> 0 <= t /\ t < s := by
  rintro ⟨w, hw, rfl⟩
  induction w generalizing q with
  | nil => exact hq
  | cons l w ih => exact ih (q := at2 nx l q) (tbl_at h (hw l (List.mem_cons_self ..)) hq) fun x hx => hw x (List.mem_cons_of_mem _ hx)
theorem rc_refl {nx : List (List Int)} {q : Int} : Rc nx q q := ⟨[], by simp, rfl⟩
theorem runS_app' (nx : List (List Int)) : ∀ (u v : List Int) (q : Int), runS nx q (u ++ v) = runS nx (runS nx q u) v
  | [], _, _ => rfl
  | l :: u, v, q => runS_app' nx u v (at2 nx l q)
theorem rc_step {nx : List (List Int)} {q t l : Int} (h : Rc nx q t) (hl : 0 <= l /\ l < nx.length) : Rc nx q (at2 nx l t) := by
  obtain ⟨w, hw, rfl⟩ := h
  refine ⟨w ++ [l], fun x hx => (List.mem_append.1 hx).elim (hw x) fun h => ?_, ?_⟩
  . rw [List.mem_singleton.1 h]; exact hl
  . rw [runS_app']; rfl
theorem rcL_ris (s : Int) (nx : List (List Int)) (q : Int) : (rcL s nx q).Pairwise (· < ·) := List.Pairwise.filter _ (mk1_pairwise _ _)
theorem rcL_mem {s q t : Int} {nx : List (List Int)} (h : Tbl s s nx) (hs : 1 <= s) (hq : 0 <= q /\ q < s) : t ∈ rcL s nx q ↔ Rc nx q t := by
  unfold rcL
  rw [List.mem_filter, mk1_mem, @decide_eq_true_eq _ (Classical.propDecidable _)]
  exact ⟨fun x => x.2, fun x => ⟨by have := rc_rng (o := 0) h hq x; omega, x⟩⟩
theorem rc_closed {s q : Int} {nx : List (List Int)} {out : List Int} (hq : q ∈ out) (hc : ∀ t ∈ out, ∀ l : Int, 0 <= l /\ l < nx.length -> at2 nx l t ∈ out) : ∀ {t : Int}, Rc nx q t -> t ∈ out := by
  rintro t ⟨w, hw, rfl⟩
  induction w generalizing q with
  | nil => exact hq
  | cons l w ih => exact ih (q := at2 nx l q) (hc q hq l (hw l (List.mem_cons_self ..))) fun x hx => hw x (List.mem_cons_of_mem _ hx)
theorem nd_len : ∀ (n : Nat) {l : List Int}, l.Nodup -> (∀ x ∈ l, 0 <= x /\ x < n) -> l.length <= n
  | 0, l, _, h => by
    cases l with
    | nil => simp
    | cons x l => have := h x (List.mem_cons_self ..); omega
  | n + 1, l, hn, h => by
    by_cases hm : (n : Int) ∈ l
    . have := nd_len n (l := l.erase (n : Int)) (hn.erase _) fun x hx => by
        have h1 := (List.Nodup.mem_erase_iff hn).1 hx
        have h2 := h x h1.2
        have h3 := h1.1
        omega
      rw [List.length_erase_of_mem hm] at this
      omega
    . have := nd_len n hn fun x hx => by
        have h2 := h x hx
        have h3 : x ≠ n := fun e => hm (e ▸ hx)
        omega
      omega
theorem ris_nd {l : List Int} (h : l.Pairwise (· < ·)) : l.Nodup := h.imp fun hab => by omega
theorem nd_snoc {l : List Int} {x : Int} (h : l.Nodup) (hx : x ∉ l) : (l ++ [x]).Nodup := by
  rw [List.nodup_append]
  refine ⟨h, by simp, fun a ha b hb => ?_⟩
  rw [List.mem_singleton.1 hb]
  exact fun e => hx (e ▸ ha)
structure Bf (s q : Int) (nx : List (List Int)) (out : List Int) : Prop where
  nd : out.Nodup
  mem : q ∈ out
  rc : ∀ t ∈ out, Rc nx q t
theorem Bf.rng {s q : Int} {nx : List (List Int)} {out : List Int} (b : Bf s q nx out) (h : Tbl s s nx) (hq : 0 <= q /\ q < s) : ∀ t ∈ out, 0 <= t /\ t < s := fun t ht => rc_rng (o := 0) h hq (b.rc t ht)
theorem Bf.len {s q : Int} {nx : List (List Int)} {out : List Int} (b : Bf s q nx out) (h : Tbl s s nx) (hq : 0 <= q /\ q < s) : out.length <= s.toNat := nd_len _ b.nd fun t ht => by have := b.rng h hq t ht; omega
theorem rcL_length {s q : Int} {nx : List (List Int)} (hs : 1 <= s) : (rcL s nx q).length <= s.toNat := by
  have := List.length_filter_le (fun t => @decide (Rc nx q t) (Classical.propDecidable _)) (mk1 0 s.toNat)
  rw [mk1_length] at this
  exact this
theorem rcL_full {s q : Int} {nx : List (List Int)} (hs : 1 <= s) : (rcL s nx q).length = s.toNat ↔ ∀ t, 0 <= t -> t < s -> Rc nx q t := by
  classical
  have e : (mk1 0 s.toNat).length = s.toNat := mk1_length _ _
  constructor
  . intro h t h0 h1
    have : (mk1 0 s.toNat).filter (fun t => @decide (Rc nx q t) (Classical.propDecidable _)) = mk1 0 s.toNat := by
      refine List.Sublist.eq_of_length List.filter_sublist ?_
      rw [e]; exact h
    have hm : t ∈ mk1 0 s.toNat := mk1_mem.2 (by omega)
    rw [<- this] at hm
    exact of_decide_eq_true (List.mem_filter.1 hm).2
  . intro h
    unfold rcL
    rw [List.filter_eq_self.2 fun t ht => by
      have := mk1_mem.1 ht
      exact decide_eq_true (h t (by omega) (by omega)), e]
def Cn (s : Int) (nx : List (List Int)) : Prop := ∀ q, 0 <= q -> q < s -> (rcL s nx q).length = s.toNat
open Classical in
noncomputable def cnB (s : Int) (nx : List (List Int)) : Bool := decide (Cn s nx)
def dl (nx : List (List Int)) : Nat -> Nat -> Nat := fun x i => (at2 nx (x : Nat) (i : Nat)).toNat
def lapA (nx : List (List Int)) : Mx := lap nx.length (dl nx)
theorem rn_runS {s : Int} {nx : List (List Int)} (h : Tbl s s nx) : ∀ (w : List Int) {q : Int}, (∀ l ∈ w, 0 <= l /\ l < nx.length) -> 0 <= q /\ q < s -> rn (dl nx) (w.map Int.toNat) q.toNat = (runS nx q w).toNat
  | [], _, _, _ => rfl
  | l :: w, q, hw, hq => by
    have hl := hw l (List.mem_cons_self ..)
    have hn := tbl_at h hl hq
    show rn (dl nx) (w.map Int.toNat) (dl nx l.toNat q.toNat) = (runS nx (at2 nx l q) w).toNat
    rw [show dl nx l.toNat q.toNat = (at2 nx l q).toNat by unfold dl; rw [show ((l.toNat : Nat) : Int) = l by omega, show ((q.toNat : Nat) : Int) = q by omega]]
    exact rn_runS h w (fun x hx => hw x (List.mem_cons_of_mem _ hx)) hn
theorem con_of {s : Int} {nx : List (List Int)} {lp : List Int} (v : LV s nx lp) (hc : Cn s nx) : Con s.toNat nx.length (dl nx) := by
  have hs := v.s1
  refine ⟨fun x i hx hi => ?_, fun i j hi hj => ?_⟩
  . have := tbl_at v.nx (l := (x : Int)) (q := (i : Int)) (by omega) (by omega)
    unfold dl
    omega
  . obtain ⟨w, hw, e⟩ := (rcL_full (nx := nx) hs.1).1 (hc i (by omega) (by omega)) j (by omega) (by omega)
    refine ⟨w.map Int.toNat, fun x hx => ?_, ?_⟩
    . obtain ⟨y, hy, rfl⟩ := List.mem_map.1 hx
      have := hw y hy
      omega
    . have := rn_runS v.nx w (q := (i : Int)) hw (by omega)
      rw [Int.toNat_natCast, e, Int.toNat_natCast] at this
      exact this
def wtQ (s : Int) (nx : List (List Int)) (i : Nat) : Int := wt (s.toNat - 1) (lapA nx) i
theorem wtQ_dom {s : Int} {nx : List (List Int)} {lp : List Int} (v : LV s nx lp) (hc : Cn s nx) {i : Nat} (hi : i < s.toNat) : Dom (fun r c => lapA nx (sk i r) (sk i c)) (s.toNat - 1) nx.length 0 := by
  have hs := v.s1
  exact lap_dom (n := s.toNat - 1) (by rw [show s.toNat - 1 + 1 = s.toNat by omega]; exact con_of v hc) (by omega)
theorem wtQ_pos {s : Int} {nx : List (List Int)} {lp : List Int} (v : LV s nx lp) (hc : Cn s nx) {i : Nat} (hi : i < s.toNat) : 0 < wtQ s nx i /\ wtQ s nx i <= 59049 := by
  have hs := v.s1
  have hn := v.n1
  have hd := wtQ_dom v hc hi
  have e : wtQ s nx i = pv (fun r c => lapA nx (sk i r) (sk i c)) (s.toNat - 1) := (pv_det _ _).symm
  rw [e]
  have b := hd.bound (by omega) (s.toNat - 1) (Nat.le_refl _)
  have p := pw3_le (c := nx.length) (by omega) (by omega) (s.toNat - 1) (by omega)
  exact ⟨(hd.all _ (Nat.le_refl _)).1.pos, by omega⟩
def gS (s : Int) (nx : List (List Int)) : Nat -> Int
  | 0 => 0
  | k + 1 => Int.gcd (gS s nx k) (wtQ s nx k)
theorem gS_nn {s : Int} {nx : List (List Int)} : ∀ k, 0 <= gS s nx k
  | 0 => Int.le_refl _
  | _ + 1 => Int.natCast_nonneg _
theorem gS_dvd {s : Int} {nx : List (List Int)} : ∀ (k i : Nat), i < k -> gS s nx k ∣ wtQ s nx i
  | k + 1, i, h => by
    by_cases hik : i = k
    . subst hik; exact Int.gcd_dvd_right _ _
    . exact Int.dvd_trans (Int.gcd_dvd_left _ _) (gS_dvd k i (by omega))
theorem gS_pos {s : Int} {nx : List (List Int)} {lp : List Int} (v : LV s nx lp) (hc : Cn s nx) : 0 < gS s nx s.toNat := by
  have hs := v.s1
  have h0 := (wtQ_pos v hc (i := 0) (by omega)).1
  have d := gS_dvd (s := s) (nx := nx) s.toNat 0 (by omega)
  have n := gS_nn (s := s) (nx := nx) s.toNat
  by_cases hz : gS s nx s.toNat = 0
  . rw [hz] at d
    have := Int.zero_dvd.1 d
    omega
  . omega
theorem gS_le {s : Int} {nx : List (List Int)} {lp : List Int} (v : LV s nx lp) (hc : Cn s nx) : ∀ k, k <= s.toNat -> gS s nx k <= 59049
  | 0, _ => by simp [gS]
  | k + 1, hk => by
    have h0 := wtQ_pos v hc (i := k) (by omega)
    have d := gS_dvd (s := s) (nx := nx) (k + 1) k (by omega)
    have := Int.le_of_dvd h0.1 d
    omega
def wN (s : Int) (nx : List (List Int)) (i : Nat) : Int := wtQ s nx i / gS s nx s.toNat
theorem wN_mul {s : Int} {nx : List (List Int)} {i : Nat} (hi : i < s.toNat) : wtQ s nx i = gS s nx s.toNat * wN s nx i := (Int.mul_ediv_cancel' (gS_dvd _ _ hi)).symm
theorem wN_pos {s : Int} {nx : List (List Int)} {lp : List Int} (v : LV s nx lp) (hc : Cn s nx) {i : Nat} (hi : i < s.toNat) : 0 < wN s nx i /\ wN s nx i <= 59049 := by
  have a := wtQ_pos v hc hi
  have g := gS_pos v hc
  have e := wN_mul (s := s) (nx := nx) hi
  have hp : 0 < wN s nx i := by
    refine Int.not_le.1 fun h => ?_
    have := Int.mul_nonneg (Int.le_of_lt g) (show 0 <= - wN s nx i by omega)
    rw [Int.mul_neg] at this
    omega
  have := Int.mul_le_mul_of_nonneg_right (show 1 <= gS s nx s.toNat by omega) (Int.le_of_lt hp)
  exact ⟨hp, by omega⟩
theorem wN_bal {s : Int} {nx : List (List Int)} {lp : List Int} (v : LV s nx lp) (hc : Cn s nx) {j : Nat} (hj : j < s.toNat) : sm s.toNat (fun i => wN s nx i * lapA nx i j) = 0 := by
  have hs := v.s1
  have g := gS_pos v hc
  have c := con_of v hc
  obtain ⟨n, hn⟩ : ∃ n, s.toNat = n + 1 := ⟨s.toNat - 1, by omega⟩
  have e := wt_null (n := n) (m := lapA nx) (t := j) (fun i hi => lap_row (N := n + 1) (by rw [<- hn]; exact c) hi) (by omega)
  have e2 : sm (n + 1) (fun i => wt n (lapA nx) i * lapA nx i j) = gS s nx s.toNat * sm (n + 1) (fun i => wN s nx i * lapA nx i j) := by
    rw [<- sm_mul]
    refine sm_congr fun i hi => ?_
    have := wN_mul (s := s) (nx := nx) (i := i) (by omega)
    rw [show wt n (lapA nx) i = wtQ s nx i by unfold wtQ; rw [hn]; rfl, this, Int.mul_assoc]
  rw [e2] at e
  rw [hn]
  exact (Int.mul_eq_zero.1 e).resolve_left (by omega)
def wnL (s : Int) (nx : List (List Int)) : List Int := (List.range s.toNat).map (wN s nx)
def wsL (s : Int) (nx : List (List Int)) (l : List Int) : Int := (l.map fun x => wN s nx x.toNat).sum
theorem wsL_sm {s : Int} {nx : List (List Int)} {N : Nat} : ∀ {l : List Int}, l.Nodup -> (∀ x ∈ l, 0 <= x /\ x < N) -> wsL s nx l = ws N (wN s nx) fun i => decide ((i : Int) ∈ l)
  | [], _, _ => by
    unfold wsL ws
    rw [sm_zero fun i _ => by simp]
    rfl
  | x :: l, hn, hr => by
    have hn' := List.nodup_cons.1 hn
    have hx := hr x (List.mem_cons_self ..)
    have ih := wsL_sm (s := s) (nx := nx) (N := N) hn'.2 fun y hy => hr y (List.mem_cons_of_mem _ hy)
    have e : ws N (wN s nx) (fun i => decide ((i : Int) ∈ x :: l)) = sm N fun i => (if x.toNat = i then 1 else 0) * wN s nx i + if decide ((i : Int) ∈ l) then wN s nx i else 0 := sm_congr fun i hi => by
      by_cases hxi : x.toNat = i
      . have hix : (i : Int) = x := by omega
        have d1 : decide ((i : Int) ∈ x :: l) = true := by rw [hix]; simp
        have d2 : ¬ decide ((i : Int) ∈ l) = true := by rw [hix]; simp [hn'.1]
        rw [if_pos hxi, if_pos d1, if_neg d2, Int.one_mul, Int.add_zero]
      . have hix : (i : Int) ≠ x := by omega
        rw [if_neg hxi, Int.zero_mul, Int.zero_add]
        by_cases hm : (i : Int) ∈ l
        . rw [if_pos (decide_eq_true (List.mem_cons_of_mem _ hm)), if_pos (decide_eq_true hm)]
        . rw [if_neg (by simp [hix, hm]), if_neg (by simp [hm])]
    rw [e, sm_add, sm_pick _ (by omega), show sm N (fun i => if decide ((i : Int) ∈ l) then wN s nx i else 0) = ws N (wN s nx) fun i => decide ((i : Int) ∈ l) from rfl, <- ih]
    rfl
theorem wsL_le {s : Int} {nx : List (List Int)} {lp : List Int} (v : LV s nx lp) (hc : Cn s nx) {l : List Int} (hr : ∀ x ∈ l, 0 <= x /\ x < s) : 0 <= wsL s nx l /\ wsL s nx l <= 59049 * l.length := by
  induction l with
  | nil => exact ⟨Int.le_refl _, Int.le_refl _⟩
  | cons x l ih =>
    have := ih fun y hy => hr y (List.mem_cons_of_mem _ hy)
    have hx := hr x (List.mem_cons_self ..)
    have p := wN_pos v hc (i := x.toNat) (by omega)
    have e : wsL s nx (x :: l) = wN s nx x.toNat + wsL s nx l := rfl
    have f : ((x :: l).length : Int) = l.length + 1 := by simp
    rw [e, f]
    omega
end Go.Proofs.YtckpadnjldebaaaGreat
namespace Go.Proofs.YtckpadnjldebaaaGreat
set_option linter.unusedVariables false
def seF (seen : List Int) : List Int -> List Int
  | [] => seen
  | c :: cs => if c ∈ seen then seF seen cs else seF (seen ++ [c]) cs
def nuF (seen : List Int) : List Int -> List Int
  | [] => []
  | c :: cs => (((if c ∈ seen then seen else seen ++ [c]).idxOf c : Nat) : Int) :: nuF (if c ∈ seen then seen else seen ++ [c]) cs
def numL (l : List Int) : List Int := nuF [] l
def fin (l : List Int) : List Int := seF [] l
theorem seF_pre : ∀ (l seen : List Int), ∃ r, seF seen l = seen ++ r
  | [], seen => ⟨[], (List.append_nil _).symm⟩
  | c :: cs, seen => by
    unfold seF
    split
    . exact seF_pre cs seen
    . obtain ⟨r, h⟩ := seF_pre cs (seen ++ [c])
      exact ⟨c :: r, by rw [h, List.append_assoc]; rfl⟩
theorem seF_mem : ∀ (l seen : List Int) (x : Int), x ∈ seF seen l ↔ x ∈ seen \/ x ∈ l
  | [], seen, x => by simp [seF]
  | c :: cs, seen, x => by
    unfold seF
    split
    . rename_i h
      rw [seF_mem cs seen x, List.mem_cons]
      constructor
      . rintro (h1 | h1); exact .inl h1; exact .inr (.inr h1)
      . rintro (h1 | rfl | h1); exact .inl h1; exact .inl h; exact .inr h1
    . rw [seF_mem cs _ x, List.mem_append, List.mem_singleton, List.mem_cons, or_assoc]
theorem seF_nd : ∀ (l : List Int) {seen : List Int}, seen.Nodup -> (seF seen l).Nodup
  | [], _, h => h
  | c :: cs, seen, h => by
    unfold seF
    split
    . exact seF_nd cs h
    . rename_i hc; exact seF_nd cs (nd_snoc h hc)
theorem nuF_map : ∀ (l seen : List Int), nuF seen l = l.map fun c => (((seF seen l).idxOf c : Nat) : Int)
  | [], _ => rfl
  | c :: cs, seen => by
    have h : nuF seen (c :: cs) = (((if c ∈ seen then seen else seen ++ [c]).idxOf c : Nat) : Int) :: nuF (if c ∈ seen then seen else seen ++ [c]) cs := rfl
    have e : seF seen (c :: cs) = seF (if c ∈ seen then seen else seen ++ [c]) cs := by
      show (if c ∈ seen then _ else _) = _
      split <;> rfl
    rw [h, e, nuF_map cs, List.map_cons]
    obtain ⟨r, hr⟩ := seF_pre cs (if c ∈ seen then seen else seen ++ [c])
    have hm : c ∈ (if c ∈ seen then seen else seen ++ [c]) := by
      split
      . assumption
      . simp
    rw [hr, List.idxOf_append, if_pos hm]
theorem numL_map (l : List Int) : numL l = l.map fun c => (((fin l).idxOf c : Nat) : Int) := nuF_map l []
theorem numL_length (l : List Int) : (numL l).length = l.length := by rw [numL_map, List.length_map]
theorem fin_mem {l : List Int} {x : Int} : x ∈ fin l ↔ x ∈ l := by
  unfold fin
  rw [seF_mem]
  simp
theorem fin_nd (l : List Int) : (fin l).Nodup := seF_nd l List.nodup_nil
theorem nuF_rgs : ∀ (l seen : List Int) (i : Nat) (c : Int), (nuF seen l)[i]? = some c -> 0 <= c /\ c <= seen.length + i
  | [], _, _, _, h => by simp [nuF] at h
  | d :: cs, seen, 0, c, h => by
    have h : some ((((if d ∈ seen then seen else seen ++ [d]).idxOf d : Nat) : Int)) = some c := h
    have h := Option.some.inj h
    have : (if d ∈ seen then seen else seen ++ [d]).idxOf d <= seen.length := by
      split
      . rename_i hm
        exact Nat.le_of_lt (List.idxOf_lt_length_iff.2 hm)
      . rename_i hm
        rw [List.idxOf_append, if_neg hm]
        simp
    omega
  | d :: cs, seen, i + 1, c, h => by
    have h : (nuF (if d ∈ seen then seen else seen ++ [d]) cs)[i]? = some c := h
    have := nuF_rgs cs _ i c h
    have hl : (if d ∈ seen then seen else seen ++ [d]).length <= seen.length + 1 := by split <;> simp
    omega
theorem seF_map {f : Int -> Int} : ∀ (l seen : List Int), (∀ a b, (a ∈ seen \/ a ∈ l) -> (b ∈ seen \/ b ∈ l) -> f a = f b -> a = b) -> seF (seen.map f) (l.map f) = (seF seen l).map f /\ nuF (seen.map f) (l.map f) = nuF seen l
  | [], _, _ => ⟨rfl, rfl⟩
  | c :: cs, seen, h => by
    have hc : (f c ∈ seen.map f) ↔ c ∈ seen := by
      rw [List.mem_map]
      exact ⟨fun ⟨a, ha, e⟩ => h a c (.inl ha) (.inr (List.mem_cons_self ..)) e ▸ ha, fun hm => ⟨c, hm, rfl⟩⟩
    have hif : (if f c ∈ seen.map f then seen.map f else seen.map f ++ [f c]) = (if c ∈ seen then seen else seen ++ [c]).map f := by
      by_cases hm : c ∈ seen
      . rw [if_pos hm, if_pos (hc.2 hm)]
      . rw [if_neg hm, if_neg (fun x => hm (hc.1 x)), List.map_append]; rfl
    have hin : ∀ a, (a ∈ (if c ∈ seen then seen else seen ++ [c]) \/ a ∈ cs) -> a ∈ seen \/ a ∈ c :: cs := fun a ha => by
      rcases ha with ha | ha
      . split at ha
        . exact .inl ha
        . rcases List.mem_append.1 ha with h1 | h1
          . exact .inl h1
          . rw [List.mem_singleton.1 h1]; exact .inr (List.mem_cons_self ..)
      . exact .inr (List.mem_cons_of_mem _ ha)
    obtain ⟨i1, i2⟩ := seF_map cs (if c ∈ seen then seen else seen ++ [c]) fun a b ha hb e => h a b (hin a ha) (hin b hb) e
    have s1 : seF (seen.map f) (f c :: cs.map f) = seF (if f c ∈ seen.map f then seen.map f else seen.map f ++ [f c]) (cs.map f) := by
      show (if f c ∈ seen.map f then _ else _) = _
      split <;> rfl
    have s2 : seF seen (c :: cs) = seF (if c ∈ seen then seen else seen ++ [c]) cs := by
      show (if c ∈ seen then _ else _) = _
      split <;> rfl
    rw [List.map_cons]
    refine ⟨by rw [s1, s2, hif, i1], ?_⟩
    show (((if f c ∈ seen.map f then seen.map f else seen.map f ++ [f c]).idxOf (f c) : Nat) : Int) :: nuF (if f c ∈ seen.map f then seen.map f else seen.map f ++ [f c]) (cs.map f) = (((if c ∈ seen then seen else seen ++ [c]).idxOf c : Nat) : Int) :: nuF (if c ∈ seen then seen else seen ++ [c]) cs
    rw [hif, i2]
    congr 2
    have idx : ∀ t : List Int, (∀ a ∈ t, f a = f c -> a = c) -> (t.map f).idxOf (f c) = t.idxOf c := fun t => by
      induction t with
      | nil => intro _; rfl
      | cons y t ih =>
        intro ht
        rw [List.map_cons, List.idxOf_cons, List.idxOf_cons]
        by_cases hy : y = c
        . subst hy; simp
        . have hfy : f y ≠ f c := fun e => hy (ht y (List.mem_cons_self ..) e)
          rw [show (f y == f c) = false by simp [hfy], show (y == c) = false by simp [hy], ih fun a ha => ht a (List.mem_cons_of_mem _ ha)]
    exact idx _ fun a ha e => h a c (hin a (.inl ha)) (.inr (List.mem_cons_self ..)) e
theorem numL_inj {f : Int -> Int} {l : List Int} (h : ∀ a b, a ∈ l -> b ∈ l -> f a = f b -> a = b) : numL (l.map f) = numL l :=
  (seF_map l [] fun a b ha hb => h a b (by simpa using ha) (by simpa using hb)).2
def encL : Nat -> List Int -> Nat
  | _, [] => 0
  | b, c :: cs => c.toNat + (b + 1) * encL (b + 1) cs
def encB : Nat -> Nat -> Nat
  | _, 0 => 1
  | b, n + 1 => (b + 1) * encB (b + 1) n
theorem encL_lt : ∀ (l : List Int) (b : Nat), (∀ (i : Nat) (c : Int), l[i]? = some c -> 0 <= c /\ c <= (b + i : Nat)) -> encL b l < encB b l.length
  | [], _, _ => Nat.one_pos
  | c :: cs, b, h => by
    have h0 := h 0 c rfl
    have ih := encL_lt cs (b + 1) fun i d hd => by
      have := h (i + 1) d hd
      omega
    show c.toNat + (b + 1) * encL (b + 1) cs < (b + 1) * encB (b + 1) cs.length
    have := Nat.mul_le_mul_left (b + 1) (Nat.succ_le_of_lt ih)
    rw [Nat.mul_succ] at this
    omega
theorem encL_inj : ∀ (l k : List Int) (b : Nat), l.length = k.length -> (∀ (i : Nat) (c : Int), l[i]? = some c -> 0 <= c /\ c <= (b + i : Nat)) -> (∀ (i : Nat) (c : Int), k[i]? = some c -> 0 <= c /\ c <= (b + i : Nat)) -> encL b l = encL b k -> l = k
  | [], [], _, _, _, _, _ => rfl
  | [], _ :: _, _, h, _, _, _ => by cases h
  | _ :: _, [], _, h, _, _, _ => by cases h
  | c :: cs, d :: ds, b, hl, h1, h2, e => by
    have a1 := h1 0 c rfl
    have a2 := h2 0 d rfl
    have e : c.toNat + (b + 1) * encL (b + 1) cs = d.toNat + (b + 1) * encL (b + 1) ds := e
    have m := congrArg (· % (b + 1)) e
    simp only [Nat.add_mul_mod_self_left] at m
    rw [Nat.mod_eq_of_lt (by omega), Nat.mod_eq_of_lt (by omega)] at m
    have e3 : (b + 1) * encL (b + 1) cs = (b + 1) * encL (b + 1) ds := by omega
    have e4 := Nat.eq_of_mul_eq_mul_left (by omega) e3
    rw [show c = d by omega, encL_inj cs ds (b + 1) (by simpa using hl) (fun i x hx => by have := h1 (i + 1) x hx; omega) (fun i x hx => by have := h2 (i + 1) x hx; omega) e4]
theorem sub_len : ∀ {A B : List Int}, B.Nodup -> (∀ x ∈ B, x ∈ A) -> B.length <= A.length
  | _, [], _, _ => Nat.zero_le _
  | A, x :: B, hn, h => by
    have hn' := List.nodup_cons.1 hn
    have hx := h x (List.mem_cons_self ..)
    have := sub_len (A := A.erase x) (B := B) hn'.2 fun y hy => (List.mem_erase_of_ne (show y ≠ x from fun e => hn'.1 (e ▸ hy))).2 (h y (List.mem_cons_of_mem _ hy))
    rw [List.length_erase_of_mem hx] at this
    have : 0 < A.length := List.length_pos_of_mem hx
    simp only [List.length_cons]
    omega
theorem fin_inj {g : Int -> Int} {l : List Int} (h : (fin l).length <= (fin (l.map g)).length) {a b : Int} (ha : a ∈ l) (hb : b ∈ l) (e : g a = g b) : a = b := by
  refine Classical.byContradiction fun hne => ?_
  have hb' := fin_mem.2 hb
  have := sub_len (A := ((fin l).erase b).map g) (B := fin (l.map g)) (fin_nd _) fun x hx => by
    obtain ⟨y, hy, rfl⟩ := List.mem_map.1 (fin_mem.1 hx)
    rw [List.mem_map]
    by_cases hyb : y = b
    . subst hyb
      exact ⟨a, (List.mem_erase_of_ne hne).2 (fin_mem.2 ha), e⟩
    . exact ⟨y, (List.mem_erase_of_ne hyb).2 (fin_mem.2 hy), rfl⟩
  rw [List.length_map, List.length_erase_of_mem hb'] at this
  have : 0 < (fin l).length := List.length_pos_of_mem hb'
  omega
end Go.Proofs.YtckpadnjldebaaaGreat
