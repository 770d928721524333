/- What can be believed from a set on, and the entries of maps: plain facts. No condition. -/
import Derived.Test.YtkomkhigcdkpdaaDd
namespace Go.Proofs.Ytkomkhigcdkpdaa
open Go
attribute [local irreducible] awp awpL awpQL awpQ awpM pWalk Qt AC thenQ blockQ loopQ OpTo
set_option linter.unusedVariables false
set_option linter.unusedSimpArgs false
set_option maxHeartbeats 2000000
attribute [local irreducible] HC

/-! ### All that can be believed -/

def addL (l : List Nat) (g : Nat) : List Nat := if g ∈ l then l else l ++ [g]
def lampN (b : Nat → Nat) (l : List Nat) : Nat → List Nat
  | 0 => l
  | y + 1 => addL (lampN b l y) (b y)
def letN (b : Nat → Nat → Nat) (l : List Nat) : Nat → List Nat
  | 0 => l
  | x + 1 => lampN (b x) (letN b l x) 4
def cloI (bl : Nat → Nat → Nat → Nat) (n fr : Nat) : Nat → List Nat
  | 0 => [fr]
  | i + 1 => match (cloI bl n fr i)[i]? with
    | some f => letN (bl f) (cloI bl n fr i) n
    | none => cloI bl n fr i

structure LOk (N fr : Nat) (l : List Nat) : Prop where
  nd : l.Nodup
  lt : ∀ f ∈ l, f < N
  fr : fr ∈ l

theorem LOk.len {N fr : Nat} {l : List Nat} (h : LOk N fr l) : l.length ≤ N := nodup_le N l h.nd h.lt

theorem addL_pre (l : List Nat) (g : Nat) : ∃ t, addL l g = l ++ t := by
  unfold addL
  split
  · exact ⟨[], by simp⟩
  · exact ⟨[g], rfl⟩
theorem addL_mem (l : List Nat) (g : Nat) : g ∈ addL l g := by
  unfold addL
  split
  · assumption
  · simp
theorem addL_ok {N fr g : Nat} {l : List Nat} (h : LOk N fr l) (hg : g < N) : LOk N fr (addL l g) := by
  unfold addL
  split
  · exact h
  · rename_i hn
    refine ⟨List.nodup_append.2 ⟨h.nd, by simp, fun a ha b hb => ?_⟩, fun f hf => ?_, List.mem_append.2 (.inl h.fr)⟩
    · simp only [List.mem_singleton] at hb
      subst hb
      exact fun e => hn (e ▸ ha)
    · rcases List.mem_append.1 hf with h1 | h1
      · exact h.lt f h1
      · simp only [List.mem_singleton] at h1; omega
theorem lampN_pre (b : Nat → Nat) (l : List Nat) : ∀ k, ∃ t, lampN b l k = l ++ t
  | 0 => ⟨[], by simp [lampN]⟩
  | k + 1 => by
    obtain ⟨t, ht⟩ := lampN_pre b l k
    obtain ⟨u, hu⟩ := addL_pre (lampN b l k) (b k)
    exact ⟨t ++ u, by show addL _ _ = _; rw [hu, ht, List.append_assoc]⟩
theorem lampN_ok {N fr : Nat} {b : Nat → Nat} {l : List Nat} (h : LOk N fr l) : ∀ k, (∀ y, y < k → b y < N) → LOk N fr (lampN b l k)
  | 0, _ => h
  | k + 1, hb => addL_ok (lampN_ok h k fun y hy => hb y (by omega)) (hb k (by omega))
theorem lampN_mem (b : Nat → Nat) (l : List Nat) : ∀ k y, y < k → b y ∈ lampN b l k
  | k + 1, y, hy => by
    by_cases e : y = k
    · subst e; exact addL_mem _ _
    · obtain ⟨t, ht⟩ := addL_pre (lampN b l k) (b k)
      show _ ∈ addL _ _
      rw [ht]
      exact List.mem_append.2 (.inl (lampN_mem b l k y (by omega)))
theorem letN_pre (b : Nat → Nat → Nat) (l : List Nat) : ∀ k, ∃ t, letN b l k = l ++ t
  | 0 => ⟨[], by simp [letN]⟩
  | k + 1 => by
    obtain ⟨t, ht⟩ := letN_pre b l k
    obtain ⟨u, hu⟩ := lampN_pre (b k) (letN b l k) 4
    exact ⟨t ++ u, by show lampN _ _ _ = _; rw [hu, ht, List.append_assoc]⟩
theorem letN_ok {N fr : Nat} {b : Nat → Nat → Nat} {l : List Nat} (h : LOk N fr l) : ∀ k, (∀ x y, x < k → y < 4 → b x y < N) → LOk N fr (letN b l k)
  | 0, _ => h
  | k + 1, hb => lampN_ok (letN_ok h k fun x y hx hy => hb x y (by omega) hy) 4 fun y hy => hb k y (by omega) hy
theorem letN_mem (b : Nat → Nat → Nat) (l : List Nat) : ∀ k x y, x < k → y < 4 → b x y ∈ letN b l k
  | k + 1, x, y, hx, hy => by
    by_cases e : x = k
    · subst e; exact lampN_mem _ _ 4 y hy
    · obtain ⟨t, ht⟩ := lampN_pre (b k) (letN b l k) 4
      show _ ∈ lampN _ _ _
      rw [ht]
      exact List.mem_append.2 (.inl (letN_mem b l k x y (by omega) hy))

theorem cloI_ok {N fr n : Nat} {bl : Nat → Nat → Nat → Nat} (hf : fr < N) (hb : ∀ f x y, f < N → x < n → y < 4 → bl f x y < N) : ∀ i, LOk N fr (cloI bl n fr i)
  | 0 => ⟨by simp [cloI], fun f h => by simp [cloI] at h; omega, by simp [cloI]⟩
  | i + 1 => by
    have ih := cloI_ok hf hb i
    unfold cloI
    split
    · rename_i f hf'
      exact letN_ok ih n fun x y hx hy => hb f x y (ih.lt f (List.mem_of_getElem? hf')) hx hy
    · exact ih
theorem cloI_closed {n fr : Nat} {bl : Nat → Nat → Nat → Nat} : ∀ i j f, j < i → (cloI bl n fr i)[j]? = some f → ∀ x y, x < n → y < 4 → bl f x y ∈ cloI bl n fr i
  | i + 1, j, f, hj, hf, x, y, hx, hy => by
    have ih := cloI_closed (n := n) (fr := fr) (bl := bl) i
    have hc : cloI bl n fr (i + 1) = match (cloI bl n fr i)[i]? with
      | some f => letN (bl f) (cloI bl n fr i) n
      | none => cloI bl n fr i := rfl
    cases hg : (cloI bl n fr i)[i]? with
    | none =>
      rw [hg] at hc
      rw [hc] at hf ⊢
      have : j ≠ i := fun e => by rw [e, hg] at hf; cases hf
      exact ih j f (by omega) hf x y hx hy
    | some g =>
      rw [hg] at hc
      have hc' : cloI bl n fr (i + 1) = letN (bl g) (cloI bl n fr i) n := hc
      have hil : i < (cloI bl n fr i).length := by
        rcases Nat.lt_or_ge i (cloI bl n fr i).length with h | h
        · exact h
        · rw [List.getElem?_eq_none h] at hg; cases hg
      obtain ⟨t, ht⟩ := letN_pre (bl g) (cloI bl n fr i) n
      rw [hc', ht, List.getElem?_append_left (by omega)] at hf
      rw [hc']
      by_cases e : j = i
      · rw [e, hg] at hf
        cases hf
        exact letN_mem _ _ n x y hx hy
      · rw [ht]
        exact List.mem_append.2 (.inl (ih j f (by omega) hf x y hx hy))

/-- The round at which all is met. -/
theorem clo_ex {N fr n : Nat} {bl : Nat → Nat → Nat → Nat} (hf : fr < N) (hb : ∀ f x y, f < N → x < n → y < 4 → bl f x y < N) : ∃ I, (cloI bl n fr I).length = I ∧ (∀ i, i < I → i < (cloI bl n fr i).length) ∧ LOk N fr (cloI bl n fr I) ∧ ∀ f ∈ cloI bl n fr I, ∀ x y, x < n → y < 4 → bl f x y ∈ cloI bl n fr I := by
  obtain ⟨I, h1, h2, h3⟩ := first_ex (P := fun i => (cloI bl n fr i).length ≤ i) N (cloI_ok hf hb N).len
  refine ⟨I, ?_, fun i hi => by have := h3 i hi; omega, cloI_ok hf hb I, fun f hf' x y hx hy => ?_⟩
  · match I, h2, h3 with
    | 0, h2, _ => simp [cloI] at h2
    | i + 1, h2, h3 =>
      have hlt := h3 i (by omega)
      have hc : cloI bl n fr (i + 1) = letN (bl ((cloI bl n fr i)[i]'(by omega))) (cloI bl n fr i) n := by
        show (match (cloI bl n fr i)[i]? with
          | some f => letN (bl f) (cloI bl n fr i) n
          | none => cloI bl n fr i) = _
        rw [List.getElem?_eq_getElem (by omega)]
      obtain ⟨t, ht⟩ := letN_pre (bl ((cloI bl n fr i)[i]'(by omega))) (cloI bl n fr i) n
      have : (cloI bl n fr (i + 1)).length = (cloI bl n fr i).length + t.length := by rw [hc, ht, List.length_append]
      omega
  · obtain ⟨j, hj, e⟩ := List.getElem_of_mem hf'
    exact cloI_closed I j f (by omega) (by rw [List.getElem?_eq_getElem hj, e]) x y hx hy

/-! ### Entries of maps -/

def mets (l : List Nat) : List (D × D) := l.map fun f : Nat => (D.int .u64 f, D.bool true)
theorem mets_keys : ∀ l : List Nat, keysI .u64 (mets l) = true
  | [] => rfl
  | f :: l => by simp only [mets, List.map_cons, keysI]; exact Bool.and_eq_true_iff.2 ⟨rfl, mets_keys l⟩
theorem mets_get (g : Nat) : ∀ l : List Nat, mget (g : Int) (mets l) = if g ∈ l then some (.bool true) else none
  | [] => rfl
  | f :: l => by
    have ih := mets_get g l
    simp only [mets, List.map_cons, mget] at ih ⊢
    by_cases e : g = f
    · subst e; simp
    · rw [if_neg (by omega), ih]
      simp [e]
theorem mets_put (g : Nat) : ∀ l : List Nat, g ∉ l → mput .u64 (g : Int) (.bool true) (mets l) = mets (l ++ [g])
  | [], _ => rfl
  | f :: l, h => by
    have ih := mets_put g l fun h' => h (List.mem_cons_of_mem _ h')
    have hne : ¬ (g : Int) = f := fun e => h (by have : g = f := by omega
                                                 subst this; exact List.mem_cons_self ..)
    simp only [mets, List.map_cons, mput, List.cons_append] at ih ⊢
    rw [if_neg hne, ih]

theorem mget_mput (kd : IntKind) (f g : Int) (v : D) : ∀ kvs : List (D × D), mget f (mput kd g v kvs) = if f = g then some v else mget f kvs
  | [] => by by_cases h : f = g <;> simp [mput, mget, h]
  | p :: l => by
    have ih := mget_mput kd f g v l
    obtain ⟨a, b⟩ := p
    cases a with
    | int k m =>
      simp only [mput]
      by_cases hgm : g = m
      · rw [if_pos hgm]
        by_cases h : f = g
        · subst h; simp [mget]
        · have : ¬ f = m := by omega
          simp [mget, h, this]
      · rw [if_neg hgm]
        simp only [mget]
        by_cases h : f = m
        · have : ¬ f = g := by omega
          subst h; simp [this]
        · rw [if_neg h, ih, if_neg h]
    | _ => simp only [mput, mget]; exact ih
theorem keysI_mput (kd : IntKind) (g : Int) (v : D) : ∀ kvs : List (D × D), keysI kd kvs = true → keysI kd (mput kd g v kvs) = true
  | [], _ => by simp [mput, keysI]; cases kd <;> rfl
  | p :: l, h => by
    have ih := keysI_mput kd g v l
    obtain ⟨a, b⟩ := p
    cases a with
    | int k m =>
      simp only [keysI, Bool.and_eq_true] at h
      simp only [mput]
      by_cases hgm : g = m
      · rw [if_pos hgm]
        simp only [keysI, Bool.and_eq_true]
        exact ⟨by cases kd <;> rfl, h.2⟩
      · rw [if_neg hgm]
        simp only [keysI, Bool.and_eq_true]
        exact ⟨h.1, ih h.2⟩
    | _ => simp [keysI] at h

/-! ### Rounds of the program -/

def optD (v : Int) : Option D := if 0 ≤ v then some (.int .i64 v) else none
/-- What is known before a round. -/
def prv (nx : List (List Int)) (lp : List Int) : Nat → Nat → Int
  | 0, _ => -1
  | d + 1, f => dN nx lp d f
def stepR (nx : List (List Int)) (lp : List Int) (d : Nat) (kvs : List (D × D)) (g : Nat) : List (D × D) :=
  match mget (g : Int) kvs with
  | some _ => kvs
  | none => if 0 ≤ dN nx lp d g then mput .u64 (g : Int) (.int .i64 (dN nx lp d g)) kvs else kvs
def rnd (nx : List (List Int)) (lp : List Int) (d : Nat) (m : List Nat) (kvs : List (D × D)) : List (D × D) := m.foldl (stepR nx lp d) kvs
def KV (nx : List (List Int)) (lp : List Int) (l : List Nat) : Nat → List (D × D)
  | 0 => []
  | d + 1 => rnd nx lp d l (KV nx lp l d)
theorem rnd_take {nx : List (List Int)} {lp : List Int} {d : Nat} {l : List Nat} {kvs : List (D × D)} {j : Nat} (hj : j < l.length) : rnd nx lp d (l.take (j + 1)) kvs = stepR nx lp d (rnd nx lp d (l.take j) kvs) l[j] := by
  unfold rnd
  rw [List.take_succ_eq_append_getElem hj, List.foldl_append]
  rfl
theorem stepR_keys {nx : List (List Int)} {lp : List Int} {d g : Nat} {kvs : List (D × D)} (h : keysI .u64 kvs = true) : keysI .u64 (stepR nx lp d kvs g) = true := by
  unfold stepR
  split
  · exact h
  · split
    · exact keysI_mput _ _ _ _ h
    · exact h
theorem rnd_keys {nx : List (List Int)} {lp : List Int} {d : Nat} : ∀ {m : List Nat} {kvs : List (D × D)}, keysI .u64 kvs = true → keysI .u64 (rnd nx lp d m kvs) = true
  | [], _, h => h
  | g :: m, _, h => rnd_keys (m := m) (stepR_keys (g := g) h)
theorem KV_keys {nx : List (List Int)} {lp : List Int} {l : List Nat} : ∀ d, keysI .u64 (KV nx lp l d) = true
  | 0 => rfl
  | d + 1 => rnd_keys (KV_keys d)

theorem prv_up {nx : List (List Int)} {lp : List Int} {d f : Nat} (h : 0 ≤ prv nx lp d f) : dN nx lp d f = prv nx lp d f := by
  match d, h with
  | 0, h => simp [prv] at h
  | d + 1, h => exact dv_pos_up h (by omega)
theorem stepR_get {nx : List (List Int)} {lp : List Int} {d f g : Nat} {kvs : List (D × D)} (hg : mget (g : Int) kvs = optD (prv nx lp d g) ∨ mget (g : Int) kvs = optD (dN nx lp d g)) : mget (f : Int) (stepR nx lp d kvs g) = if f = g then optD (dN nx lp d g) else mget (f : Int) kvs := by
  have key : mget (g : Int) kvs = optD (dN nx lp d g) ∨ mget (g : Int) kvs = none := by
    rcases hg with h | h
    · by_cases h0 : 0 ≤ prv nx lp d g
      · left; rw [h, prv_up h0]
      · right; rw [h]; unfold optD; rw [if_neg h0]
    · exact .inl h
  unfold stepR
  split
  · rename_i u hu
    by_cases e : f = g
    · subst e
      rw [if_pos rfl]
      rcases key with h | h
      · exact h
      · rw [hu] at h; cases h
    · rw [if_neg e]
  · rename_i hu
    split
    · rename_i h0
      rw [mget_mput]
      by_cases e : f = g
      · subst e; rw [if_pos rfl, if_pos rfl]; unfold optD; rw [if_pos h0]
      · rw [if_neg (by omega), if_neg e]
    · rename_i h0
      by_cases e : f = g
      · subst e; rw [if_pos rfl, hu]; unfold optD; rw [if_neg h0]
      · rw [if_neg e]
theorem rnd_get {nx : List (List Int)} {lp : List Int} {d : Nat} {l : List Nat} {kvs : List (D × D)} (hk : ∀ f ∈ l, mget (f : Int) kvs = optD (prv nx lp d f)) : ∀ j, j ≤ l.length → ∀ f ∈ l, mget (f : Int) (rnd nx lp d (l.take j) kvs) = if f ∈ l.take j then optD (dN nx lp d f) else optD (prv nx lp d f)
  | 0, _, f, hf => by simp [rnd]; exact hk f hf
  | j + 1, hj, f, hf => by
    have ih := rnd_get hk j (by omega)
    have hjl : j < l.length := by omega
    have hmm := ih l[j] (List.getElem_mem hjl)
    have hor : mget ((l[j] : Nat) : Int) (rnd nx lp d (l.take j) kvs) = optD (prv nx lp d l[j]) ∨ mget ((l[j] : Nat) : Int) (rnd nx lp d (l.take j) kvs) = optD (dN nx lp d l[j]) := by
      split at hmm
      · exact .inr hmm
      · exact .inl hmm
    rw [rnd_take hjl, stepR_get hor]
    have hm : f ∈ l.take (j + 1) ↔ f ∈ l.take j ∨ f = l[j] := by rw [List.take_succ_eq_append_getElem hjl, List.mem_append, List.mem_singleton]
    by_cases e : f = l[j]
    · rw [if_pos e, if_pos (hm.2 (.inr e)), e]
    · rw [if_neg e, ih f hf]
      by_cases h2 : f ∈ l.take j
      · rw [if_pos h2, if_pos (hm.2 (.inl h2))]
      · rw [if_neg h2, if_neg fun h => (hm.1 h).elim h2 e]
theorem KV_get {nx : List (List Int)} {lp : List Int} {l : List Nat} : ∀ d, ∀ f ∈ l, mget (f : Int) (KV nx lp l d) = optD (prv nx lp d f)
  | 0, f, _ => rfl
  | d + 1, f, hf => by
    have := rnd_get (KV_get (nx := nx) (lp := lp) (l := l) d) l.length (Nat.le_refl _) f hf
    rw [List.take_length, if_pos hf] at this
    exact this

/-- Has a round, not the first, found something among these? -/
def nwB (nx : List (List Int)) (lp : List Int) : Nat → List Nat → Bool
  | 0, _ => false
  | d + 1, m => m.any fun f => decide (dN nx lp d f < 0) && decide (0 ≤ dN nx lp (d + 1) f)
theorem nwB_still {nx : List (List Int)} {lp : List Int} {d : Nat} {l : List Nat} : nwB nx lp (d + 1) l = true ↔ ¬ still nx lp l d := by
  unfold nwB
  rw [List.any_eq_true]
  constructor
  · rintro ⟨f, hf, h⟩ hs
    simp only [Bool.and_eq_true, decide_eq_true_eq] at h
    have := hs f hf
    omega
  · intro h
    obtain ⟨f, hf, h1, h2⟩ := still_no h
    exact ⟨f, hf, by simp [h1, h2]⟩
theorem nwB_take {nx : List (List Int)} {lp : List Int} {d j : Nat} {l : List Nat} (hj : j < l.length) : nwB nx lp (d + 1) (l.take (j + 1)) = (nwB nx lp (d + 1) (l.take j) || (decide (dN nx lp d l[j] < 0) && decide (0 ≤ dN nx lp (d + 1) l[j]))) := by
  show List.any _ _ = (List.any _ _ || _)
  rw [List.take_succ_eq_append_getElem hj, List.any_append]
  simp

end Go.Proofs.Ytkomkhigcdkpdaa
