/- What can be believed from a set on, and the entries of maps: plain facts. No condition. -/
import Derived.Test.YtampglcgipefnaaDc
namespace Go.Proofs.Ytampglcgipefnaa
open Go
attribute [local irreducible] awp awpL awpQL awpQ awpM pWalk Qt AC thenQ blockQ loopQ OpTo
set_option linter.unusedVariables false
set_option linter.unusedSimpArgs false
set_option maxHeartbeats 2000000
attribute [local irreducible] HC

/-! ### All that can be believed -/

def addL (l : List Nat) (g : Nat) : List Nat := if g ∈ l then l else l ++ [g]
def lampN (b : Nat → Nat) (l : List Nat) : Nat → List Nat
  | 0 => l
  | y + 1 => addL (lampN b l y) (b y)
def letN (b : Nat → Nat → Nat) (l : List Nat) : Nat → List Nat
  | 0 => l
  | x + 1 => lampN (b x) (letN b l x) 4
def cloI (bl : Nat → Nat → Nat → Nat) (n fr : Nat) : Nat → List Nat
  | 0 => [fr]
  | i + 1 => match (cloI bl n fr i)[i]? with
    | some f => letN (bl f) (cloI bl n fr i) n
    | none => cloI bl n fr i

structure LOk (N fr : Nat) (l : List Nat) : Prop where
  nd : l.Nodup
  lt : ∀ f ∈ l, f < N
  fr : fr ∈ l

theorem LOk.len {N fr : Nat} {l : List Nat} (h : LOk N fr l) : l.length ≤ N := nodup_le N l h.nd h.lt

theorem addL_pre (l : List Nat) (g : Nat) : ∃ t, addL l g = l ++ t := by
  unfold addL
  split
  · exact ⟨[], by simp⟩
  · exact ⟨[g], rfl⟩
theorem addL_mem (l : List Nat) (g : Nat) : g ∈ addL l g := by
  unfold addL
  split
  · assumption
  · simp
theorem addL_ok {N fr g : Nat} {l : List Nat} (h : LOk N fr l) (hg : g < N) : LOk N fr (addL l g) := by
  unfold addL
  split
  · exact h
  · rename_i hn
    refine ⟨List.nodup_append.2 ⟨h.nd, by simp, fun a ha b hb => ?_⟩, fun f hf => ?_, List.mem_append.2 (.inl h.fr)⟩
    · simp only [List.mem_singleton] at hb
      subst hb
      exact fun e => hn (e ▸ ha)
    · rcases List.mem_append.1 hf with h1 | h1
      · exact h.lt f h1
      · simp only [List.mem_singleton] at h1; omega
theorem lampN_pre (b : Nat → Nat) (l : List Nat) : ∀ k, ∃ t, lampN b l k = l ++ t
  | 0 => ⟨[], by simp [lampN]⟩
  | k + 1 => by
    obtain ⟨t, ht⟩ := lampN_pre b l k
    obtain ⟨u, hu⟩ := addL_pre (lampN b l k) (b k)
    exact ⟨t ++ u, by show addL _ _ = _; rw [hu, ht, List.append_assoc]⟩
theorem lampN_ok {N fr : Nat} {b : Nat → Nat} {l : List Nat} (h : LOk N fr l) : ∀ k, (∀ y, y < k → b y < N) → LOk N fr (lampN b l k)
  | 0, _ => h
  | k + 1, hb => addL_ok (lampN_ok h k fun y hy => hb y (by omega)) (hb k (by omega))
theorem lampN_mem (b : Nat → Nat) (l : List Nat) : ∀ k y, y < k → b y ∈ lampN b l k
  | k + 1, y, hy => by
    by_cases e : y = k
    · subst e; exact addL_mem _ _
    · obtain ⟨t, ht⟩ := addL_pre (lampN b l k) (b k)
      show _ ∈ addL _ _
      rw [ht]
      exact List.mem_append.2 (.inl (lampN_mem b l k y (by omega)))
theorem letN_pre (b : Nat → Nat → Nat) (l : List Nat) : ∀ k, ∃ t, letN b l k = l ++ t
  | 0 => ⟨[], by simp [letN]⟩
  | k + 1 => by
    obtain ⟨t, ht⟩ := letN_pre b l k
    obtain ⟨u, hu⟩ := lampN_pre (b k) (letN b l k) 4
    exact ⟨t ++ u, by show lampN _ _ _ = _; rw [hu, ht, List.append_assoc]⟩
theorem letN_ok {N fr : Nat} {b : Nat → Nat → Nat} {l : List Nat} (h : LOk N fr l) : ∀ k, (∀ x y, x < k → y < 4 → b x y < N) → LOk N fr (letN b l k)
  | 0, _ => h
  | k + 1, hb => lampN_ok (letN_ok h k fun x y hx hy => hb x y (by omega) hy) 4 fun y hy => hb k y (by omega) hy
theorem letN_mem (b : Nat → Nat → Nat) (l : List Nat) : ∀ k x y, x < k → y < 4 → b x y ∈ letN b l k
  | k + 1, x, y, hx, hy => by
    by_cases e : x = k
    · subst e; exact lampN_mem _ _ 4 y hy
    · obtain ⟨t, ht⟩ := lampN_pre (b k) (letN b l k) 4
      show _ ∈ lampN _ _ _
      rw [ht]
      exact List.mem_append.2 (.inl (letN_mem b l k x y (by omega) hy))

theorem cloI_ok {N fr n : Nat} {bl : Nat → Nat → Nat → Nat} (hf : fr < N) (hb : ∀ f x y, f < N → x < n → y < 4 → bl f x y < N) : ∀ i, LOk N fr (cloI bl n fr i)
  | 0 => ⟨by simp [cloI], fun f h => by simp [cloI] at h; omega, by simp [cloI]⟩
  | i + 1 => by
    have ih := cloI_ok hf hb i
    unfold cloI
    split
    · rename_i f hf'
      exact letN_ok ih n fun x y hx hy => hb f x y (ih.lt f (List.mem_of_getElem? hf')) hx hy
    · exact ih
theorem cloI_closed {n fr : Nat} {bl : Nat → Nat → Nat → Nat} : ∀ i j f, j < i → (cloI bl n fr i)[j]? = some f → ∀ x y, x < n → y < 4 → bl f x y ∈ cloI bl n fr i
  | i + 1, j, f, hj, hf, x, y, hx, hy => by
    have ih := cloI_closed (n := n) (fr := fr) (bl := bl) i
    have hc : cloI bl n fr (i + 1) = match (cloI bl n fr i)[i]? with
      | some f => letN (bl f) (cloI bl n fr i) n
      | none => cloI bl n fr i := rfl
    cases hg : (cloI bl n fr i)[i]? with
    | none =>
      rw [hg] at hc
      rw [hc] at hf ⊢
      have : j ≠ i := fun e => by rw [e, hg] at hf; cases hf
      exact ih j f (by omega) hf x y hx hy
    | some g =>
      rw [hg] at hc
      have hc' : cloI bl n fr (i + 1) = letN (bl g) (cloI bl n fr i) n := hc
      have hil : i < (cloI bl n fr i).length := by
        rcases Nat.lt_or_ge i (cloI bl n fr i).length with h | h
        · exact h
        · rw [List.getElem?_eq_none h] at hg; cases hg
      obtain ⟨t, ht⟩ := letN_pre (bl g) (cloI bl n fr i) n
      rw [hc', ht, List.getElem?_append_left (by omega)] at hf
      rw [hc']
      by_cases e : j = i
      · rw [e, hg] at hf
        cases hf
        exact letN_mem _ _ n x y hx hy
      · rw [ht]
        exact List.mem_append.2 (.inl (ih j f (by omega) hf x y hx hy))

/-- The round at which all is met. -/
theorem clo_ex {N fr n : Nat} {bl : Nat → Nat → Nat → Nat} (hf : fr < N) (hb : ∀ f x y, f < N → x < n → y < 4 → bl f x y < N) : ∃ I, (cloI bl n fr I).length = I ∧ (∀ i, i < I → i < (cloI bl n fr i).length) ∧ LOk N fr (cloI bl n fr I) ∧ ∀ f ∈ cloI bl n fr I, ∀ x y, x < n → y < 4 → bl f x y ∈ cloI bl n fr I := by
  obtain ⟨I, h1, h2, h3⟩ := first_ex (P := fun i => (cloI bl n fr i).length ≤ i) N (cloI_ok hf hb N).len
  refine ⟨I, ?_, fun i hi => by have := h3 i hi; omega, cloI_ok hf hb I, fun f hf' x y hx hy => ?_⟩
  · match I, h2, h3 with
    | 0, h2, _ => simp [cloI] at h2
    | i + 1, h2, h3 =>
      have hlt := h3 i (by omega)
      have hc : cloI bl n fr (i + 1) = letN (bl ((cloI bl n fr i)[i]'(by omega))) (cloI bl n fr i) n := by
        show (match (cloI bl n fr i)[i]? with
          | some f => letN (bl f) (cloI bl n fr i) n
          | none => cloI bl n fr i) = _
        rw [List.getElem?_eq_getElem (by omega)]
      obtain ⟨t, ht⟩ := letN_pre (bl ((cloI bl n fr i)[i]'(by omega))) (cloI bl n fr i) n
      have : (cloI bl n fr (i + 1)).length = (cloI bl n fr i).length + t.length := by rw [hc, ht, List.length_append]
      omega
  · obtain ⟨j, hj, e⟩ := List.getElem_of_mem hf'
    exact cloI_closed I j f (by omega) (by rw [List.getElem?_eq_getElem hj, e]) x y hx hy

/-! ### Entries of maps -/

def mets (l : List Nat) : List (D × D) := l.map fun f : Nat => (D.int .u64 f, D.bool true)
theorem mets_keys : ∀ l : List Nat, keysI .u64 (mets l) = true
  | [] => rfl
  | f :: l => by simp only [mets, List.map_cons, keysI]; exact Bool.and_eq_true_iff.2 ⟨rfl, mets_keys l⟩
theorem mets_get (g : Nat) : ∀ l : List Nat, mget (g : Int) (mets l) = if g ∈ l then some (.bool true) else none
  | [] => rfl
  | f :: l => by
    have ih := mets_get g l
    simp only [mets, List.map_cons, mget] at ih ⊢
    by_cases e : g = f
    · subst e; simp
    · rw [if_neg (by omega), ih]
      simp [e]
theorem mets_put (g : Nat) : ∀ l : List Nat, g ∉ l → mput .u64 (g : Int) (.bool true) (mets l) = mets (l ++ [g])
  | [], _ => rfl
  | f :: l, h => by
    have ih := mets_put g l fun h' => h (List.mem_cons_of_mem _ h')
    have hne : ¬ (g : Int) = f := fun e => h (by have : g = f := by omega
                                                 subst this; exact List.mem_cons_self ..)
    simp only [mets, List.map_cons, mput, List.cons_append] at ih ⊢
    rw [if_neg hne, ih]

theorem mget_mput (kd : IntKind) (f g : Int) (v : D) : ∀ kvs : List (D × D), mget f (mput kd g v kvs) = if f = g then some v else mget f kvs
  | [] => by by_cases h : f = g <;> simp [mput, mget, h]
  | p :: l => by
    have ih := mget_mput kd f g v l
    obtain ⟨a, b⟩ := p
    cases a with
    | int k m =>
      simp only [mput]
      by_cases hgm : g = m
      · rw [if_pos hgm]
        by_cases h : f = g
        · subst h; simp [mget]
        · have : ¬ f = m := by omega
          simp [mget, h, this]
      · rw [if_neg hgm]
        simp only [mget]
        by_cases h : f = m
        · have : ¬ f = g := by omega
          subst h; simp [this]
        · rw [if_neg h, ih, if_neg h]
    | _ => simp only [mput, mget]; exact ih
theorem keysI_mput (kd : IntKind) (g : Int) (v : D) : ∀ kvs : List (D × D), keysI kd kvs = true → keysI kd (mput kd g v kvs) = true
  | [], _ => by simp [mput, keysI]; cases kd <;> rfl
  | p :: l, h => by
    have ih := keysI_mput kd g v l
    obtain ⟨a, b⟩ := p
    cases a with
    | int k m =>
      simp only [keysI, Bool.and_eq_true] at h
      simp only [mput]
      by_cases hgm : g = m
      · rw [if_pos hgm]
        simp only [keysI, Bool.and_eq_true]
        exact ⟨by cases kd <;> rfl, h.2⟩
      · rw [if_neg hgm]
        simp only [keysI, Bool.and_eq_true]
        exact ⟨h.1, ih h.2⟩
    | _ => simp [keysI] at h

/-! ### Rounds of the program -/

def optD (v : Int) : Option D := if 0 ≤ v then some (.int .i64 v) else none
/-- What is known before a round. -/
def prv (nx : List (List Int)) (lp : List Int) : Nat → Nat → Int
  | 0, _ => -1
  | d + 1, f => dN nx lp d f
def stepR (nx : List (List Int)) (lp : List Int) (d : Nat) (kvs : List (D × D)) (g : Nat) : List (D × D) :=
  match mget (g : Int) kvs with
  | some _ => kvs
  | none => if 0 ≤ dN nx lp d g then mput .u64 (g : Int) (.int .i64 (dN nx lp d g)) kvs else kvs
def rnd (nx : List (List Int)) (lp : List Int) (d : Nat) (m : List Nat) (kvs : List (D × D)) : List (D × D) := m.foldl (stepR nx lp d) kvs
def KV (nx : List (List Int)) (lp : List Int) (l : List Nat) : Nat → List (D × D)
  | 0 => []
  | d + 1 => rnd nx lp d l (KV nx lp l d)
theorem rnd_take {nx : List (List Int)} {lp : List Int} {d : Nat} {l : List Nat} {kvs : List (D × D)} {j : Nat} (hj : j < l.length) : rnd nx lp d (l.take (j + 1)) kvs = stepR nx lp d (rnd nx lp d (l.take j) kvs) l[j] := by
  unfold rnd
  rw [List.take_succ_eq_append_getElem hj, List.foldl_append]
  rfl
theorem stepR_keys {nx : List (List Int)} {lp : List Int} {d g : Nat} {kvs : List (D × D)} (h : keysI .u64 kvs = true) : keysI .u64 (stepR nx lp d kvs g) = true := by
  unfold stepR
  split
  · exact h
  · split
    · exact keysI_mput _ _ _ _ h
    · exact h
theorem rnd_keys {nx : List (List Int)} {lp : List Int} {d : Nat} : ∀ {m : List Nat} {kvs : List (D × D)}, keysI .u64 kvs = true → keysI .u64 (rnd nx lp d m kvs) = true
  | [], _, h => h
  | g :: m, _, h => rnd_keys (m := m) (stepR_keys (g := g) h)
theorem KV_keys {nx : List (List Int)} {lp : List Int} {l : List Nat} : ∀ d, keysI .u64 (KV nx lp l d) = true
  | 0 => rfl
  | d + 1 => rnd_keys (KV_keys d)

theorem prv_up {nx : List (List Int)} {lp : List Int} {d f : Nat} (h : 0 ≤ prv nx lp d f) : dN nx lp d f = prv nx lp d f := by
  match d, h with
  | 0, h => simp [prv] at h
  | d + 1, h => exact dv_pos_up h (by omega)
theorem stepR_get {nx : List (List Int)} {lp : List Int} {d f g : Nat} {kvs : List (D × D)} (hg : mget (g : Int) kvs = optD (prv nx lp d g) ∨ mget (g : Int) kvs = optD (dN nx lp d g)) : mget (f : Int) (stepR nx lp d kvs g) = if f = g then optD (dN nx lp d g) else mget (f : Int) kvs := by
  have key : mget (g : Int) kvs = optD (dN nx lp d g) ∨ mget (g : Int) kvs = none := by
    rcases hg with h | h
    · by_cases h0 : 0 ≤ prv nx lp d g
      · left; rw [h, prv_up h0]
      · right; rw [h]; unfold optD; rw [if_neg h0]
    · exact .inl h
  unfold stepR
  split
  · rename_i u hu
    by_cases e : f = g
    · subst e
      rw [if_pos rfl]
      rcases key with h | h
      · exact h
      · rw [hu] at h; cases h
    · rw [if_neg e]
  · rename_i hu
    split
    · rename_i h0
      rw [mget_mput]
      by_cases e : f = g
      · subst e; rw [if_pos rfl, if_pos rfl]; unfold optD; rw [if_pos h0]
      · rw [if_neg (by omega), if_neg e]
    · rename_i h0
      by_cases e : f = g
      · subst e; rw [if_pos rfl, hu]; unfold optD; rw [if_neg h0]
      · rw [if_neg e]
theorem rnd_get {nx : List (List Int)} {lp : List Int} {d : Nat} {l : List Nat} {kvs : List (D × D)} (hk : ∀ f ∈ l, mget (f : Int) kvs = optD (prv nx lp d f)) : ∀ j, j ≤ l.length → ∀ f ∈ l, mget (f : Int) (rnd nx lp d (l.take j) kvs) = if f ∈ l.take j then optD (dN nx lp d f) else optD (prv nx lp d f)
  | 0, _, f, hf => by simp [rnd]; exact hk f hf
  | j + 1, hj, f, hf => by
    have ih := rnd_get hk j (by omega)
    have hjl : j < l.length := by omega
    have hmm := ih l[j] (List.getElem_mem hjl)
    have hor : mget ((l[j] : Nat) : Int) (rnd nx lp d (l.take j) kvs) = optD (prv nx lp d l[j]) ∨ mget ((l[j] : Nat) : Int) (rnd nx lp d (l.take j) kvs) = optD (dN nx lp d l[j]) := by
      split at hmm
      · exact .inr hmm
      · exact .inl hmm
    rw [rnd_take hjl, stepR_get hor]
    have hm : f ∈ l.take (j + 1) ↔ f ∈ l.take j ∨ f = l[j] := by rw [List.take_succ_eq_append_getElem hjl, List.mem_append, List.mem_singleton]
    by_cases e : f = l[j]
    · rw [if_pos e, if_pos (hm.2 (.inr e)), e]
    · rw [if_neg e, ih f hf]
      by_cases h2 : f ∈ l.take j
      · rw [if_pos h2, if_pos (hm.2 (.inl h2))]
      · rw [if_neg h2, if_neg fun h => (hm.1 h).elim h2 e]
theorem KV_get {nx : List (List Int)} {lp : List Int} {l : List Nat} : ∀ d, ∀ f ∈ l, mget (f : Int) (KV nx lp l d) = optD (prv nx lp d f)
  | 0, f, _ => rfl
  | d + 1, f, hf => by
    have := rnd_get (KV_get (nx := nx) (lp := lp) (l := l) d) l.length (Nat.le_refl _) f hf
    rw [List.take_length, if_pos hf] at this
    exact this

/-- Has a round, not the first, found something among these? -/
def nwB (nx : List (List Int)) (lp : List Int) : Nat → List Nat → Bool
  | 0, _ => false
  | d + 1, m => m.any fun f => decide (dN nx lp d f < 0) && decide (0 ≤ dN nx lp (d + 1) f)
theorem nwB_still {nx : List (List Int)} {lp : List Int} {d : Nat} {l : List Nat} : nwB nx lp (d + 1) l = true ↔ ¬ still nx lp l d := by
  unfold nwB
  rw [List.any_eq_true]
  constructor
  · rintro ⟨f, hf, h⟩ hs
    simp only [Bool.and_eq_true, decide_eq_true_eq] at h
    have := hs f hf
    omega
  · intro h
    obtain ⟨f, hf, h1, h2⟩ := still_no h
    exact ⟨f, hf, by simp [h1, h2]⟩
theorem nwB_take {nx : List (List Int)} {lp : List Int} {d j : Nat} {l : List Nat} (hj : j < l.length) : nwB nx lp (d + 1) (l.take (j + 1)) = (nwB nx lp (d + 1) (l.take j) || (decide (dN nx lp d l[j] < 0) && decide (0 ≤ dN nx lp (d + 1) l[j]))) := by
  show List.any _ _ = (List.any _ _ || _)
  rw [List.take_succ_eq_append_getElem hj, List.any_append]
  simp
end Go.Proofs.Ytampglcgipefnaa

/-! The depths of what can be believed, in the program. No condition. -/
namespace Go.Proofs.Ytampglcgipefnaa
open Go
attribute [local irreducible] awp awpL awpQL awpQ awpM pWalk Qt AC thenQ blockQ loopQ OpTo
set_option linter.unusedVariables false
set_option linter.unusedSimpArgs false
set_option maxHeartbeats 2000000
attribute [local irreducible] HC

/-- A letter behind which all is known, with less than a depth. -/
def fitB (G : Nat → Int) (dp : Int) (b : Nat → Nat) (k : Nat) : Bool := (List.range k).all fun y => decide (0 ≤ G (b y)) && decide (G (b y) < dp)
theorem fitB_succ {G : Nat → Int} {dp : Int} {b : Nat → Nat} {k : Nat} : fitB G dp b (k + 1) = (fitB G dp b k && (decide (0 ≤ G (b k)) && decide (G (b k) < dp))) := by
  unfold fitB
  rw [List.range_succ, List.all_append]
  simp

theorem impl_believedN {s : Int} {nx : List (List Int)} {lp : List Int} {f x y : Nat} (v : LV s nx lp) (hf : f < 2 ^ s.toNat) (hx : x < nx.length) :
    AC Try.prog 48 [.agg [.int .i64 s, rows nx, ints lp], .int .u64 f, .int .i64 x, .int .i64 y] (.int .u64 (bel nx lp f x y)) := by
  have hs := v.s1
  have hp := pow_le (m := s.toNat) (by omega)
  exact impl_believed (x := (x : Int)) (y := (y : Int)) v (by omega) (fun q hq => by have := setN_lt hf hq; omega) (by omega)

theorem impl_letter {s : Int} {nx : List (List Int)} {lp : List Int} {f : Nat} {G : Nat → Int} {dp : Int} {kvs : List (D × D)} (v : LV s nx lp) (hf : f < 2 ^ s.toNat) (hk : keysI .u64 kvs = true) (hm : ∀ x y, x < nx.length → y < 4 → mget ((bel nx lp f x y : Nat) : Int) kvs = optD (G (bel nx lp f x y))) :
    AC Try.prog 80 [.agg [.int .i64 s, rows nx, ints lp], .int .u64 f, .int .i64 dp, .map kvs] (.int .i64 (fstL (fun x => fitB G dp (bel nx lp f x) 4) nx.length (-1))) := by
  have hn := v.n1
  have e0 := impl_letters (s := s) (nx := nx)
  have hle : (List.map ints nx).length = nx.length := by simp
  refine ac_intro tabIs _ Try.func80 rfl rfl Try.ntmps80 rfl rfl fun w0 ok0 => ?_
  repeat (first | refine zc ?_ | ((first | apply c_l | apply c_q | apply c_lr | apply c_qr); (iterate 2 exact rfl); (focus (first | exact e0)); (iterate 2 exact rfl)) | (apply v_c; (iterate 4 exact rfl); (focus (first | exact e0)); (iterate 2 exact rfl)) | refine zv ?_)
  refine awp_loop (fun x : Nat => x ≤ nx.length ∧ ∀ z, z < x → fitB G dp (bel nx lp f z) 4 = false) (fun x => [(1, .d (.int .u64 f)), (2, .d (.int .i64 dp)), (3, .d (.map kvs)), (4, .d (.ptr (.agg [.int .i64 s, rows nx, ints lp]))), (16, .d (.int .i64 nx.length)), (17, .d (.int .i64 x))]) (fun _ => []) (fun x => nx.length - x) 0 (by exact ⟨by omega, fun y h => by omega⟩) ?_ rfl ?_
  · exact zs
  · rintro x ⟨hx, hz⟩
    by_cases hxl : x < nx.length
    · repeat (first | refine zc ?_ | refine zv ?_)
      refine awp_loop (fun y : Nat => y ≤ 4) (fun y => [(1, .d (.int .u64 f)), (2, .d (.int .i64 dp)), (3, .d (.map kvs)), (4, .d (.ptr (.agg [.int .i64 s, rows nx, ints lp]))), (9, .d (.int .i64 x)), (10, .d (.bool (fitB G dp (bel nx lp f x) y))), (16, .d (.int .i64 nx.length)), (17, .d (.int .i64 x)), (20, .d (.int .i64 y))]) (fun _ => []) (fun y => 4 - y) 0 (by omega) ?_ rfl ?_
      · exact zs
      · intro y hy
        by_cases hyl : y < 4
        · have e1 := impl_believedN (y := y) v hf hxl
          have hg := hm x y hxl hyl
          have hsucc := fitB_succ (G := G) (dp := dp) (b := bel nx lp f x) (k := y)
          generalize bel nx lp f x y = g at *
          unfold optD at hg
          cases hfb : fitB G dp (bel nx lp f x) y
          · rw [hfb, Bool.false_and] at hsucc
            by_cases h0 : 0 ≤ G g
            · rw [if_pos h0] at hg
              have hg' : MGet (g : Int) kvs (some (.int .i64 (G g))) := ⟨hg⟩
              repeat (first | refine zc ?_ | ((first | apply x_l | apply x_q | apply x_lr | apply x_qr); (focus (first | (apply wa_got; (iterate 11 (focus (first | exact rfl | (first | assumption | omega | (simp; omega) | (simp; done) | rfl))))))); exact rfl) | ((first | apply c_l | apply c_q | apply c_lr | apply c_qr); (iterate 2 exact rfl); (focus (first | exact e1)); (iterate 2 exact rfl)) | (apply v_x; (iterate 2 exact rfl); (focus (intro ok0 nw hle; (first | (apply wa_got; (iterate 11 (focus (first | exact rfl | (first | assumption | omega | (simp; omega) | (simp; done) | rfl)))))))); (iterate 2 exact rfl)) | (apply v_c; (iterate 4 exact rfl); (focus (first | exact e1)); (iterate 2 exact rfl)) | refine zv ?_)
              refine loop_n (y + 1) (by omega) ?_ rfl (by omega)
              rw [hsucc]
              exact zs
            · rw [if_neg h0] at hg
              have hg' : MGet (g : Int) kvs none := ⟨hg⟩
              repeat (first | refine zc ?_ | ((first | apply x_l | apply x_q | apply x_lr | apply x_qr); (focus (first | (apply wa_got; (iterate 11 (focus (first | exact rfl | (first | assumption | omega | (simp; omega) | (simp; done) | rfl))))))); exact rfl) | ((first | apply c_l | apply c_q | apply c_lr | apply c_qr); (iterate 2 exact rfl); (focus (first | exact e1)); (iterate 2 exact rfl)) | (apply v_x; (iterate 2 exact rfl); (focus (intro ok0 nw hle; (first | (apply wa_got; (iterate 11 (focus (first | exact rfl | (first | assumption | omega | (simp; omega) | (simp; done) | rfl)))))))); (iterate 2 exact rfl)) | (apply v_c; (iterate 4 exact rfl); (focus (first | exact e1)); (iterate 2 exact rfl)) | refine zv ?_)
              refine loop_n (y + 1) (by omega) ?_ rfl (by omega)
              rw [hsucc]
              exact zs
          · rw [hfb, Bool.true_and] at hsucc
            by_cases h0 : 0 ≤ G g
            · rw [if_pos h0] at hg
              have hg' : MGet (g : Int) kvs (some (.int .i64 (G g))) := ⟨hg⟩
              rw [decide_eq_true h0, Bool.true_and] at hsucc
              repeat (first | refine zc ?_ | ((first | apply x_l | apply x_q | apply x_lr | apply x_qr); (focus (first | (apply wa_got; (iterate 11 (focus (first | exact rfl | (first | assumption | omega | (simp; omega) | (simp; done) | rfl))))))); exact rfl) | ((first | apply c_l | apply c_q | apply c_lr | apply c_qr); (iterate 2 exact rfl); (focus (first | exact e1)); (iterate 2 exact rfl)) | (apply v_x; (iterate 2 exact rfl); (focus (intro ok0 nw hle; (first | (apply wa_got; (iterate 11 (focus (first | exact rfl | (first | assumption | omega | (simp; omega) | (simp; done) | rfl)))))))); (iterate 2 exact rfl)) | (apply v_c; (iterate 4 exact rfl); (focus (first | exact e1)); (iterate 2 exact rfl)) | refine zv ?_)
              refine loop_n (y + 1) (by omega) ?_ rfl (by omega)
              rw [hsucc]
              exact zs
            · rw [if_neg h0] at hg
              have hg' : MGet (g : Int) kvs none := ⟨hg⟩
              rw [decide_eq_false h0, Bool.false_and] at hsucc
              repeat (first | refine zc ?_ | ((first | apply x_l | apply x_q | apply x_lr | apply x_qr); (focus (first | (apply wa_got; (iterate 11 (focus (first | exact rfl | (first | assumption | omega | (simp; omega) | (simp; done) | rfl))))))); exact rfl) | ((first | apply c_l | apply c_q | apply c_lr | apply c_qr); (iterate 2 exact rfl); (focus (first | exact e1)); (iterate 2 exact rfl)) | (apply v_x; (iterate 2 exact rfl); (focus (intro ok0 nw hle; (first | (apply wa_got; (iterate 11 (focus (first | exact rfl | (first | assumption | omega | (simp; omega) | (simp; done) | rfl)))))))); (iterate 2 exact rfl)) | (apply v_c; (iterate 4 exact rfl); (focus (first | exact e1)); (iterate 2 exact rfl)) | refine zv ?_)
              refine loop_n (y + 1) (by omega) ?_ rfl (by omega)
              rw [hsucc]
              exact zs
        · have : y = 4 := by omega
          subst this
          cases hfb : fitB G dp (bel nx lp f x) 4
          · repeat (first | refine zc ?_ | refine zv ?_)
            refine loop_n (x + 1) ⟨by omega, fun z hzz => ?_⟩ ?_ rfl (by omega)
            · by_cases e : z = x
              · subst e; exact hfb
              · exact hz z (by omega)
            · exact zs
          · repeat (first | refine zc ?_ | refine zv ?_)
            (refine awp_ret ?_; (repeat (first | refine then_r ?_ | refine block_r ?_ | refine loop_r ?_)); apply ret_ok (.inr rfl); (focus exact rfl))
            rw [fstL_some (x := x) hxl hfb hz]
    · have : x = nx.length := by omega
      subst this
      repeat (first | refine zc ?_ | refine zv ?_)
      (refine awp_ret ?_; (repeat (first | refine then_r ?_ | refine block_r ?_ | refine loop_r ?_)); apply ret_ok (.inr rfl); (focus exact rfl))
      rw [fstL_none hz]
end Go.Proofs.Ytampglcgipefnaa

/-! The depths of what can be believed from a set on, in the program: the walk. No condition. -/
namespace Go.Proofs.Ytampglcgipefnaa
open Go
attribute [local irreducible] awp awpL awpQL awpQ awpM pWalk Qt AC thenQ blockQ loopQ OpTo
set_option linter.unusedVariables false
set_option linter.unusedSimpArgs false
set_option maxHeartbeats 2000000
attribute [local irreducible] HC

theorem addL_in {l : List Nat} {g : Nat} (h : g ∈ l) : addL l g = l := if_pos h
theorem addL_out {l : List Nat} {g : Nat} (h : g ∉ l) : addL l g = l ++ [g] := if_neg h

def fl (l : List Nat) : List D := l.map fun f : Nat => D.int .u64 f

theorem impl_depths {s : Int} {nx : List (List Int)} {lp : List Int} {fr I Z : Nat} {l : List Nat} (v : LV s nx lp) (hf : fr < 2 ^ s.toNat) (hl : l = cloI (bel nx lp) nx.length fr I) (hI : l.length = I) (hIm : ∀ i, i < I → i < (cloI (bel nx lp) nx.length fr i).length)
    (hok : ∀ i, LOk (2 ^ s.toNat) fr (cloI (bel nx lp) nx.length fr i)) (hcl : ∀ f ∈ l, ∀ x y, x < nx.length → y < 4 → bel nx lp f x y ∈ l) (hst : still nx lp l Z) (hmin : ∀ d, d < Z → ¬ still nx lp l d) (hZ : Z ≤ l.length) :
    AC Try.prog 79 [.agg [.int .i64 s, rows nx, ints lp], .int .u64 fr] (.map (KV nx lp l (Z + 2))) := by
  have hs := v.s1
  have hn := v.n1
  have hp := pow_le (m := s.toNat) (by omega)
  have hle : (List.map ints nx).length = nx.length := by simp
  have e0 := impl_letters (s := s) (nx := nx)
  have hfl : ∀ m : List Nat, (fl m).length = m.length := fun m => by simp [fl]
  have hbl : ∀ f x y : Nat, f < 2 ^ s.toNat → x < nx.length → bel nx lp f x y < 2 ^ s.toNat := fun f x y h1 h2 => bel_lt v h1 h2
  have hbe : ∀ f x y : Nat, f < 2 ^ s.toNat → x < nx.length → AC Try.prog 48 [.agg [.int .i64 s, rows nx, ints lp], .int .u64 f, .int .i64 x, .int .i64 y] (.int .u64 (bel nx lp f x y)) := fun f x y h1 h2 => impl_believedN v h1 h2
  have hsm : ∀ f : Nat, f < 2 ^ s.toNat → AC Try.prog 46 [.int .u64 f] (.bool (sm f)) := fun f h => impl_isSmall (by omega)
  have hlet : ∀ (f : Nat) (G : Nat → Int) (dp : Int) kvs, f < 2 ^ s.toNat → keysI .u64 kvs = true → (∀ x y, x < nx.length → y < 4 → mget ((bel nx lp f x y : Nat) : Int) kvs = optD (G (bel nx lp f x y))) → AC Try.prog 80 [.agg [.int .i64 s, rows nx, ints lp], .int .u64 f, .int .i64 dp, .map kvs] (.int .i64 (fstL (fun x => fitB G dp (bel nx lp f x) 4) nx.length (-1))) := fun f G dp kvs h1 h2 h3 => impl_letter v h1 h2 h3
  have hI' : I ≤ 2 ^ s.toNat := by rw [← hI, hl]; exact (hok I).len
  generalize hNN : 2 ^ s.toNat = N at *
  refine ac_intro tabIs _ Try.func79 rfl rfl Try.ntmps79 rfl rfl fun w0 ok0 => ?_
  repeat (first | refine v_w (t := 19) ?_ | refine zc ?_ | refine u_w (t := 19) ?_ | refine zv ?_)
  refine awp_perm [(19, .arr 83 1 (fl [fr])), (20, .map (mets [fr]))] rfl ?_
  refine awp_loop (fun i : Nat => i ≤ I) (fun i => [(1, .d (.int .u64 fr)), (2, .d (.ptr (.agg [.int .i64 s, rows nx, ints lp]))), (5, .own 19), (6, .own 20), (7, .d (.int .i64 i))]) (fun i => [(19, .arr 83 1 (fl (cloI (bel nx lp) nx.length fr i))), (20, .map (mets (cloI (bel nx lp) nx.length fr i)))]) (fun i => I - i) 0 (by omega) ?_ rfl ?_
  · exact zs
  · intro i hi
    have hoki := hok i
    have hlen := hoki.len
    have hfli := hfl (cloI (bel nx lp) nx.length fr i)
    by_cases hlt : i < I
    · have hil := hIm i hlt
      have hnext : cloI (bel nx lp) nx.length fr (i + 1) = letN (bel nx lp ((cloI (bel nx lp) nx.length fr i)[i])) (cloI (bel nx lp) nx.length fr i) nx.length := by
        show (match (cloI (bel nx lp) nx.length fr i)[i]? with
          | some f => letN (bel nx lp f) (cloI (bel nx lp) nx.length fr i) nx.length
          | none => cloI (bel nx lp) nx.length fr i) = _
        rw [List.getElem?_eq_getElem hil]
      have hgi : (cloI (bel nx lp) nx.length fr i)[i]? = some (cloI (bel nx lp) nx.length fr i)[i] := List.getElem?_eq_getElem hil
      have hgN := hoki.lt _ (List.getElem_mem hil)
      generalize (cloI (bel nx lp) nx.length fr i)[i] = g at *
      generalize cloI (bel nx lp) nx.length fr i = c at *
      repeat (first | refine zc ?_ | ((first | apply c_l | apply c_q | apply c_lr | apply c_qr); (iterate 2 exact rfl); (focus (first | exact e0)); (iterate 2 exact rfl)) | (apply v_c; (iterate 4 exact rfl); (focus (first | exact e0)); (iterate 2 exact rfl)) | refine zv ?_)
      refine awp_loop (fun x : Nat => x ≤ nx.length) (fun x => [(1, .d (.int .u64 fr)), (2, .d (.ptr (.agg [.int .i64 s, rows nx, ints lp]))), (5, .own 19), (6, .own 20), (7, .d (.int .i64 i)), (31, .d (.int .i64 nx.length)), (32, .d (.int .i64 x))]) (fun x => [(19, .arr 83 1 (fl (letN (bel nx lp g) c x))), (20, .map (mets (letN (bel nx lp g) c x)))]) (fun x => nx.length - x) 0 (by omega) ?_ rfl ?_
      · exact zs
      · intro x hx
        by_cases hxl : x < nx.length
        · have hokx : LOk N fr (letN (bel nx lp g) c x) := letN_ok hoki x fun x' y h1 h2 => hbl g x' y hgN (by omega)
          have hstx : letN (bel nx lp g) c (x + 1) = lampN (bel nx lp g x) (letN (bel nx lp g) c x) 4 := rfl
          obtain ⟨t1, ht1⟩ := letN_pre (bel nx lp g) c x
          generalize letN (bel nx lp g) c x = c1 at *
          repeat (first | refine zc ?_ | refine zv ?_)
          refine awp_loop (fun y : Nat => y ≤ 4) (fun y => [(1, .d (.int .u64 fr)), (2, .d (.ptr (.agg [.int .i64 s, rows nx, ints lp]))), (5, .own 19), (6, .own 20), (7, .d (.int .i64 i)), (8, .d (.int .i64 x)), (31, .d (.int .i64 nx.length)), (32, .d (.int .i64 x)), (35, .d (.int .i64 y))]) (fun y => [(19, .arr 83 1 (fl (lampN (bel nx lp g x) c1 y))), (20, .map (mets (lampN (bel nx lp g x) c1 y)))]) (fun y => 4 - y) 0 (by omega) ?_ rfl ?_
          · exact zs
          · intro y hy
            by_cases hyl : y < 4
            · have e1 := hbe g x y hgN hxl
              have hoky : LOk N fr (lampN (bel nx lp g x) c1 y) := lampN_ok hokx y fun y' h1 => hbl g x y' hgN hxl
              have hsty : lampN (bel nx lp g x) c1 (y + 1) = addL (lampN (bel nx lp g x) c1 y) (bel nx lp g x y) := rfl
              obtain ⟨t2, ht2⟩ := lampN_pre (bel nx lp g x) c1 y
              have hgy : (fl (lampN (bel nx lp g x) c1 y))[(i : Int).toNat]? = some (.int .u64 g) := by
                have hil2 : i < c1.length := by rw [ht1, List.length_append]; omega
                unfold fl
                rw [List.getElem?_map, ht2, Int.toNat_natCast, List.getElem?_append_left hil2, ht1, List.getElem?_append_left hil, hgi]
                rfl
              have hleny := hoky.len
              have hly := hfl (lampN (bel nx lp g x) c1 y)
              have hil3 : i < (lampN (bel nx lp g x) c1 y).length := by rw [ht2, ht1, List.length_append, List.length_append]; omega
              generalize lampN (bel nx lp g x) c1 y = c2 at *
              have hky := mets_keys c2
              have hget := mets_get (bel nx lp g x y) c2
              have hput := mets_put (bel nx lp g x y) c2
              generalize bel nx lp g x y = b at *
              by_cases hmem : b ∈ c2
              · rw [if_pos hmem] at hget
                rw [addL_in hmem] at hsty
                have hget' : MGet (b : Int) (mets c2) (some (.bool true)) := ⟨hget⟩
                repeat (first | refine zc ?_ | ((first | apply x_l | apply x_q | apply x_lr | apply x_qr); (focus (first | (apply wa_got; (iterate 11 (focus (first | exact rfl | (first | assumption | omega | (simp; omega) | (simp; done) | rfl))))))); exact rfl) | ((first | apply c_l | apply c_q | apply c_lr | apply c_qr); (iterate 2 exact rfl); (focus (first | exact e1)); (iterate 2 exact rfl)) | (apply v_x; (iterate 2 exact rfl); (focus (intro ok0 nw hle; (first | (apply wa_got; (iterate 11 (focus (first | exact rfl | (first | assumption | omega | (simp; omega) | (simp; done) | rfl)))))))); (iterate 2 exact rfl)) | (apply v_c; (iterate 4 exact rfl); (focus (first | exact e1)); (iterate 2 exact rfl)) | refine zv ?_)
                refine loop_n (y + 1) (by omega) ?_ ?_ (by omega)
                · exact zs
                · rw [hsty]
              · rw [if_neg hmem] at hget
                rw [addL_out hmem] at hsty
                have hput' := hput hmem
                have hget' : MGet (b : Int) (mets c2) none := ⟨hget⟩
                have hflb : fl (c2 ++ [b]) = fl c2 ++ [.int .u64 b] := by simp [fl]
                repeat (first | refine zc ?_ | ((first | apply x_l | apply x_q | apply x_lr | apply x_qr); (focus (first | (apply wa_got; (iterate 11 (focus (first | exact rfl | (first | assumption | omega | (simp; omega) | (simp; done) | rfl))))))); exact rfl) | ((first | apply c_l | apply c_q | apply c_lr | apply c_qr); (iterate 2 exact rfl); (focus (first | exact e1)); (iterate 2 exact rfl)) | (apply v_x; (iterate 2 exact rfl); (focus (intro ok0 nw hle; (first | (apply wa_got; (iterate 11 (focus (first | exact rfl | (first | assumption | omega | (simp; omega) | (simp; done) | rfl)))))))); (iterate 2 exact rfl)) | (apply v_c; (iterate 4 exact rfl); (focus (first | exact e1)); (iterate 2 exact rfl)) | refine zv ?_)
                refine loop_n (y + 1) (by omega) ?_ ?_ (by omega)
                · exact zs
                · rw [hsty, ← hput', hflb]; rfl
            · have : y = 4 := by omega
              subst this
              rw [← hstx]
              repeat (first | refine zc ?_ | refine zv ?_)
              refine loop_n (x + 1) (by omega) ?_ rfl (by omega)
              exact zs
        · have : x = nx.length := by omega
          subst this
          rw [← hnext]
          repeat (first | refine zc ?_ | refine zv ?_)
          refine loop_n (i + 1) (by omega) ?_ rfl (by omega)
          exact zs
    · have hiI : i = I := by omega
      subst hiI
      rw [← hl] at hoki hlen hfli ⊢
      have hnd := hoki.nd
      have hlt' := hoki.lt
      refine awp_freeze 20 rfl rfl ?_
      refine awp_freeze 19 rfl rfl ?_
      repeat (first | refine zc ?_ | refine zv ?_)
      refine awp_loop (fun d : Nat => d ≤ Z + 2) (fun d => [(2, .d (.ptr (.agg [.int .i64 s, rows nx, ints lp]))), (5, .d (.lst (fl l))), (11, .own 58), (12, .d (.int .i64 d)), (13, .d (.bool (decide (d ≤ Z + 1))))]) (fun d => [(58, .map (KV nx lp l d))]) (fun d => Z + 2 - d) 0 (by omega) ?_ rfl ?_
      · exact zs
      · intro d hd
        by_cases hdl : d ≤ Z + 1
        · rw [decide_eq_true hdl]
          have hkd := KV_keys (nx := nx) (lp := lp) (l := l) d
          have hgd := KV_get (nx := nx) (lp := lp) (l := l) d
          have hnx : KV nx lp l (d + 1) = rnd nx lp d l (KV nx lp l d) := rfl
          generalize KV nx lp l d = kv at *
          have hr0 : kv = rnd nx lp d (l.take 0) kv := rfl
          have hn0 : nwB nx lp d (l.take 0) = false := by cases d <;> rfl
          repeat (first | refine zc ?_ | refine zv ?_)
          refine awp_loop (fun j : Nat => j ≤ l.length) (fun j => [(2, .d (.ptr (.agg [.int .i64 s, rows nx, ints lp]))), (5, .d (.lst (fl l))), (11, .own 58), (12, .d (.int .i64 d)), (13, .d (.bool (nwB nx lp d (l.take j)))), (62, .d (.lst (fl l))), (63, .d (.int .i64 l.length)), (64, .d (.int .i64 j))]) (fun j => [(58, .map (rnd nx lp d (l.take j) kv))]) (fun j => l.length - j) 0 (by omega) ?_ rfl ?_
          · refine ⟨rfl, rfl, rfl, rfl, ?_, rfl, ?_, rfl, trivial⟩
            · rw [hn0]; rfl
            · exact congrArg (fun n : Nat => SV.d (.int .i64 n)) hfli
          · intro j hj
            have hkj := rnd_keys (nx := nx) (lp := lp) (d := d) (m := l.take j) hkd
            have hgj := rnd_get hgd j hj
            by_cases hjl : j < l.length
            · have hel : (fl l)[(j : Int).toNat]? = some (.int .u64 ((l[j] : Nat) : Int)) := by simp [fl, hjl]
              have hmem := List.getElem_mem hjl
              have hgN := hlt' _ hmem
              have hnt : l[j] ∉ l.take j := fun h => by
                obtain ⟨k, hk, e⟩ := List.mem_take_iff_getElem.1 h
                have := (List.getElem_inj hnd).1 e
                omega
              have hgg := hgj _ hmem
              rw [if_neg hnt] at hgg
              have htk := rnd_take (nx := nx) (lp := lp) (d := d) (kvs := kv) hjl
              generalize hkjj : rnd nx lp d (l.take j) kv = kj at *
              unfold stepR at htk
              by_cases hkn : 0 ≤ prv nx lp d l[j]
              · have ho : optD (prv nx lp d l[j]) = some (.int .i64 (prv nx lp d l[j])) := if_pos hkn
                rw [ho] at hgg
                have hget : MGet ((l[j] : Nat) : Int) kj (some (.int .i64 (prv nx lp d l[j]))) := ⟨hgg⟩
                rw [hgg] at htk
                have hnw : nwB nx lp d (l.take (j + 1)) = nwB nx lp d (l.take j) := by
                  cases d with
                  | zero => rfl
                  | succ d =>
                    rw [nwB_take hjl]
                    have : decide (dN nx lp d l[j] < 0) = false := decide_eq_false (by have : 0 ≤ dN nx lp d l[j] := hkn; omega)
                    rw [this]; simp
                repeat (first | refine zc ?_ | ((first | apply x_l | apply x_q | apply x_lr | apply x_qr); (focus (first | (apply wa_got; (iterate 11 (focus (first | exact rfl | (first | assumption | omega | (simp; omega) | (simp; done) | rfl))))))); exact rfl) | (apply v_x; (iterate 2 exact rfl); (focus (intro ok0 nw hle; (first | (apply wa_got; (iterate 11 (focus (first | exact rfl | (first | assumption | omega | (simp; omega) | (simp; done) | rfl)))))))); (iterate 2 exact rfl)) | refine zv ?_)
                refine loop_n (j + 1) (by omega) ?_ ?_ (by omega)
                · rw [hnw]; exact zs
                · rw [htk]
              · have ho : optD (prv nx lp d l[j]) = none := if_neg hkn
                rw [ho] at hgg
                have hget : MGet ((l[j] : Nat) : Int) kj none := ⟨hgg⟩
                rw [hgg] at htk
                cases d with
                | zero =>
                  have e1 := hsm _ hgN
                  have hd0 : dN nx lp 0 l[j] = if sm l[j] then 0 else -1 := rfl
                  have hnw : nwB nx lp 0 (l.take (j + 1)) = nwB nx lp 0 (l.take j) := rfl
                  cases hsmb : sm l[j]
                  · rw [hsmb] at hd0 e1
                    rw [hd0] at htk
                    repeat (first | refine zc ?_ | ((first | apply x_l | apply x_q | apply x_lr | apply x_qr); (focus (first | (apply wa_got; (iterate 11 (focus (first | exact rfl | (first | assumption | omega | (simp; omega) | (simp; done) | rfl))))))); exact rfl) | ((first | apply c_l | apply c_q | apply c_lr | apply c_qr); (iterate 2 exact rfl); (focus (first | exact e1)); (iterate 2 exact rfl)) | (apply v_x; (iterate 2 exact rfl); (focus (intro ok0 nw hle; (first | (apply wa_got; (iterate 11 (focus (first | exact rfl | (first | assumption | omega | (simp; omega) | (simp; done) | rfl)))))))); (iterate 2 exact rfl)) | (apply v_c; (iterate 4 exact rfl); (focus (first | exact e1)); (iterate 2 exact rfl)) | refine zv ?_)
                    refine loop_n (j + 1) (by omega) ?_ ?_ (by omega)
                    · rw [hnw]; exact zs
                    · rw [htk]; rfl
                  · rw [hsmb] at hd0 e1
                    rw [hd0] at htk
                    repeat (first | refine zc ?_ | ((first | apply x_l | apply x_q | apply x_lr | apply x_qr); (focus (first | (apply wa_got; (iterate 11 (focus (first | exact rfl | (first | assumption | omega | (simp; omega) | (simp; done) | rfl))))))); exact rfl) | ((first | apply c_l | apply c_q | apply c_lr | apply c_qr); (iterate 2 exact rfl); (focus (first | exact e1)); (iterate 2 exact rfl)) | (apply v_x; (iterate 2 exact rfl); (focus (intro ok0 nw hle; (first | (apply wa_got; (iterate 11 (focus (first | exact rfl | (first | assumption | omega | (simp; omega) | (simp; done) | rfl)))))))); (iterate 2 exact rfl)) | (apply v_c; (iterate 4 exact rfl); (focus (first | exact e1)); (iterate 2 exact rfl)) | refine zv ?_)
                    refine loop_n (j + 1) (by omega) ?_ ?_ (by omega)
                    · rw [hnw]; exact zs
                    · rw [htk]; rfl
                | succ e =>
                  have hneg : dN nx lp e l[j] < 0 := by
                    have : ¬ 0 ≤ dN nx lp e l[j] := hkn
                    omega
                  have e1 := hlet l[j] (fun g => if g ∈ l.take j then dN nx lp (e + 1) g else dN nx lp e g) ((e + 1 : Nat) : Int) kj hgN hkj fun x y hx hy => by
                    have := hgj _ (hcl _ hmem x y hx hy)
                    rw [this]
                    show _ = optD (if bel nx lp l[j] x y ∈ l.take j then dN nx lp (e + 1) (bel nx lp l[j] x y) else dN nx lp e (bel nx lp l[j] x y))
                    split <;> rfl
                  have hfit : ∀ x, fitB (fun g => if g ∈ l.take j then dN nx lp (e + 1) g else dN nx lp e g) ((e + 1 : Nat) : Int) (bel nx lp l[j] x) 4 = good sm (bel nx lp) nx.length 4 e l[j] x := fun x => by
                    have hp2 : ∀ g, (decide (0 ≤ (if g ∈ l.take j then dN nx lp (e + 1) g else dN nx lp e g)) && decide ((if g ∈ l.take j then dN nx lp (e + 1) g else dN nx lp e g) < ((e + 1 : Nat) : Int))) = decide (0 ≤ dN nx lp e g) := fun g => by
                      rw [Bool.eq_iff_iff]
                      simp only [Bool.and_eq_true, decide_eq_true_eq]
                      have h1 := dN_range (nx := nx) (lp := lp) (d := e) (f := g)
                      have h2 : 0 ≤ dN nx lp e g ↔ 0 ≤ dN nx lp (e + 1) g ∧ dN nx lp (e + 1) g ≤ e := dv_le (by omega : e ≤ e + 1)
                      split
                      · rw [h2]; omega
                      · omega
                    unfold fitB good
                    congr 1
                    funext y
                    exact hp2 (bel nx lp l[j] x y)
                  have hfe : fstL (fun x => fitB (fun g => if g ∈ l.take j then dN nx lp (e + 1) g else dN nx lp e g) ((e + 1 : Nat) : Int) (bel nx lp l[j] x) 4) nx.length (-1) = fstL (fun x => good sm (bel nx lp) nx.length 4 e l[j] x) nx.length (-1) := by
                    congr 1
                    funext x
                    exact hfit x
                  rw [hfe] at e1
                  have hnw := nwB_take (nx := nx) (lp := lp) (d := e) hjl
                  rw [decide_eq_true hneg, Bool.true_and] at hnw
                  by_cases hnew : 0 ≤ dN nx lp (e + 1) l[j]
                  · obtain ⟨x, hx1, hx2, hx3⟩ := fstL_mem (z := -1) ((new_iff hneg).1 hnew)
                    rw [hx1] at e1
                    rw [decide_eq_true hnew, Bool.or_true] at hnw
                    simp only [] at htk
                    rw [if_pos hnew, new_val hneg hnew] at htk
                    repeat (first | refine zc ?_ | ((first | apply x_l | apply x_q | apply x_lr | apply x_qr); (focus (first | (apply wa_got; (iterate 11 (focus (first | exact rfl | (first | assumption | omega | (simp; omega) | (simp; done) | rfl))))))); exact rfl) | ((first | apply c_l | apply c_q | apply c_lr | apply c_qr); (iterate 2 exact rfl); (focus (first | exact e1)); (iterate 2 exact rfl)) | (apply v_x; (iterate 2 exact rfl); (focus (intro ok0 nw hle; (first | (apply wa_got; (iterate 11 (focus (first | exact rfl | (first | assumption | omega | (simp; omega) | (simp; done) | rfl)))))))); (iterate 2 exact rfl)) | (apply v_c; (iterate 4 exact rfl); (focus (first | exact e1)); (iterate 2 exact rfl)) | refine zv ?_)
                    refine u_sl ?_ ?_
                    rotate_left
                    · intro hb; exact absurd hb (by first | (simp; done) | (simp; omega))
                    intro _
                    repeat (first | refine zc ?_ | ((first | apply x_l | apply x_q | apply x_lr | apply x_qr); (focus (first | (apply wa_got; (iterate 11 (focus (first | exact rfl | (first | assumption | omega | (simp; omega) | (simp; done) | rfl))))))); exact rfl) | ((first | apply c_l | apply c_q | apply c_lr | apply c_qr); (iterate 2 exact rfl); (focus (first | exact e1)); (iterate 2 exact rfl)) | (apply v_x; (iterate 2 exact rfl); (focus (intro ok0 nw hle; (first | (apply wa_got; (iterate 11 (focus (first | exact rfl | (first | assumption | omega | (simp; omega) | (simp; done) | rfl)))))))); (iterate 2 exact rfl)) | (apply v_c; (iterate 4 exact rfl); (focus (first | exact e1)); (iterate 2 exact rfl)) | refine zv ?_)
                    refine loop_n (j + 1) (by omega) ?_ ?_ (by omega)
                    · rw [hnw]; exact zs
                    · rw [htk]; rfl
                  · have hfn : fstL (fun x => good sm (bel nx lp) nx.length 4 e l[j] x) nx.length (-1) = -1 := fstL_none fun x hx => by
                      cases h : good sm (bel nx lp) nx.length 4 e l[j] x with
                      | false => rfl
                      | true => exact absurd ((new_iff hneg).2 ⟨x, hx, h⟩) hnew
                    rw [hfn] at e1
                    rw [decide_eq_false hnew, Bool.or_false] at hnw
                    simp only [] at htk
                    rw [if_neg hnew] at htk
                    repeat (first | refine zc ?_ | ((first | apply x_l | apply x_q | apply x_lr | apply x_qr); (focus (first | (apply wa_got; (iterate 11 (focus (first | exact rfl | (first | assumption | omega | (simp; omega) | (simp; done) | rfl))))))); exact rfl) | ((first | apply c_l | apply c_q | apply c_lr | apply c_qr); (iterate 2 exact rfl); (focus (first | exact e1)); (iterate 2 exact rfl)) | (apply v_x; (iterate 2 exact rfl); (focus (intro ok0 nw hle; (first | (apply wa_got; (iterate 11 (focus (first | exact rfl | (first | assumption | omega | (simp; omega) | (simp; done) | rfl)))))))); (iterate 2 exact rfl)) | (apply v_c; (iterate 4 exact rfl); (focus (first | exact e1)); (iterate 2 exact rfl)) | refine zv ?_)
                    refine u_sl ?_ ?_
                    rotate_left
                    · intro hb; exact absurd hb (by first | (simp; done) | (simp; omega))
                    intro _
                    repeat (first | refine zc ?_ | ((first | apply x_l | apply x_q | apply x_lr | apply x_qr); (focus (first | (apply wa_got; (iterate 11 (focus (first | exact rfl | (first | assumption | omega | (simp; omega) | (simp; done) | rfl))))))); exact rfl) | ((first | apply c_l | apply c_q | apply c_lr | apply c_qr); (iterate 2 exact rfl); (focus (first | exact e1)); (iterate 2 exact rfl)) | (apply v_x; (iterate 2 exact rfl); (focus (intro ok0 nw hle; (first | (apply wa_got; (iterate 11 (focus (first | exact rfl | (first | assumption | omega | (simp; omega) | (simp; done) | rfl)))))))); (iterate 2 exact rfl)) | (apply v_c; (iterate 4 exact rfl); (focus (first | exact e1)); (iterate 2 exact rfl)) | refine zv ?_)
                    refine loop_n (j + 1) (by omega) ?_ ?_ (by omega)
                    · rw [hnw]; exact zs
                    · rw [htk]
            · have hjl' : j = l.length := by omega
              subst hjl'
              rw [List.take_length] at *
              rw [← hnx]
              cases d with
              | zero =>
                have hnw : nwB nx lp 0 l = false := rfl
                rw [hnw]
                repeat (first | refine zc ?_ | refine zv ?_)
                refine loop_n 1 (by omega) ?_ rfl (by omega)
                exact zs
              | succ e =>
                have hnw : nwB nx lp (e + 1) l = decide (e + 2 ≤ Z + 1) := by
                  rw [Bool.eq_iff_iff, nwB_still, decide_eq_true_eq]
                  constructor
                  · intro h
                    rcases Nat.lt_or_ge e Z with h' | h'
                    · omega
                    · have : e = Z := by omega
                      subst this
                      exact absurd hst h
                  · intro h; exact hmin e (by omega)
                rw [hnw]
                cases hdec : decide (e + 2 ≤ Z + 1)
                · repeat (first | refine zc ?_ | refine zv ?_)
                  refine loop_n (e + 2) (by omega) ?_ rfl (by omega)
                  rw [hdec]
                  exact zs
                · repeat (first | refine zc ?_ | refine zv ?_)
                  refine loop_n (e + 2) (by omega) ?_ rfl (by omega)
                  rw [hdec]
                  exact zs
        · have : d = Z + 2 := by omega
          subst this
          rw [decide_eq_false (by omega)]
          repeat (first | refine zc ?_ | refine zv ?_)
          (refine awp_ret ?_; (repeat (first | refine then_r ?_ | refine block_r ?_ | refine loop_r ?_)); apply ret_ok (.inr rfl); (focus exact rfl))
          rfl
end Go.Proofs.Ytampglcgipefnaa
