/- Calls to which one's own memory is lent and which make memory of their own. No condition. -/
import Derived.Test.YtffmlijngfhhaaaDoorFwN
namespace Go.Proofs.YtffmlijngfhhaaaDoor
open Go
open Go.RowKit (Below)
set_option linter.unusedVariables false
set_option linter.unusedSimpArgs false

section
variable {cx : Cx} {ops : Array Oper} {rest : List Oper} {s : Slots} {H : Heap} {Q : Exit → Slots → Heap → Prop} {t ty : Nat} {pos : String} {af : Array Edge}

end
end Go.Proofs.YtffmlijngfhhaaaDoor

/-! Regions that draw their order and turn one's own memory. No condition. -/
namespace Go.Proofs.YtffmlijngfhhaaaDoor
open Go
open Go.RowKit (Below)
set_option linter.unusedVariables false
set_option linter.unusedSimpArgs false

mutual
/-- This speaks of no block of K, and says something. -/
def SV.okK (K : List Nat) : SV → Bool
  | .junk => false
  | .und => true
  | .d _ => true
  | .ref i _ => !(memB i K)
  | .own i => !(memB i K)
  | .elt i _ => !(memB i K)
  | .sub i _ => !(memB i K)
  | .agg l => SV.oksK K l
  | .tup l => SV.oksK K l
  | .fn _ l => SV.oksK K l
def SV.oksK (K : List Nat) : List SV → Bool
  | [] => true
  | x :: l => SV.okK K x && SV.oksK K l
end

mutual
theorem okK_kill {K X : List Nat} (hX : ∀ i, memB i X = true → memB i K = true) : ∀ {x : SV}, x.okK K = true → x.kill X = x
  | .junk, h => by cases h
  | .und, _ => rfl
  | .d _, _ => rfl
  | .ref i o, h => by
    simp only [SV.okK, Bool.not_eq_true'] at h
    unfold SV.kill
    cases e : memB i X with
    | true => rw [hX i e] at h; cases h
    | false => rfl
  | .own i, h => by
    simp only [SV.okK, Bool.not_eq_true'] at h
    unfold SV.kill
    cases e : memB i X with
    | true => rw [hX i e] at h; cases h
    | false => rfl
  | .elt i o, h => by
    simp only [SV.okK, Bool.not_eq_true'] at h
    unfold SV.kill
    cases e : memB i X with
    | true => rw [hX i e] at h; cases h
    | false => rfl
  | .sub i o, h => by
    simp only [SV.okK, Bool.not_eq_true'] at h
    unfold SV.kill
    cases e : memB i X with
    | true => rw [hX i e] at h; cases h
    | false => rfl
  | .agg l, h => by unfold SV.okK at h; unfold SV.kill; rw [oksK_kill hX h]
  | .tup l, h => by unfold SV.okK at h; unfold SV.kill; rw [oksK_kill hX h]
  | .fn f l, h => by unfold SV.okK at h; unfold SV.kill; rw [oksK_kill hX h]
theorem oksK_kill {K X : List Nat} (hX : ∀ i, memB i X = true → memB i K = true) : ∀ {l : List SV}, SV.oksK K l = true → SV.kills X l = l
  | [], _ => by unfold SV.kills; rfl
  | x :: l, h => by
    unfold SV.oksK at h
    simp only [Bool.and_eq_true] at h
    unfold SV.kills
    rw [okK_kill hX h.1, oksK_kill hX h.2]
end

mutual
theorem kill_okK {K X : List Nat} : ∀ {x : SV}, (x.kill X).okK K = true → x.kill X = x
  | .junk, h => by unfold SV.kill; rfl
  | .und, _ => rfl
  | .d _, _ => rfl
  | .ref i o, h => by
    unfold SV.kill at h ⊢
    cases e : memB i X with
    | true => rw [e] at h; cases h
    | false => rfl
  | .own i, h => by
    unfold SV.kill at h ⊢
    cases e : memB i X with
    | true => rw [e] at h; cases h
    | false => rfl
  | .elt i o, h => by
    unfold SV.kill at h ⊢
    cases e : memB i X with
    | true => rw [e] at h; cases h
    | false => rfl
  | .sub i o, h => by
    unfold SV.kill at h ⊢
    cases e : memB i X with
    | true => rw [e] at h; cases h
    | false => rfl
  | .agg l, h => by unfold SV.kill at h ⊢; unfold SV.okK at h; rw [kills_okK h]
  | .tup l, h => by unfold SV.kill at h ⊢; unfold SV.okK at h; rw [kills_okK h]
  | .fn f l, h => by unfold SV.kill at h ⊢; unfold SV.okK at h; rw [kills_okK h]
theorem kills_okK {K X : List Nat} : ∀ {l : List SV}, SV.oksK K (SV.kills X l) = true → SV.kills X l = l
  | [], _ => by unfold SV.kills; rfl
  | x :: l, h => by
    unfold SV.kills at h ⊢
    unfold SV.oksK at h
    simp only [Bool.and_eq_true] at h
    rw [kill_okK h.1, kills_okK h.2]
end

mutual
theorem lm_okK {K : List Nat} {g : SV → SV} (h1 : ∀ x, x.leaf = true → x.okK K = true → g x = x) : ∀ {x : SV}, x.okK K = true → SV.lm g x = x
  | .junk, h => by cases h
  | .und, h => by unfold SV.lm; exact h1 _ rfl h
  | .d _, h => by unfold SV.lm; exact h1 _ rfl h
  | .ref i o, h => by unfold SV.lm; exact h1 _ rfl h
  | .own i, h => by unfold SV.lm; exact h1 _ rfl h
  | .elt i o, h => by unfold SV.lm; exact h1 _ rfl h
  | .sub i o, h => by unfold SV.lm; exact h1 _ rfl h
  | .agg l, h => by unfold SV.okK at h; unfold SV.lm; rw [lms_okK h1 h]
  | .tup l, h => by unfold SV.okK at h; unfold SV.lm; rw [lms_okK h1 h]
  | .fn f l, h => by unfold SV.okK at h; unfold SV.lm; rw [lms_okK h1 h]
theorem lms_okK {K : List Nat} {g : SV → SV} (h1 : ∀ x, x.leaf = true → x.okK K = true → g x = x) : ∀ {l : List SV}, SV.oksK K l = true → SV.lms g l = l
  | [], _ => by unfold SV.lms; rfl
  | x :: l, h => by
    unfold SV.oksK at h
    simp only [Bool.and_eq_true] at h
    unfold SV.lms
    rw [lm_okK h1 h.1, lms_okK h1 h.2]
end

mutual
theorem okK_lm {K : List Nat} {g : SV → SV} (h1 : ∀ x, x.leaf = true → (g x).okK K = true → g x = x) : ∀ {x : SV}, (SV.lm g x).okK K = true → SV.lm g x = x
  | .junk, h => by unfold SV.lm at h ⊢; exact h1 _ rfl h
  | .und, h => by unfold SV.lm at h ⊢; exact h1 _ rfl h
  | .d _, h => by unfold SV.lm at h ⊢; exact h1 _ rfl h
  | .ref i o, h => by unfold SV.lm at h ⊢; exact h1 _ rfl h
  | .own i, h => by unfold SV.lm at h ⊢; exact h1 _ rfl h
  | .elt i o, h => by unfold SV.lm at h ⊢; exact h1 _ rfl h
  | .sub i o, h => by unfold SV.lm at h ⊢; exact h1 _ rfl h
  | .agg l, h => by unfold SV.lm at h ⊢; unfold SV.okK at h; rw [okKs_lm h1 h]
  | .tup l, h => by unfold SV.lm at h ⊢; unfold SV.okK at h; rw [okKs_lm h1 h]
  | .fn f l, h => by unfold SV.lm at h ⊢; unfold SV.okK at h; rw [okKs_lm h1 h]
theorem okKs_lm {K : List Nat} {g : SV → SV} (h1 : ∀ x, x.leaf = true → (g x).okK K = true → g x = x) : ∀ {l : List SV}, SV.oksK K (SV.lms g l) = true → SV.lms g l = l
  | [], _ => by unfold SV.lms; rfl
  | x :: l, h => by
    unfold SV.lms at h ⊢
    unfold SV.oksK at h
    simp only [Bool.and_eq_true] at h
    rw [okK_lm h1 h.1, okKs_lm h1 h.2]
end

/-- What becomes of the slots leaves alone what speaks of no block of K. -/
structure Fix (K : List Nat) (g : SV → SV) : Prop where
  junk : g .junk = .junk
  fix : ∀ x : SV, x.okK K = true → g x = x
  back : ∀ x : SV, (g x).okK K = true → g x = x

def subB (X K : List Nat) : Bool := X.all fun i => memB i K
theorem subB_all {X K : List Nat} (h : subB X K = true) : ∀ i, memB i X = true → memB i K = true := fun i hi => List.all_eq_true.1 h i (memB_iff.1 hi)
theorem fix_kill {K X : List Nat} (h : subB X K = true) : Fix K (SV.kill X) := ⟨rfl, fun _ hx => okK_kill (subB_all h) hx, fun _ hx => kill_okK hx⟩
theorem fix_id {K : List Nat} : Fix K (fun x => x) := ⟨rfl, fun _ _ => rfl, fun _ _ => rfl⟩
theorem fix_lm {K : List Nat} {g : SV → SV} (h0 : g .junk = .junk) (h1 : ∀ x, x.leaf = true → x.okK K = true → g x = x) (h2 : ∀ x, x.leaf = true → (g x).okK K = true → g x = x) : Fix K (SV.lm g) :=
  ⟨by unfold SV.lm; exact h0, fun _ hx => lm_okK h1 hx, fun _ hx => okK_lm h2 hx⟩

@[reducible] def Cx.wk (cx : Cx) (ok0 : Nat → Prop) (nw : Nat) (hle : cx.nw ≤ nw) : Cx := { cx with ok0 := ok0, nw := nw, nwle := Nat.le_trans cx.nwle hle }

/-- The operation yields this, wherever the data lie. -/
def QtA (cx : Cx) (h : Heap) (o : Oper) (f : Nat → SV) (sv : SV) : Prop := ∀ ok0 nw hle, Qt (cx.wk ok0 nw hle) h o f sv

section
variable {cx : Cx} {ops : Array Oper} {o : Oper} {h h' hs : Heap} {K : List Nat} {f f₁ : Nat → SV} {sv : SV}

theorem QtA.of_same (hq : QtA cx h o f sv) (hs : ∀ t, .tmp t ∈ o.op.operands → f₁ t = f t) : QtA cx h o f₁ sv := fun a b c s₁ h3 => hq a b c s₁ fun t ht => (h3 t ht).trans (hs t ht)

theorem simO_keep0 {g : SV → SV} : ∀ j, memB j K = false → simO (h.get j) ((keepH g K h).get j) := fun j hj => by
  rw [get_keepH hj]
  cases h.get j with
  | none => trivial
  | some c => exact sim_mapc c

theorem simO_symm {c c' : Option Chunk} (h : simO c c') : simO c' c := by
  cases c <;> cases c' <;> simp only [simO] at h ⊢
  rename_i a b
  cases a <;> cases b <;> simp only [Chunk.sim] at h ⊢
  · exact ⟨h.1.symm, h.2.symm⟩
  · exact h.symm

theorem QtA.lift (he : keepH (SV.kill K) K h = hs) (hq : QtA cx hs o f sv) (hsv : sv.okK K = true) (hop : ∀ t, .tmp t ∈ o.op.operands → (f t).okK K = true) : Qt cx h o f sv := by
  intro s₁ hs₁ σ a w hr Kc Q hK
  have hK0 : ∀ i, memB i K = true → memB i K = true := fun _ h => h
  let cx' := cx.wk (fun b => okf cx σ h b ∧ b < w.heap.size) w.heap.size hr.evo.size
  have hin : ∀ p ∈ hs, memB p.1 K = false ∧ ∃ c, (p.1, c) ∈ h ∧ p.2 = c.mapc (SV.kill K) ∧ blk (σ p.1) p.2 = blk (σ p.1) c := fun p hp => by
    rw [← he] at hp
    obtain ⟨h1, c, h2, h3⟩ := mem_keepH hp
    exact ⟨h1, c, h2, h3, by rw [h3, blk_mapc]⟩
  have hok : ∀ b, okf cx σ h b → b < w.heap.size → okf cx' σ hs b ∧ w.heap[b]? = w.heap[b]? := fun b h1 h2 => ⟨⟨.inl ⟨h1, h2⟩, fun p hp hb => by
    obtain ⟨_, c, h3, _, h5⟩ := hin p hp
    rw [h5] at hb
    exact h1.2 _ h3 hb⟩, rfl⟩
  have hsim : ∀ j, memB j K = false → simO (h.get j) (hs.get j) := fun j hj => by rw [← he]; exact simO_keep0 j hj
  have hr' : RW cx' σ (fun t => (s₁ t).kill K) hs a w := by
    refine ⟨⟨hr.evo.os, hr.evo.tape, hr.evo.output, Nat.le_refl _, hr.evo.block⟩, hr.defers, hr.size, ⟨?_, fun p hp => ?_, fun p hp q hq b hb hb' => ?_, fun p hp b hb => ?_, fun p hp => ?_, fun p hp ha => ?_⟩, fun t => RepSV.kill hok (fun _ _ => rfl) hsim (hr.slots t)⟩
    · rw [← he]; exact nodup_keepH hr.heap.nodup
    · obtain ⟨_, c, h3, _, h5⟩ := hin p hp
      rw [h5]; exact hr.heap.nd _ h3
    · obtain ⟨_, c, h3, _, h5⟩ := hin p hp
      obtain ⟨_, c', h3', _, h5'⟩ := hin q hq
      rw [h5] at hb
      rw [h5'] at hb'
      exact hr.heap.inj (p.1, c) h3 (q.1, c') h3' b hb hb'
    · obtain ⟨_, c, h3, _, h5⟩ := hin p hp
      rw [h5] at hb
      exact hr.heap.mine _ h3 b hb
    · obtain ⟨_, c, h3, h4, h5⟩ := hin p hp
      rw [h4]
      exact RepChunk.mapc (hr.heap.rep _ h3) hok (fun v x hv => RepSV.kill hok (fun _ _ => rfl) hsim hv) fun _ _ => rfl
    · obtain ⟨_, c, h3, _, _⟩ := hin p hp
      exact hr.heap.anc (p.1, c) h3 ha
  refine hq _ _ _ (fun t => (s₁ t).kill K) (fun t ht => by rw [hs₁ t ht]; exact okK_kill hK0 (hop t ht)) σ a w hr' Kc Q fun v w' hb hv => hK v w' hb ?_
  have hok2 : ∀ b, okf cx' σ hs b → b < w'.heap.size → okf cx σ h b ∧ w'.heap[b]? = w'.heap[b]? := fun b h1 _ => by
    rcases h1.1 with h2 | h2
    · exact ⟨h2.1, rfl⟩
    · have h2' : w.heap.size ≤ b := h2
      exact ⟨⟨.inr (Nat.le_trans hr.evo.size h2'), fun p hp hbb => by have := (hr.heap.mine p hp b hbb).2.2; omega⟩, rfl⟩
  have := RepSV.kill (σ' := σ) (K := K) hok2 (fun _ _ => rfl) (fun j hj => simO_symm (hsim j hj)) hv
  rwa [okK_kill hK0 hsv] at this

/-! ### Steps of a region -/

def guardAt (ops : Array Oper) (o : Oper) : List Nat := match o.guard with
  | some (g, _) => ((ops[g]?).bind (·.dst)).toList
  | none => []

theorem looks_op {t : Nat} (ht : .tmp t ∈ o.op.operands) : t ∈ o.looksAt ops := List.mem_append_left _ (List.mem_filterMap.2 ⟨.tmp t, by simpa using ht, rfl⟩)
theorem looks_guard {t : Nat} (ht : t ∈ guardAt ops o) : t ∈ o.looksAt ops := by
  unfold Oper.looksAt
  refine List.mem_append_right _ ?_
  unfold guardAt at ht
  cases hg : o.guard with
  | none => rw [hg] at ht; exact ht
  | some q => rw [hg] at ht; exact ht

theorem wanted_sameG (hs : ∀ t ∈ guardAt ops o, f₁ t = f t) : wantedA ops o f₁ = wantedA ops o f := by
  unfold guardAt at hs
  unfold wantedA
  cases hg : o.guard with
  | none => rfl
  | some q =>
    obtain ⟨j, want⟩ := q
    rw [hg] at hs
    simp only at hs ⊢
    cases hj : (ops[j]?).bind (·.dst) with
    | none => rfl
    | some t =>
      rw [hj] at hs
      simp only
      rw [hs t (by simp)]

theorem wanted_ok {b : Bool} (hw : wantedA ops o f = some b) : ∀ t ∈ guardAt ops o, (f t).okK K = true := by
  intro t ht
  unfold guardAt at ht
  unfold wantedA at hw
  cases hg : o.guard with
  | none => rw [hg] at ht; cases ht
  | some q =>
    obtain ⟨j, want⟩ := q
    rw [hg] at ht hw
    simp only at ht hw
    cases hj : (ops[j]?).bind (·.dst) with
    | none => rw [hj] at ht; cases ht
    | some u =>
      rw [hj] at ht hw
      have : t = u := by simpa using ht
      subst this
      simp only at hw
      split at hw
      · rename_i e; rw [e]; rfl
      · rename_i e; rw [e]; rfl
      · cases hw

/-- The operation turns one's own memory; of what the slots say besides what it looks at it asks nothing. -/
def Tt (cx : Cx) (ops : Array Oper) (o : Oper) (f : Nat → SV) (h : Heap) (g : SV → SV) (sv : SV) (h' : Heap) : Prop :=
  ∀ s₁ : Slots, (∀ t ∈ o.looksAt ops, lk s₁ t = f t) → ∀ a w, R cx (lk s₁) h a w → ∀ (Kc : Act → World → Prop) (Q : Exit → Act → World → Prop),
    (∀ a' w', R cx (fput (fun t => g (lk s₁ t)) o.dst sv) h' a' w' → Kc a' w') → o.wp cx.P a w Kc Q

theorem Tt.of_same {g : SV → SV} (ht : Tt cx ops o f h g sv h') (hs : ∀ t ∈ o.looksAt ops, f₁ t = f t) : Tt cx ops o f₁ h g sv h' := fun s₁ h3 => ht s₁ fun t ht' => (h3 t ht').trans (hs t ht')

/-- Which operations turn one's own memory, and which of its blocks. -/
abbrev Ann := List (Nat × List Nat)
def isT (ann : Ann) (i : Nat) : Bool := ann.any fun p => Nat.beq p.1 i

def waitsB (ms : List Nat) (i j : Nat) : Bool := (ms.getD j 0).testBit i
/-- An operation that reads but what is outside of K may be done before or behind all that turn something and for which it does not wait, nor they for it. -/
def kOkB (ms : List Nat) (ann : Ann) (i : Nat) (K : List Nat) : Bool := ann.all fun p => Nat.beq p.1 i || waitsB ms i p.1 || waitsB ms p.1 i || subB p.2 K

theorem okK_mono_aux {K X : List Nat} (h : ∀ i, memB i X = true → memB i K = true) {i : Nat} (hi : (!(memB i K)) = true) : (!(memB i X)) = true := by
  cases e : memB i X with
  | false => rfl
  | true => rw [h i e] at hi; cases hi
mutual
theorem okK_mono {K X : List Nat} (h : ∀ i, memB i X = true → memB i K = true) : ∀ {x : SV}, x.okK K = true → x.okK X = true
  | .junk, hx => hx
  | .und, _ => rfl
  | .d _, _ => rfl
  | .ref i o, hx => by unfold SV.okK at hx ⊢; exact okK_mono_aux h hx
  | .own i, hx => by unfold SV.okK at hx ⊢; exact okK_mono_aux h hx
  | .elt i o, hx => by unfold SV.okK at hx ⊢; exact okK_mono_aux h hx
  | .sub i o, hx => by unfold SV.okK at hx ⊢; exact okK_mono_aux h hx
  | .agg l, hx => by unfold SV.okK at hx ⊢; exact oksK_mono h hx
  | .tup l, hx => by unfold SV.okK at hx ⊢; exact oksK_mono h hx
  | .fn f l, hx => by unfold SV.okK at hx ⊢; exact oksK_mono h hx
theorem oksK_mono {K X : List Nat} (h : ∀ i, memB i X = true → memB i K = true) : ∀ {l : List SV}, SV.oksK K l = true → SV.oksK X l = true
  | [], _ => by unfold SV.oksK; rfl
  | x :: l, hx => by
    unfold SV.oksK at hx ⊢
    simp only [Bool.and_eq_true] at hx ⊢
    exact ⟨okK_mono h hx.1, oksK_mono h hx.2⟩
end

mutual
theorem kill_kill {K X : List Nat} (h : ∀ i, memB i X = true → memB i K = true) : ∀ x : SV, (x.kill X).kill K = x.kill K
  | .junk => rfl
  | .und => rfl
  | .d _ => rfl
  | .ref i o => by
    cases e : memB i X with
    | false => simp only [SV.kill, e]
    | true => simp only [SV.kill, e, h i e]
  | .own i => by
    cases e : memB i X with
    | false => simp only [SV.kill, e]
    | true => simp only [SV.kill, e, h i e]
  | .elt i o => by
    cases e : memB i X with
    | false => simp only [SV.kill, e]
    | true => simp only [SV.kill, e, h i e]
  | .sub i o => by
    cases e : memB i X with
    | false => simp only [SV.kill, e]
    | true => simp only [SV.kill, e, h i e]
  | .agg l => by simp only [SV.kill, kills_kills h l]
  | .tup l => by simp only [SV.kill, kills_kills h l]
  | .fn f l => by simp only [SV.kill, kills_kills h l]
theorem kills_kills {K X : List Nat} (h : ∀ i, memB i X = true → memB i K = true) : ∀ l : List SV, SV.kills K (SV.kills X l) = SV.kills K l
  | [] => rfl
  | x :: l => by simp only [SV.kills, kill_kill h x, kills_kills h l]
end

theorem mapc_mapc {f g : SV → SV} (c : Chunk) : (c.mapc f).mapc g = c.mapc fun x => g (f x) := by
  cases c with
  | box cells => simp [Chunk.mapc]
  | arr e sz xs => rfl
  | rows e e' sz xss hole => cases hole <;> rfl
  | map kvs => rfl

theorem keep_keep {K X : List Nat} (h : ∀ i, memB i X = true → memB i K = true) : ∀ H : Heap, keepH (SV.kill K) K (keepH (SV.kill X) X H) = keepH (SV.kill K) K H
  | [] => rfl
  | p :: H => by
    cases e : memB p.1 X with
    | true =>
      simp only [keepH, e, h _ e]
      exact keep_keep h H
    | false =>
      cases e' : memB p.1 K with
      | true =>
        simp only [keepH, e, e']
        exact keep_keep h H
      | false =>
        simp only [keepH, e, e', keep_keep h H, mapc_mapc, kill_kill h]

theorem keep_eq {K X : List Nat} (h : ∀ i, memB i X = true → memB i K = true) {H H' : Heap} (he : keepH (SV.kill X) X H = keepH (SV.kill X) X H') : keepH (SV.kill K) K H = keepH (SV.kill K) K H' := by
  rw [← keep_keep h H, he, keep_keep h H']

/-- A step of operation i: it stays with what is outside of K; it is not wanted; or it turns X. -/
inductive Step (cx : Cx) (ops : Array Oper) (ms : List Nat) (ann : Ann) (i : Nat) (o : Oper) (f : Nat → SV) (h : Heap) : (Nat → SV) → Heap → Prop where
  | still (K : List Nat) (sv : SV) : kOkB ms ann i K = true → wantedA ops o f = some true → QtA cx (keepH (SV.kill K) K h) o f sv → sv.okK K = true → (∀ t ∈ o.looksAt ops, (f t).okK K = true) → Step cx ops ms ann i o f h (fput f o.dst sv) h
  | skip : wantedA ops o f = some false → Step cx ops ms ann i o f h (fput f o.dst .und) h
  | turn (X : List Nat) (g : SV → SV) (sv : SV) (h' : Heap) : (i, X) ∈ ann → wantedA ops o f = some true → Tt cx ops o f h g sv h' → Fix X g → keepH (SV.kill X) X h = keepH (SV.kill X) X h' → Step cx ops ms ann i o f h (fput (fun t => g (f t)) o.dst sv) h'

theorem fput_map {g : SV → SV} {d : Option Nat} {v : SV} : (fun t => g (fput f d v t)) = fput (fun t => g (f t)) d (g v) := by
  cases d with
  | none => rfl
  | some d =>
    funext t
    simp only [fput, upd]
    split <;> rfl

theorem kOk_spec {ms : List Nat} {ann : Ann} {i j : Nat} {K X : List Nat} (hk : kOkB ms ann i K = true) (hj : (j, X) ∈ ann) (hne : j ≠ i) (h1 : waitsB ms i j = false) (h2 : waitsB ms j i = false) : ∀ u, memB u X = true → memB u K = true := by
  have := List.all_eq_true.1 hk _ hj
  simp only [h1, h2, Bool.or_false, Bool.or_eq_true] at this
  rcases this with h | h
  · exact absurd (Nat.eq_of_beq_eq_true h) hne
  · exact subB_all h

theorem Step.swap {ms : List Nat} {ann : Ann} {i j : Nat} {oi oj : Oper} {f f1 f2 : Nat → SV} {h h1 h2 : Heap} (hne : j ≠ i) (w1 : waitsB ms i j = false) (w2 : waitsB ms j i = false) (hap : oi.apart ops oj = true) (hT : isT ann i = true → isT ann j = true → False)
    (hi : Step cx ops ms ann i oi f h f1 h1) (hj : Step cx ops ms ann j oj f1 h1 f2 h2) : ∃ f3 h3, Step cx ops ms ann j oj f h f3 h3 ∧ Step cx ops ms ann i oi f3 h3 f2 h2 := by
  obtain ⟨a1, a2, a3⟩ := Oper.apart_spec hap
  have d1 : ∀ {s : Nat → SV} {v : SV} {t : Nat}, t ∈ oj.looksAt ops → fput s oi.dst v t = s t := fun {s v t} ht => fput_ne fun d hd e => by subst e; exact a1 d hd ht
  have d3 : ∀ {s : Nat → SV} {v : SV} {t : Nat}, t ∈ oi.looksAt ops → fput s oj.dst v t = s t := fun {s v t} ht => fput_ne fun d hd e => by subst e; exact a3 d hd ht
  have com : ∀ {s : Nat → SV} {u v : SV}, fput (fput s oi.dst u) oj.dst v = fput (fput s oj.dst v) oi.dst u := fun {s u v} => fput_comm a2
  have tOf : ∀ {k : Nat} {X : List Nat}, (k, X) ∈ ann → isT ann k = true := fun {k X} hk => List.any_eq_true.2 ⟨_, hk, by simp⟩
  cases hi with
  | still K sv c1 v1 q1 k1 o1 =>
    cases hj with
    | still K' sv' c2 v2 q2 k2 o2 =>
      refine ⟨_, _, .still K' sv' c2 ((wanted_sameG fun t ht => (d1 (looks_guard ht)).symm).trans v2) (q2.of_same fun t ht => (d1 (looks_op ht)).symm) k2 (fun t ht => by rw [← d1 (s := f) (v := sv) ht]; exact o2 t ht), ?_⟩
      rw [com]
      exact .still K sv c1 ((wanted_sameG fun t ht => d3 (looks_guard ht)).trans v1) (q1.of_same fun t ht => d3 (looks_op ht)) k1 (fun t ht => by rw [d3 ht]; exact o1 t ht)
    | skip v2 =>
      refine ⟨_, _, .skip ((wanted_sameG fun t ht => (d1 (looks_guard ht)).symm).trans v2), ?_⟩
      rw [com]
      exact .still K sv c1 ((wanted_sameG fun t ht => d3 (looks_guard ht)).trans v1) (q1.of_same fun t ht => d3 (looks_op ht)) k1 (fun t ht => by rw [d3 ht]; exact o1 t ht)
    | turn X g sv' h' t2 v2 m2 x2 e2 =>
      have hXK := kOk_spec c1 t2 hne w1 w2
      refine ⟨_, _, .turn X g sv' h2 t2 ((wanted_sameG fun t ht => (d1 (looks_guard ht)).symm).trans v2) (m2.of_same fun t ht => (d1 ht).symm) x2 e2, ?_⟩
      rw [fput_map, x2.fix sv (okK_mono hXK k1), com]
      have hg : ∀ t ∈ oi.looksAt ops, fput (fun t => g (f t)) oj.dst sv' t = f t := fun t ht => by rw [d3 ht]; exact x2.fix _ (okK_mono hXK (o1 t ht))
      refine .still K sv c1 ((wanted_sameG fun t ht => hg t (looks_guard ht)).trans v1) ?_ k1 (fun t ht => by rw [hg t ht]; exact o1 t ht)
      rw [← keep_eq hXK e2]
      exact q1.of_same fun t ht => hg t (looks_op ht)
  | skip v1 =>
    cases hj with
    | still K' sv' c2 v2 q2 k2 o2 =>
      refine ⟨_, _, .still K' sv' c2 ((wanted_sameG fun t ht => (d1 (looks_guard ht)).symm).trans v2) (q2.of_same fun t ht => (d1 (looks_op ht)).symm) k2 (fun t ht => by rw [← d1 (s := f) (v := .und) ht]; exact o2 t ht), ?_⟩
      rw [com]
      exact .skip ((wanted_sameG fun t ht => d3 (looks_guard ht)).trans v1)
    | skip v2 =>
      refine ⟨_, _, .skip ((wanted_sameG fun t ht => (d1 (looks_guard ht)).symm).trans v2), ?_⟩
      rw [com]
      exact .skip ((wanted_sameG fun t ht => d3 (looks_guard ht)).trans v1)
    | turn X g sv' h' t2 v2 m2 x2 e2 =>
      refine ⟨_, _, .turn X g sv' h2 t2 ((wanted_sameG fun t ht => (d1 (looks_guard ht)).symm).trans v2) (m2.of_same fun t ht => (d1 ht).symm) x2 e2, ?_⟩
      rw [fput_map, x2.fix .und rfl, com]
      exact .skip ((wanted_sameG fun t ht => by rw [d3 (looks_guard ht)]; exact x2.fix _ (wanted_ok v1 t ht)).trans v1)
  | turn X g sv h' t1 v1 m1 x1 e1 =>
    cases hj with
    | still K' sv' c2 v2 q2 k2 o2 =>
      have hXK := kOk_spec c2 t1 (Ne.symm hne) w2 w1
      have hb : ∀ t ∈ oj.looksAt ops, f t = fput (fun t => g (f t)) oi.dst sv t := fun t ht => by
        have := o2 t ht
        rw [d1 ht] at this ⊢
        exact (x1.back _ (okK_mono hXK this)).symm
      refine ⟨_, _, .still K' sv' c2 ((wanted_sameG fun t ht => hb t (looks_guard ht)).trans v2) ?_ k2 (fun t ht => by rw [hb t ht]; exact o2 t ht), ?_⟩
      · rw [keep_eq hXK e1]
        exact q2.of_same fun t ht => hb t (looks_op ht)
      · have := Step.turn (cx := cx) (ms := ms) (f := fput f oj.dst sv') X g sv h1 t1 ((wanted_sameG (o := oi) (ops := ops) fun t ht => d3 (looks_guard ht)).trans v1) (m1.of_same fun t ht => d3 ht) x1 e1
        rw [fput_map, x1.fix sv' (okK_mono hXK k2), ← com] at this
        exact this
    | skip v2 =>
      have hb : ∀ t ∈ guardAt ops oj, f t = fput (fun t => g (f t)) oi.dst sv t := fun t ht => by
        have := wanted_ok (K := X) v2 t ht
        rw [d1 (looks_guard ht)] at this ⊢
        exact (x1.back _ this).symm
      refine ⟨_, _, .skip ((wanted_sameG hb).trans v2), ?_⟩
      have := Step.turn (cx := cx) (ms := ms) (f := fput f oj.dst .und) X g sv h1 t1 ((wanted_sameG (o := oi) (ops := ops) fun t ht => d3 (looks_guard ht)).trans v1) (m1.of_same fun t ht => d3 ht) x1 e1
      rw [fput_map, x1.fix .und rfl, ← com] at this
      exact this
    | turn X' g' sv' h'' t2 v2 m2 x2 e2 => exact (hT (tOf t1) (tOf t2)).elim

/-- In which order a region is walked: 'take i K': operation i, which may be done first, reads but what is outside of K; 'fork': i or j, whichever comes first. -/
inductive Plan where
  | done
  | take (i : Nat) (K : List Nat) (p : Plan)
  | fork (i j : Nat) (p q : Plan)
  | fork3 (i j k : Nat) (p q r : Plan)
def Plan.tk (K : List Nat) : List Nat → Plan → Plan
  | [], p => p
  | i :: l, p => .take i K (Plan.tk K l p)

def getO : List Oper → Nat → Option Oper
  | [], _ => none
  | o :: _, 0 => some o
  | _ :: l, i + 1 => getO l i
/-- A step of the walk. -/
inductive StepP (cx : Cx) (ops : Array Oper) (ann : Ann) (i : Nat) (K : List Nat) (o : Oper) (f : Nat → SV) (h : Heap) : (Nat → SV) → Heap → Prop where
  | still (sv : SV) : isT ann i = false → wantedA ops o f = some true → QtA cx (keepH (SV.kill K) K h) o f sv → sv.okK K = true → (∀ t ∈ o.looksAt ops, (f t).okK K = true) → StepP cx ops ann i K o f h (fput f o.dst sv) h
  | skip : wantedA ops o f = some false → StepP cx ops ann i K o f h (fput f o.dst .und) h
  | turn (X : List Nat) (g : SV → SV) (sv : SV) (h' : Heap) : (i, X) ∈ ann → wantedA ops o f = some true → Tt cx ops o f h g sv h' → Fix X g → keepH (SV.kill X) X h = keepH (SV.kill X) X h' → StepP cx ops ann i K o f h (fput (fun t => g (f t)) o.dst sv) h'

theorem StepP.step {ms : List Nat} {ann : Ann} {i : Nat} {K : List Nat} {f f' : Nat → SV} {h h' : Heap} (hs : StepP cx ops ann i K o f h f' h') (hk : isT ann i = true ∨ kOkB ms ann i K = true) : Step cx ops ms ann i o f h f' h' := by
  cases hs with
  | still sv t v q k o => 
    rcases hk with hk | hk
    · rw [t] at hk; cases hk
    · exact .still K sv hk v q k o
  | skip v => exact .skip v
  | turn X g sv h' t v m x e => exact .turn X g sv h' t v m x e

def pWalk (cx : Cx) (l : List Oper) (ann : Ann) (Kc : (Nat → SV) → Heap → Prop) : Plan → (Nat → SV) → Heap → Prop
  | .done, f, h => Kc f h
  | .take i K p, f, h => ∃ o f' h', getO l i = some o ∧ StepP cx l.toArray ann i K o f h f' h' ∧ pWalk cx l ann Kc p f' h'
  | .fork i j p q, f, h => (∃ o f' h', getO l i = some o ∧ StepP cx l.toArray ann i [] o f h f' h' ∧ pWalk cx l ann Kc p f' h') ∧ (∃ o f' h', getO l j = some o ∧ StepP cx l.toArray ann j [] o f h f' h' ∧ pWalk cx l ann Kc q f' h')
  | .fork3 i j k p q r, f, h => (∃ o f' h', getO l i = some o ∧ StepP cx l.toArray ann i [] o f h f' h' ∧ pWalk cx l ann Kc p f' h') ∧ (∃ o f' h', getO l j = some o ∧ StepP cx l.toArray ann j [] o f h f' h' ∧ pWalk cx l ann Kc q f' h') ∧
    (∃ o f' h', getO l k = some o ∧ StepP cx l.toArray ann k [] o f h f' h' ∧ pWalk cx l ann Kc r f' h')

/-- The walk, over slots that are listed. -/
def awpM (cx : Cx) (l : List Oper) (ann : Ann) (Kc : Slots → Heap → Prop) (p : Plan) (s : Slots) (h : Heap) : Prop := pWalk cx l ann (fun f h => ∃ s', lk s' = f ∧ Kc s' h) p (lk s) h

end

/-! ### The rules of such a walk -/

section
variable {cx : Cx} {h h' : Heap} {K : List Nat} {ann : Ann} {Kc : Slots → Heap → Prop} {l : List Oper} {p q r : Plan} {i j k t ty : Nat} {s : Slots} {op : Op} {pos : String} {af : Array Edge} {gd : Option (Nat × Bool)} {sv : SV} {o : Oper} {dst : Option Nat}

def okAll (K : List Nat) (s : Slots) (ids : List Nat) : Bool := ids.all fun t => (lk s t).okK K

theorem m_nil (hk : Kc s h) : awpM cx l ann Kc .done s h := ⟨s, rfl, hk⟩
theorem m_s (hn : awpM cx l ann Kc p (put s o.dst sv) h) (hi : getO l i = some o) (ht : isT ann i = false) (hw : wantedA l.toArray o (lk s) = some true) (hq : QtA cx (keepH (SV.kill K) K h) o (lk s) sv) (hsv : sv.okK K = true) (ho : okAll K s (o.looksAt l.toArray) = true) :
    awpM cx l ann Kc (.take i K p) s h := ⟨_, _, _, hi, .still sv ht hw hq hsv (fun t ht => List.all_eq_true.1 ho t ht), by rw [← lk_put]; exact hn⟩
theorem m_k (hn : awpM cx l ann Kc p (put s o.dst .und) h) (hi : getO l i = some o) (hw : wantedA l.toArray o (lk s) = some false) : awpM cx l ann Kc (.take i K p) s h := ⟨_, _, _, hi, .skip hw, by rw [← lk_put]; exact hn⟩

def sel (s : Slots) (ids : List Nat) : Slots := ids.map fun t => (t, lk s t)
theorem lk_sel {ids : List Nat} {s₁ : Slots} (hs : ∀ t ∈ ids, lk s₁ t = lk s t) : lk (sel s ids ++ s₁) = lk s₁ := by
  funext u
  induction ids with
  | nil => rfl
  | cons i ids ih =>
    simp only [sel, List.map_cons, List.cons_append, lk] at ih ⊢
    split
    · rename_i e; subst e; exact (hs u (List.mem_cons_self ..)).symm
    · exact ih fun t ht => hs t (List.mem_cons_of_mem _ ht)

def annGet : Ann → Nat → Option (List Nat)
  | [], _ => none
  | p :: l, i => match Nat.beq p.1 i with
    | true => some p.2
    | false => annGet l i
theorem annGet_mem : ∀ {ann : Ann} {i : Nat} {X : List Nat}, annGet ann i = some X → (i, X) ∈ ann
  | [], i, X, h => by cases h
  | p :: l, i, X, h => by
    simp only [annGet] at h
    split at h
    · rename_i e
      have := Nat.eq_of_beq_eq_true e
      cases h
      subst this
      exact List.mem_cons_self ..
    · exact List.mem_cons_of_mem _ (annGet_mem h)

/-- An operation that turns one's own memory. -/
theorem m_t {g : SV → SV} {X ids : List Nat} (ho : ∀ rest : Slots, OpTo cx o (sel s ids ++ rest) h (put (mapS g (sel s ids ++ rest)) o.dst sv) h') (hn : awpM cx l ann Kc p (put (mapS g s) o.dst sv) h')
    (hi : getO l i = some o) (hids : o.looksAt l.toArray = ids) (hw : wantedA l.toArray o (lk s) = some true) (hts : annGet ann i = some X) (hg : Fix X g) (he : keepH (SV.kill X) X h = keepH (SV.kill X) X h') : awpM cx l ann Kc (.take i K p) s h := by
  have hl : ∀ s : Slots, lk (put (mapS g s) o.dst sv) = fput (fun t => g (lk s t)) o.dst sv := fun s => by
    rw [lk_put]
    congr 1
    funext t
    exact lk_mapS hg.junk s t
  refine ⟨_, _, _, hi, .turn X g sv h' (annGet_mem hts) hw (fun s₁ hs₁ a w hr Kc Q hK => ?_) hg he, by rw [← hl]; exact hn⟩
  have e := lk_sel (s := s) (ids := ids) (s₁ := s₁) fun t ht => hs₁ t (by rw [hids]; exact ht)
  refine ho s₁ a w (by rw [e]; exact hr) Kc Q fun a' w' hr' => hK a' w' ?_
  rw [hl, e] at hr'
  exact hr'
/-- The same, of one that leaves the slots as they are. -/
theorem m_t0 {X ids : List Nat} (ho : ∀ rest : Slots, OpTo cx o (sel s ids ++ rest) h (put (sel s ids ++ rest) o.dst sv) h') (hn : awpM cx l ann Kc p (put s o.dst sv) h')
    (hi : getO l i = some o) (hids : o.looksAt l.toArray = ids) (hw : wantedA l.toArray o (lk s) = some true) (hts : annGet ann i = some X) (he : keepH (SV.kill X) X h = keepH (SV.kill X) X h') : awpM cx l ann Kc (.take i K p) s h := by
  have hm : ∀ s : Slots, mapS (fun x => x) s = s := fun s => by unfold mapS; simp
  exact m_t (g := fun x => x) (fun rest => by rw [hm]; exact ho rest) (by rw [hm]; exact hn) hi hids hw hts fix_id he
end
/-! ### What the rows' operations leave alone -/

theorem beq_notin {k j : Nat} {X : List Nat} (hk : memB k X = false) (hj : memB j X = true) : Nat.beq k j = false := by
  cases e : Nat.beq k j with
  | false => rfl
  | true =>
    have := Nat.eq_of_beq_eq_true e
    subst this
    rw [hj] at hk
    cases hk

theorem fix_gApp {id j : Nat} {X : List Nat} (hid : memB id X = true) (hj : memB j X = true) : Fix X (SV.lm (gApp id j)) := fix_lm rfl
  (fun x hl hx => by cases x <;> first | rfl | (simp only [SV.okK, Bool.not_eq_true'] at hx; simp only [gApp, beq_notin hx hj, beq_notin hx hid]))
  (fun x hl hx => by cases x <;> simp only [gApp] at hx ⊢ <;> (repeat' split at hx) <;> simp_all [SV.okK])
theorem fix_gLit {id j : Nat} {X : List Nat} (hid : memB id X = true) (hj : memB j X = true) : Fix X (SV.lm (gLit id j)) := fix_lm rfl
  (fun x hl hx => by cases x <;> first | rfl | (simp only [SV.okK, Bool.not_eq_true'] at hx; simp only [gLit, beq_notin hx hj, beq_notin hx hid]))
  (fun x hl hx => by cases x <;> simp only [gLit] at hx ⊢ <;> (repeat' split at hx) <;> simp_all [SV.okK])
theorem fix_gPut {id i j : Nat} {X : List Nat} (hid : memB id X = true) (hj : memB j X = true) : Fix X (SV.lm (gPut id i j)) := fix_lm rfl
  (fun x hl hx => by cases x <;> first | rfl | (simp only [SV.okK, Bool.not_eq_true'] at hx; simp only [gPut, beq_notin hx hj, beq_notin hx hid]))
  (fun x hl hx => by cases x <;> simp only [gPut] at hx ⊢ <;> (repeat' split at hx) <;> simp_all [SV.okK])
end Go.Proofs.YtffmlijngfhhaaaDoor
