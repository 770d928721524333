/- Calls to which one's own memory is lent and which make memory of their own. No condition. -/
import Derived.Test.YtckpadnjldebaaaGreatFwN
namespace Go.Proofs.YtckpadnjldebaaaGreat
open Go
open Go.RowKit (Below)
set_option linter.unusedVariables false
set_option linter.unusedSimpArgs false
section
variable {cx : Cx} {ops : Array Oper} {rest : List Oper} {s : Slots} {H : Heap} {Q : Exit -> Slots -> Heap -> Prop} {t ty : Nat} {pos : String} {af : Array Edge}
end
end Go.Proofs.YtckpadnjldebaaaGreat
namespace Go.Proofs.YtckpadnjldebaaaGreat
open Go
open Go.RowKit (Below)
set_option linter.unusedVariables false
set_option linter.unusedSimpArgs false
mutual
def SV.okK (K : List Nat) : SV -> Bool
  | .junk => false
  | .und => true
  | .d _ => true
  | .ref i _ => !(memB i K)
  | .own i => !(memB i K)
  | .elt i _ => !(memB i K)
  | .sub i _ => !(memB i K)
  | .cel _ _ _ => false
  | .agg l => SV.oksK K l
  | .tup l => SV.oksK K l
  | .fn _ l => SV.oksK K l
def SV.oksK (K : List Nat) : List SV -> Bool
  | [] => true
  | x :: l => SV.okK K x && SV.oksK K l
end
mutual
theorem okK_kill {K X : List Nat} (hX : ∀ i, memB i X = true -> memB i K = true) : ∀ {x : SV}, x.okK K = true -> x.kill X = x
  | .junk, h => by cases h
  | .cel _ _ _, h => by cases h
  | .und, _ => rfl
  | .d _, _ => rfl
  | .ref i o, h => by
    simp only [SV.okK, Bool.not_eq_true'] at h
    unfold SV.kill
    cases e : memB i X with
    | true => rw [hX i e] at h; cases h
    | false => rfl
  | .own i, h => by
    simp only [SV.okK, Bool.not_eq_true'] at h
    unfold SV.kill
    cases e : memB i X with
    | true => rw [hX i e] at h; cases h
    | false => rfl
  | .elt i o, h => by
    simp only [SV.okK, Bool.not_eq_true'] at h
    unfold SV.kill
    cases e : memB i X with
    | true => rw [hX i e] at h; cases h
    | false => rfl
  | .sub i o, h => by
    simp only [SV.okK, Bool.not_eq_true'] at h
    unfold SV.kill
    cases e : memB i X with
    | true => rw [hX i e] at h; cases h
    | false => rfl
  | .agg l, h => by unfold SV.okK at h; unfold SV.kill; rw [oksK_kill hX h]
  | .tup l, h => by unfold SV.okK at h; unfold SV.kill; rw [oksK_kill hX h]
  | .fn f l, h => by unfold SV.okK at h; unfold SV.kill; rw [oksK_kill hX h]
theorem oksK_kill {K X : List Nat} (hX : ∀ i, memB i X = true -> memB i K = true) : ∀ {l : List SV}, SV.oksK K l = true -> SV.kills X l = l
  | [], _ => by unfold SV.kills; rfl
  | x :: l, h => by
    unfold SV.oksK at h
    simp only [Bool.and_eq_true] at h
    unfold SV.kills
    rw [okK_kill hX h.1, oksK_kill hX h.2]
end
mutual
theorem kill_okK {K X : List Nat} : ∀ {x : SV}, (x.kill X).okK K = true -> x.kill X = x
  | .junk, h => by unfold SV.kill; rfl
  | .und, _ => rfl
  | .d _, _ => rfl
  | .cel i r o, h => by
    unfold SV.kill at h
    cases e : memB i X with
    | true => rw [e] at h; cases h
    | false => rw [e] at h; cases h
  | .ref i o, h => by
    unfold SV.kill at h ⊢
    cases e : memB i X with
    | true => rw [e] at h; cases h
    | false => rfl
  | .own i, h => by
    unfold SV.kill at h ⊢
    cases e : memB i X with
    | true => rw [e] at h; cases h
    | false => rfl
  | .elt i o, h => by
    unfold SV.kill at h ⊢
    cases e : memB i X with
    | true => rw [e] at h; cases h
    | false => rfl
  | .sub i o, h => by
    unfold SV.kill at h ⊢
    cases e : memB i X with
    | true => rw [e] at h; cases h
    | false => rfl
  | .agg l, h => by unfold SV.kill at h ⊢; unfold SV.okK at h; rw [kills_okK h]
  | .tup l, h => by unfold SV.kill at h ⊢; unfold SV.okK at h; rw [kills_okK h]
  | .fn f l, h => by unfold SV.kill at h ⊢; unfold SV.okK at h; rw [kills_okK h]
theorem kills_okK {K X : List Nat} : ∀ {l : List SV}, SV.oksK K (SV.kills X l) = true -> SV.kills X l = l
  | [], _ => by unfold SV.kills; rfl
  | x :: l, h => by
    unfold SV.kills at h ⊢
    unfold SV.oksK at h
    simp only [Bool.and_eq_true] at h
    rw [kill_okK h.1, kills_okK h.2]
end
mutual
theorem lm_okK {K : List Nat} {g : SV -> SV} (h1 : ∀ x, x.leaf = true -> x.okK K = true -> g x = x) : ∀ {x : SV}, x.okK K = true -> SV.lm g x = x
  | .junk, h => by cases h
  | .cel _ _ _, h => by cases h
  | .und, h => by unfold SV.lm; exact h1 _ rfl h
  | .d _, h => by unfold SV.lm; exact h1 _ rfl h
  | .ref i o, h => by unfold SV.lm; exact h1 _ rfl h
  | .own i, h => by unfold SV.lm; exact h1 _ rfl h
  | .elt i o, h => by unfold SV.lm; exact h1 _ rfl h
  | .sub i o, h => by unfold SV.lm; exact h1 _ rfl h
  | .agg l, h => by unfold SV.okK at h; unfold SV.lm; rw [lms_okK h1 h]
  | .tup l, h => by unfold SV.okK at h; unfold SV.lm; rw [lms_okK h1 h]
  | .fn f l, h => by unfold SV.okK at h; unfold SV.lm; rw [lms_okK h1 h]
theorem lms_okK {K : List Nat} {g : SV -> SV} (h1 : ∀ x, x.leaf = true -> x.okK K = true -> g x = x) : ∀ {l : List SV}, SV.oksK K l = true -> SV.lms g l = l
  | [], _ => by unfold SV.lms; rfl
  | x :: l, h => by
    unfold SV.oksK at h
    simp only [Bool.and_eq_true] at h
    unfold SV.lms
    rw [lm_okK h1 h.1, lms_okK h1 h.2]
end
mutual
theorem okK_lm {K : List Nat} {g : SV -> SV} (h1 : ∀ x, x.leaf = true -> (g x).okK K = true -> g x = x) : ∀ {x : SV}, (SV.lm g x).okK K = true -> SV.lm g x = x
  | .junk, h => by unfold SV.lm at h ⊢; exact h1 _ rfl h
  | .und, h => by unfold SV.lm at h ⊢; exact h1 _ rfl h
  | .d _, h => by unfold SV.lm at h ⊢; exact h1 _ rfl h
  | .ref i o, h => by unfold SV.lm at h ⊢; exact h1 _ rfl h
  | .own i, h => by unfold SV.lm at h ⊢; exact h1 _ rfl h
  | .elt i o, h => by unfold SV.lm at h ⊢; exact h1 _ rfl h
  | .sub i o, h => by unfold SV.lm at h ⊢; exact h1 _ rfl h
  | .agg l, h => by unfold SV.lm at h ⊢; unfold SV.okK at h; rw [okKs_lm h1 h]
  | .tup l, h => by unfold SV.lm at h ⊢; unfold SV.okK at h; rw [okKs_lm h1 h]
  | .fn f l, h => by unfold SV.lm at h ⊢; unfold SV.okK at h; rw [okKs_lm h1 h]
theorem okKs_lm {K : List Nat} {g : SV -> SV} (h1 : ∀ x, x.leaf = true -> (g x).okK K = true -> g x = x) : ∀ {l : List SV}, SV.oksK K (SV.lms g l) = true -> SV.lms g l = l
  | [], _ => by unfold SV.lms; rfl
  | x :: l, h => by
    unfold SV.lms at h ⊢
    unfold SV.oksK at h
    simp only [Bool.and_eq_true] at h
    rw [okK_lm h1 h.1, okKs_lm h1 h.2]
end
structure Fix (K : List Nat) (g : SV -> SV) : Prop where
  junk : g .junk = .junk
  fix : ∀ x : SV, x.okK K = true -> g x = x
  back : ∀ x : SV, (g x).okK K = true -> g x = x
def subB (X K : List Nat) : Bool := X.all fun i => memB i K
theorem subB_all {X K : List Nat} (h : subB X K = true) : ∀ i, memB i X = true -> memB i K = true := fun i hi => List.all_eq_true.1 h i (memB_iff.1 hi)
theorem fix_kill {K X : List Nat} (h : subB X K = true) : Fix K (SV.kill X) := ⟨rfl, fun _ hx => okK_kill (subB_all h) hx, fun _ hx => kill_okK hx⟩
theorem fix_id {K : List Nat} : Fix K (fun x => x) := ⟨rfl, fun _ _ => rfl, fun _ _ => rfl⟩
theorem fix_lm {K : List Nat} {g : SV -> SV} (h0 : g .junk = .junk) (h1 : ∀ x, x.leaf = true -> x.okK K = true -> g x = x) (h2 : ∀ x, x.leaf = true -> (g x).okK K = true -> g x = x) : Fix K (SV.lm g) :=
  ⟨by unfold SV.lm; exact h0, fun _ hx => lm_okK h1 hx, fun _ hx => okK_lm h2 hx⟩
@[reducible] def Cx.wk (cx : Cx) (ok0 : Nat -> Prop) (nw : Nat) (hle : cx.nw <= nw) : Cx := { cx with ok0 := ok0, nw := nw, nwle := Nat.le_trans cx.nwle hle }
def QtA (cx : Cx) (h : Heap) (o : Oper) (f : Nat -> SV) (sv : SV) : Prop := ∀ ok0 nw hle, Qt (cx.wk ok0 nw hle) h o f sv
section
variable {cx : Cx} {ops : Array Oper} {o : Oper} {h h' hs : Heap} {K : List Nat} {f f₁ : Nat -> SV} {sv : SV}
theorem QtA.of_same (hq : QtA cx h o f sv) (hs : ∀ t, .tmp t ∈ o.op.operands -> f₁ t = f t) : QtA cx h o f₁ sv := fun a b c s₁ h3 => hq a b c s₁ fun t ht => (h3 t ht).trans (hs t ht)
theorem simO_keep0 {g : SV -> SV} : ∀ j, memB j K = false -> simO (h.get j) ((keepH g K h).get j) := fun j hj => by
  rw [get_keepH hj]
  cases h.get j with
  | none => trivial
  | some c => exact sim_mapc c
theorem simO_symm {c c' : Option Chunk} (h : simO c c') : simO c' c := by
  cases c <;> cases c' <;> simp only [simO] at h ⊢
  rename_i a b
  cases a <;> cases b <;> simp only [Chunk.sim] at h ⊢
  . exact ⟨h.1.symm, h.2.symm⟩
  . exact h.symm
theorem QtA.lift (he : keepH (SV.kill K) K h = hs) (hq : QtA cx hs o f sv) (hsv : sv.okK K = true) (hop : ∀ t, .tmp t ∈ o.op.operands -> (f t).okK K = true) : Qt cx h o f sv := by
  intro s₁ hs₁ σ a w hr Kc Q hK
  have hK0 : ∀ i, memB i K = true -> memB i K = true := fun _ h => h
  let cx' := cx.wk (fun b => okf cx σ h b /\ b < w.heap.size) w.heap.size hr.evo.size
  have hin : ∀ p ∈ hs, memB p.1 K = false /\ ∃ c, (p.1, c) ∈ h /\ p.2 = c.mapc (SV.kill K) /\ blk (σ p.1) p.2 = blk (σ p.1) c := fun p hp => by
    rw [<- he] at hp
    obtain ⟨h1, c, h2, h3⟩ := mem_keepH hp
    exact ⟨h1, c, h2, h3, by rw [h3, blk_mapc]⟩
  have hok : ∀ b, okf cx σ h b -> b < w.heap.size -> okf cx' σ hs b /\ w.heap[b]? = w.heap[b]? := fun b h1 h2 => ⟨⟨.inl ⟨h1, h2⟩, fun p hp hb => by
    obtain ⟨_, c, h3, _, h5⟩ := hin p hp
    rw [h5] at hb
    exact h1.2 _ h3 hb⟩, rfl⟩
  have hsim : ∀ j, memB j K = false -> simO (h.get j) (hs.get j) := fun j hj => by rw [<- he]; exact simO_keep0 j hj
  have hr' : RW cx' σ (fun t => (s₁ t).kill K) hs a w := by
    refine ⟨⟨hr.evo.os, hr.evo.tape, hr.evo.output, Nat.le_refl _, hr.evo.block⟩, hr.defers, hr.size, ⟨?_, fun p hp => ?_, fun p hp q hq b hb hb' => ?_, fun p hp b hb => ?_, fun p hp => ?_, fun p hp ha => ?_⟩, fun t => RepSV.kill hok (fun _ _ => rfl) hsim (hr.slots t)⟩
    . rw [<- he]; exact nodup_keepH hr.heap.nodup
    . obtain ⟨_, c, h3, _, h5⟩ := hin p hp
      rw [h5]; exact hr.heap.nd _ h3
    . obtain ⟨_, c, h3, _, h5⟩ := hin p hp
      obtain ⟨_, c', h3', _, h5'⟩ := hin q hq
      rw [h5] at hb
      rw [h5'] at hb'
      exact hr.heap.inj (p.1, c) h3 (q.1, c') h3' b hb hb'
    . obtain ⟨_, c, h3, _, h5⟩ := hin p hp
      rw [h5] at hb
      exact hr.heap.mine _ h3 b hb
    . obtain ⟨_, c, h3, h4, h5⟩ := hin p hp
      rw [h4]
      exact RepChunk.mapc (hr.heap.rep _ h3) hok (fun v x hv => RepSV.kill hok (fun _ _ => rfl) hsim hv) fun _ _ => rfl
    . obtain ⟨_, c, h3, _, _⟩ := hin p hp
      exact hr.heap.anc (p.1, c) h3 ha
  refine hq _ _ _ (fun t => (s₁ t).kill K) (fun t ht => by rw [hs₁ t ht]; exact okK_kill hK0 (hop t ht)) σ a w hr' Kc Q fun v w' hb hv => hK v w' hb ?_
  have hok2 : ∀ b, okf cx' σ hs b -> b < w'.heap.size -> okf cx σ h b /\ w'.heap[b]? = w'.heap[b]? := fun b h1 _ => by
    rcases h1.1 with h2 | h2
    . exact ⟨h2.1, rfl⟩
    . have h2' : w.heap.size <= b := h2
      exact ⟨⟨.inr (Nat.le_trans hr.evo.size h2'), fun p hp hbb => by have := (hr.heap.mine p hp b hbb).2.2; omega⟩, rfl⟩
  have := RepSV.kill (σ' := σ) (K := K) hok2 (fun _ _ => rfl) (fun j hj => simO_symm (hsim j hj)) hv
  rwa [okK_kill hK0 hsv] at this
def guardAt (ops : Array Oper) (o : Oper) : List Nat := match o.guard with
  | some (g, _) => ((ops[g]?).bind (·.dst)).toList
  | none => []
theorem looks_op {t : Nat} (ht : .tmp t ∈ o.op.operands) : t ∈ o.looksAt ops := List.mem_append_left _ (List.mem_filterMap.2 ⟨.tmp t, by simpa using ht, rfl⟩)
theorem looks_guard {t : Nat} (ht : t ∈ guardAt ops o) : t ∈ o.looksAt ops := by
  unfold Oper.looksAt
  refine List.mem_append_right _ ?_
  unfold guardAt at ht
  cases hg : o.guard with
  | none => rw [hg] at ht; exact ht
  | some q => rw [hg] at ht; exact ht
theorem wanted_sameG (hs : ∀ t ∈ guardAt ops o, f₁ t = f t) : wantedA ops o f₁ = wantedA ops o f := by
  unfold guardAt at hs
  unfold wantedA
  cases hg : o.guard with
  | none => rfl
  | some q =>
    obtain ⟨j, want⟩ := q
    rw [hg] at hs
    simp only at hs ⊢
    cases hj : (ops[j]?).bind (·.dst) with
    | none => rfl
    | some t =>
      rw [hj] at hs
      simp only
      rw [hs t (by simp)]
theorem wanted_ok {b : Bool} (hw : wantedA ops o f = some b) : ∀ t ∈ guardAt ops o, (f t).okK K = true := by
  intro t ht
  unfold guardAt at ht
  unfold wantedA at hw
  cases hg : o.guard with
  | none => rw [hg] at ht; cases ht
  | some q =>
    obtain ⟨j, want⟩ := q
    rw [hg] at ht hw
    simp only at ht hw
    cases hj : (ops[j]?).bind (·.dst) with
    | none => rw [hj] at ht; cases ht
    | some u =>
      rw [hj] at ht hw
      have : t = u := by simpa using ht
      subst this
      simp only at hw
      split at hw
      . rename_i e; rw [e]; rfl
      . rename_i e; rw [e]; rfl
      . cases hw
def Tt (cx : Cx) (ops : Array Oper) (o : Oper) (f : Nat -> SV) (h : Heap) (g : SV -> SV) (sv : SV) (h' : Heap) : Prop :=
  ∀ s₁ : Slots, (∀ t ∈ o.looksAt ops, lk s₁ t = f t) -> ∀ a w, R cx (lk s₁) h a w -> ∀ (Kc : Act -> World -> Prop) (Q : Exit -> Act -> World -> Prop),
    (∀ a' w', R cx (fput (fun t => g (lk s₁ t)) o.dst sv) h' a' w' -> Kc a' w') -> o.wp cx.P a w Kc Q
theorem Tt.of_same {g : SV -> SV} (ht : Tt cx ops o f h g sv h') (hs : ∀ t ∈ o.looksAt ops, f₁ t = f t) : Tt cx ops o f₁ h g sv h' := fun s₁ h3 => ht s₁ fun t ht' => (h3 t ht').trans (hs t ht')
abbrev Ann := List (Nat × List Nat)
def isT (ann : Ann) (i : Nat) : Bool := ann.any fun p => Nat.beq p.1 i
def maskOf (acc : List Nat) (o : Oper) : Nat := o.after.toList.foldl (fun m e => if Region.binds .any e then m ||| (2 ^ e.on ||| acc.getD e.on 0) else m) 0
def masksOf (l : List Oper) : List Nat := l.foldl (fun acc o => acc ++ [maskOf acc o]) []
def waitsB (ms : List Nat) (i j : Nat) : Bool := (ms.getD j 0).testBit i
def msOk (ops : Array Oper) (ms : List Nat) : Bool := (List.range ops.size).all fun j => (List.range ops.size).all fun i => !(waitsB ms i j) || match ops[j]? with
  | some oj => oj.after.any fun e => Region.binds .any e && (e.on == i || (Nat.blt e.on j && waitsB ms i e.on))
  | none => false
theorem waits_listed {ms : List Nat} (hm : msOk ops ms = true) {n i : Nat} {listed : Array Bool} (hi : i < ops.size) (inv : HeadInv .any ops n listed) : ∀ (d j : Nat) (oj : Oper), j <= d -> ops[j]? = some oj -> waitsB ms i j = true -> (∀ e ∈ oj.after, Region.binds .any e = true -> listed.getD e.on false = true) -> listed.getD i false = true := by
  intro d
  induction d with
  | zero =>
    intro j oj hj hoj hw hall
    have h1 := List.all_eq_true.1 (List.all_eq_true.1 hm j (List.mem_range.2 (Array.getElem?_eq_some_iff.1 hoj).1)) i (List.mem_range.2 hi)
    rw [hw, hoj] at h1
    simp only [Bool.not_true, Bool.false_or] at h1
    obtain ⟨e, he, hb⟩ := Array.any_eq_true'.1 h1
    simp only [Bool.and_eq_true, Bool.or_eq_true, beq_iff_eq] at hb
    rcases hb.2 with h2 | h2
    . rw [<- h2]; exact hall e he hb.1
    . have := Nat.le_of_ble_eq_true h2.1
      omega
  | succ d ih =>
    intro j oj hj hoj hw hall
    have h1 := List.all_eq_true.1 (List.all_eq_true.1 hm j (List.mem_range.2 (Array.getElem?_eq_some_iff.1 hoj).1)) i (List.mem_range.2 hi)
    rw [hw, hoj] at h1
    simp only [Bool.not_true, Bool.false_or] at h1
    obtain ⟨e, he, hb⟩ := Array.any_eq_true'.1 h1
    simp only [Bool.and_eq_true, Bool.or_eq_true, beq_iff_eq] at hb
    rcases hb.2 with h2 | h2
    . rw [<- h2]; exact hall e he hb.1
    . have hlt := Nat.le_of_ble_eq_true h2.1
      have hjs := (Array.getElem?_eq_some_iff.1 hoj).1
      have hm' : ops[e.on]? = some ops[e.on] := Array.getElem?_eq_getElem (by omega)
      exact ih e.on _ (by omega) hm' h2.2 fun e' he' hb' => inv.closed e.on _ hm' (hall e he hb.1) e' he' hb'
def kOkB (ms : List Nat) (ann : Ann) (i : Nat) (K : List Nat) : Bool := ann.all fun p => Nat.beq p.1 i || waitsB ms i p.1 || waitsB ms p.1 i || subB p.2 K
theorem okK_mono_aux {K X : List Nat} (h : ∀ i, memB i X = true -> memB i K = true) {i : Nat} (hi : (!(memB i K)) = true) : (!(memB i X)) = true := by
  cases e : memB i X with
  | false => rfl
  | true => rw [h i e] at hi; cases hi
mutual
theorem okK_mono {K X : List Nat} (h : ∀ i, memB i X = true -> memB i K = true) : ∀ {x : SV}, x.okK K = true -> x.okK X = true
  | .junk, hx => hx
  | .und, _ => rfl
  | .d _, _ => rfl
  | .ref i o, hx => by unfold SV.okK at hx ⊢; exact okK_mono_aux h hx
  | .own i, hx => by unfold SV.okK at hx ⊢; exact okK_mono_aux h hx
  | .elt i o, hx => by unfold SV.okK at hx ⊢; exact okK_mono_aux h hx
  | .sub i o, hx => by unfold SV.okK at hx ⊢; exact okK_mono_aux h hx
  | .agg l, hx => by unfold SV.okK at hx ⊢; exact oksK_mono h hx
  | .tup l, hx => by unfold SV.okK at hx ⊢; exact oksK_mono h hx
  | .fn f l, hx => by unfold SV.okK at hx ⊢; exact oksK_mono h hx
theorem oksK_mono {K X : List Nat} (h : ∀ i, memB i X = true -> memB i K = true) : ∀ {l : List SV}, SV.oksK K l = true -> SV.oksK X l = true
  | [], _ => by unfold SV.oksK; rfl
  | x :: l, hx => by
    unfold SV.oksK at hx ⊢
    simp only [Bool.and_eq_true] at hx ⊢
    exact ⟨okK_mono h hx.1, oksK_mono h hx.2⟩
end
mutual
theorem kill_kill {K X : List Nat} (h : ∀ i, memB i X = true -> memB i K = true) : ∀ x : SV, (x.kill X).kill K = x.kill K
  | .junk => rfl
  | .und => rfl
  | .d _ => rfl
  | .ref i o => by
    cases e : memB i X with
    | false => simp only [SV.kill, e]
    | true => simp only [SV.kill, e, h i e]
  | .own i => by
    cases e : memB i X with
    | false => simp only [SV.kill, e]
    | true => simp only [SV.kill, e, h i e]
  | .elt i o => by
    cases e : memB i X with
    | false => simp only [SV.kill, e]
    | true => simp only [SV.kill, e, h i e]
  | .cel i r o => by
    cases e : memB i X with
    | false => simp only [SV.kill, e]
    | true => simp only [SV.kill, e, h i e]
  | .sub i o => by
    cases e : memB i X with
    | false => simp only [SV.kill, e]
    | true => simp only [SV.kill, e, h i e]
  | .agg l => by simp only [SV.kill, kills_kills h l]
  | .tup l => by simp only [SV.kill, kills_kills h l]
  | .fn f l => by simp only [SV.kill, kills_kills h l]
theorem kills_kills {K X : List Nat} (h : ∀ i, memB i X = true -> memB i K = true) : ∀ l : List SV, SV.kills K (SV.kills X l) = SV.kills K l
  | [] => rfl
  | x :: l => by simp only [SV.kills, kill_kill h x, kills_kills h l]
end
theorem mapc_mapc {f g : SV -> SV} (c : Chunk) : (c.mapc f).mapc g = c.mapc fun x => g (f x) := by
  cases c with
  | box cells => simp [Chunk.mapc]
  | arr e sz xs => rfl
  | rows e e' sz xss hole => cases hole <;> rfl
  | map kvs => rfl
theorem keep_keep {K X : List Nat} (h : ∀ i, memB i X = true -> memB i K = true) : ∀ H : Heap, keepH (SV.kill K) K (keepH (SV.kill X) X H) = keepH (SV.kill K) K H
  | [] => rfl
  | p :: H => by
    cases e : memB p.1 X with
    | true =>
      simp only [keepH, e, h _ e]
      exact keep_keep h H
    | false =>
      cases e' : memB p.1 K with
      | true =>
        simp only [keepH, e, e']
        exact keep_keep h H
      | false =>
        simp only [keepH, e, e', keep_keep h H, mapc_mapc, kill_kill h]
theorem keep_eq {K X : List Nat} (h : ∀ i, memB i X = true -> memB i K = true) {H H' : Heap} (he : keepH (SV.kill X) X H = keepH (SV.kill X) X H') : keepH (SV.kill K) K H = keepH (SV.kill K) K H' := by
  rw [<- keep_keep h H, he, keep_keep h H']
inductive Step (cx : Cx) (ops : Array Oper) (ms : List Nat) (ann : Ann) (i : Nat) (o : Oper) (f : Nat -> SV) (h : Heap) : (Nat -> SV) -> Heap -> Prop where
  | still (K : List Nat) (sv : SV) : kOkB ms ann i K = true -> wantedA ops o f = some true -> QtA cx (keepH (SV.kill K) K h) o f sv -> sv.okK K = true -> (∀ t ∈ o.looksAt ops, (f t).okK K = true) -> Step cx ops ms ann i o f h (fput f o.dst sv) h
  | skip : wantedA ops o f = some false -> Step cx ops ms ann i o f h (fput f o.dst .und) h
  | turn (X : List Nat) (g : SV -> SV) (sv : SV) (h' : Heap) : (i, X) ∈ ann -> wantedA ops o f = some true -> Tt cx ops o f h g sv h' -> Fix X g -> keepH (SV.kill X) X h = keepH (SV.kill X) X h' -> Step cx ops ms ann i o f h (fput (fun t => g (f t)) o.dst sv) h'
theorem fput_map {g : SV -> SV} {d : Option Nat} {v : SV} : (fun t => g (fput f d v t)) = fput (fun t => g (f t)) d (g v) := by
  cases d with
  | none => rfl
  | some d =>
    funext t
    simp only [fput, upd]
    split <;> rfl
theorem kOk_spec {ms : List Nat} {ann : Ann} {i j : Nat} {K X : List Nat} (hk : kOkB ms ann i K = true) (hj : (j, X) ∈ ann) (hne : j ≠ i) (h1 : waitsB ms i j = false) (h2 : waitsB ms j i = false) : ∀ u, memB u X = true -> memB u K = true := by
  have := List.all_eq_true.1 hk _ hj
  simp only [h1, h2, Bool.or_false, Bool.or_eq_true] at this
  rcases this with h | h
  . exact absurd (Nat.eq_of_beq_eq_true h) hne
  . exact subB_all h
theorem Step.swap {ms : List Nat} {ann : Ann} {i j : Nat} {oi oj : Oper} {f f1 f2 : Nat -> SV} {h h1 h2 : Heap} (hne : j ≠ i) (w1 : waitsB ms i j = false) (w2 : waitsB ms j i = false) (hap : oi.apart ops oj = true) (hT : isT ann i = true -> isT ann j = true -> False)
    (hi : Step cx ops ms ann i oi f h f1 h1) (hj : Step cx ops ms ann j oj f1 h1 f2 h2) : ∃ f3 h3, Step cx ops ms ann j oj f h f3 h3 /\ Step cx ops ms ann i oi f3 h3 f2 h2 := by
  obtain ⟨a1, a2, a3⟩ := Oper.apart_spec hap
  have d1 : ∀ {s : Nat -> SV} {v : SV} {t : Nat}, t ∈ oj.looksAt ops -> fput s oi.dst v t = s t := fun {s v t} ht => fput_ne fun d hd e => by subst e; exact a1 d hd ht
  have d3 : ∀ {s : Nat -> SV} {v : SV} {t : Nat}, t ∈ oi.looksAt ops -> fput s oj.dst v t = s t := fun {s v t} ht => fput_ne fun d hd e => by subst e; exact a3 d hd ht
  have com : ∀ {s : Nat -> SV} {u v : SV}, fput (fput s oi.dst u) oj.dst v = fput (fput s oj.dst v) oi.dst u := fun {s u v} => fput_comm a2
  have tOf : ∀ {k : Nat} {X : List Nat}, (k, X) ∈ ann -> isT ann k = true := fun {k X} hk => List.any_eq_true.2 ⟨_, hk, by simp⟩
  cases hi with
  | still K sv c1 v1 q1 k1 o1 =>
    cases hj with
    | still K' sv' c2 v2 q2 k2 o2 =>
      refine ⟨_, _, .still K' sv' c2 ((wanted_sameG fun t ht => (d1 (looks_guard ht)).symm).trans v2) (q2.of_same fun t ht => (d1 (looks_op ht)).symm) k2 (fun t ht => by rw [<- d1 (s := f) (v := sv) ht]; exact o2 t ht), ?_⟩
      rw [com]
      exact .still K sv c1 ((wanted_sameG fun t ht => d3 (looks_guard ht)).trans v1) (q1.of_same fun t ht => d3 (looks_op ht)) k1 (fun t ht => by rw [d3 ht]; exact o1 t ht)
    | skip v2 =>
      refine ⟨_, _, .skip ((wanted_sameG fun t ht => (d1 (looks_guard ht)).symm).trans v2), ?_⟩
      rw [com]
      exact .still K sv c1 ((wanted_sameG fun t ht => d3 (looks_guard ht)).trans v1) (q1.of_same fun t ht => d3 (looks_op ht)) k1 (fun t ht => by rw [d3 ht]; exact o1 t ht)
    | turn X g sv' h' t2 v2 m2 x2 e2 =>
      have hXK := kOk_spec c1 t2 hne w1 w2
      refine ⟨_, _, .turn X g sv' h2 t2 ((wanted_sameG fun t ht => (d1 (looks_guard ht)).symm).trans v2) (m2.of_same fun t ht => (d1 ht).symm) x2 e2, ?_⟩
      rw [fput_map, x2.fix sv (okK_mono hXK k1), com]
      have hg : ∀ t ∈ oi.looksAt ops, fput (fun t => g (f t)) oj.dst sv' t = f t := fun t ht => by rw [d3 ht]; exact x2.fix _ (okK_mono hXK (o1 t ht))
      refine .still K sv c1 ((wanted_sameG fun t ht => hg t (looks_guard ht)).trans v1) ?_ k1 (fun t ht => by rw [hg t ht]; exact o1 t ht)
      rw [<- keep_eq hXK e2]
      exact q1.of_same fun t ht => hg t (looks_op ht)
  | skip v1 =>
    cases hj with
    | still K' sv' c2 v2 q2 k2 o2 =>
      refine ⟨_, _, .still K' sv' c2 ((wanted_sameG fun t ht => (d1 (looks_guard ht)).symm).trans v2) (q2.of_same fun t ht => (d1 (looks_op ht)).symm) k2 (fun t ht => by rw [<- d1 (s := f) (v := .und) ht]; exact o2 t ht), ?_⟩
      rw [com]
      exact .skip ((wanted_sameG fun t ht => d3 (looks_guard ht)).trans v1)
    | skip v2 =>
      refine ⟨_, _, .skip ((wanted_sameG fun t ht => (d1 (looks_guard ht)).symm).trans v2), ?_⟩
      rw [com]
      exact .skip ((wanted_sameG fun t ht => d3 (looks_guard ht)).trans v1)
    | turn X g sv' h' t2 v2 m2 x2 e2 =>
      refine ⟨_, _, .turn X g sv' h2 t2 ((wanted_sameG fun t ht => (d1 (looks_guard ht)).symm).trans v2) (m2.of_same fun t ht => (d1 ht).symm) x2 e2, ?_⟩
      rw [fput_map, x2.fix .und rfl, com]
      exact .skip ((wanted_sameG fun t ht => by rw [d3 (looks_guard ht)]; exact x2.fix _ (wanted_ok v1 t ht)).trans v1)
  | turn X g sv h' t1 v1 m1 x1 e1 =>
    cases hj with
    | still K' sv' c2 v2 q2 k2 o2 =>
      have hXK := kOk_spec c2 t1 (Ne.symm hne) w2 w1
      have hb : ∀ t ∈ oj.looksAt ops, f t = fput (fun t => g (f t)) oi.dst sv t := fun t ht => by
        have := o2 t ht
        rw [d1 ht] at this ⊢
        exact (x1.back _ (okK_mono hXK this)).symm
      refine ⟨_, _, .still K' sv' c2 ((wanted_sameG fun t ht => hb t (looks_guard ht)).trans v2) ?_ k2 (fun t ht => by rw [hb t ht]; exact o2 t ht), ?_⟩
      . rw [keep_eq hXK e1]
        exact q2.of_same fun t ht => hb t (looks_op ht)
      . have := Step.turn (cx := cx) (ms := ms) (f := fput f oj.dst sv') X g sv h1 t1 ((wanted_sameG (o := oi) (ops := ops) fun t ht => d3 (looks_guard ht)).trans v1) (m1.of_same fun t ht => d3 ht) x1 e1
        rw [fput_map, x1.fix sv' (okK_mono hXK k2), <- com] at this
        exact this
    | skip v2 =>
      have hb : ∀ t ∈ guardAt ops oj, f t = fput (fun t => g (f t)) oi.dst sv t := fun t ht => by
        have := wanted_ok (K := X) v2 t ht
        rw [d1 (looks_guard ht)] at this ⊢
        exact (x1.back _ this).symm
      refine ⟨_, _, .skip ((wanted_sameG hb).trans v2), ?_⟩
      have := Step.turn (cx := cx) (ms := ms) (f := fput f oj.dst .und) X g sv h1 t1 ((wanted_sameG (o := oi) (ops := ops) fun t ht => d3 (looks_guard ht)).trans v1) (m1.of_same fun t ht => d3 ht) x1 e1
      rw [fput_map, x1.fix .und rfl, <- com] at this
      exact this
    | turn X' g' sv' h'' t2 v2 m2 x2 e2 => exact (hT (tOf t1) (tOf t2)).elim
def mOp (cx : Cx) (ops : Array Oper) (ms : List Nat) (ann : Ann) (i : Nat) (Kc : (Nat -> SV) -> Heap -> Prop) (f : Nat -> SV) (h : Heap) : Prop :=
  match ops[i]? with
  | none => Kc f h
  | some o => ∃ f' h', Step cx ops ms ann i o f h f' h' /\ Kc f' h'
def mAny (cx : Cx) (ops : Array Oper) (ms : List Nat) (ann : Ann) (L : Array Bool -> (Nat -> SV) -> Heap -> Prop) : Nat -> Array Bool -> (Nat -> SV) -> Heap -> Prop
  | 0, listed, f, h => L listed f h
  | n + 1, listed, f, h => Region.ready .any ops listed ≠ [] /\ ∀ i ∈ Region.ready .any ops listed, mOp cx ops ms ann i (mAny cx ops ms ann L n (listed.setIfInBounds i true)) f h
theorem mAny_first {ms : List Nat} {ann : Ann} {i n : Nat} {oi : Oper} {L : Array Bool -> (Nat -> SV) -> Heap -> Prop} (hm : msOk ops ms = true) (hi : ops[i]? = some oi) (hin : ops.size <= n)
    (hdone : ∀ listed f h, L listed f h -> Region.ready .any ops listed = []) :
    ∀ (fu : Nat) (listed : Array Bool) (f : Nat -> SV) (h : Heap) (f₁ : Nat -> SV) (h₁ : Heap), HeadInv .any ops n listed ->
      (∀ j oj, ops[j]? = some oj -> j ≠ i -> listed.getD j true = false -> (∀ e ∈ oj.after, Region.binds .any e = true -> e.on ≠ i) -> oi.apart ops oj = true) ->
      (isT ann i = true -> ∀ j, isT ann j = true -> j ≠ i -> listed.getD j true = false -> waitsB ms i j = true) ->
      i ∈ Region.ready .any ops listed -> Step cx ops ms ann i oi f h f₁ h₁ ->
      mAny cx ops ms ann L fu (listed.setIfInBounds i true) f₁ h₁ -> mAny cx ops ms ann L (fu + 1) listed f h := by
  intro fu
  have his : i < ops.size := (Array.getElem?_eq_some_iff.1 hi).1
  induction fu with
  | zero =>
    intro listed f h f₁ h₁ inv _ _ hr hy H
    refine ⟨fun h => (by rw [h] at hr; cases hr), fun j hj => ?_⟩
    by_cases hji : j = i
    . subst hji; unfold mOp; simp only [hi]; exact ⟨f₁, h₁, hy, H⟩
    . have h1 := hdone _ _ _ H
      have h2 := ready_mono hj hji
      rw [h1] at h2
      cases h2
  | succ fu ih =>
    intro listed f h f₁ h₁ inv hfree hTT hr hy H
    obtain ⟨hun, oi', hoi', halli⟩ := mem_ready.1 hr
    have : oi' = oi := Option.some.inj (hoi'.symm.trans hi)
    subst this
    refine ⟨fun h => (by rw [h] at hr; cases hr), fun j hj => ?_⟩
    by_cases hji : j = i
    . subst hji; unfold mOp; simp only [hi]; exact ⟨f₁, h₁, hy, H⟩
    . have h1 := H.2 j (ready_mono hj hji)
      obtain ⟨hjun, oj, hoj, hall⟩ := mem_ready.1 hj
      have hjs : j < ops.size := (Array.getElem?_eq_some_iff.1 hoj).1
      have hnot : ∀ e ∈ oj.after, Region.binds .any e = true -> e.on ≠ i := fun e he hb heq => by
        have h1 := hall e he hb
        rw [heq, getD_both hun] at h1
        cases h1
      have w1 : waitsB ms i j = false := by
        cases e : waitsB ms i j with
        | false => rfl
        | true =>
          have := waits_listed hm his inv _ j oj (Nat.le_refl _) hoj e hall
          rw [getD_both hun] at this
          cases this
      have w2 : waitsB ms j i = false := by
        cases e : waitsB ms j i with
        | false => rfl
        | true =>
          have := waits_listed hm hjs inv _ i oi' (Nat.le_refl _) hi e halli
          rw [getD_both hjun] at this
          cases this
      have hnT : isT ann i = true -> isT ann j = true -> False := fun hi' hj' => by
        rw [hTT hi' j hj' hji hjun] at w1
        cases w1
      have hfree' : ∀ k ok, ops[k]? = some ok -> k ≠ i -> (listed.setIfInBounds j true).getD k true = false ->
          (∀ e ∈ ok.after, Region.binds .any e = true -> e.on ≠ i) -> oi'.apart ops ok = true := fun k ok hk hki hun hno => by
        refine hfree k ok hk hki ?_ hno
        by_cases hjk : j = k
        . subst hjk; exact hjun
        . rw [getD_set_ne true hjk] at hun; exact hun
      have hTT' : isT ann i = true -> ∀ k, isT ann k = true -> k ≠ i -> (listed.setIfInBounds j true).getD k true = false -> waitsB ms i k = true := fun hi' k hk hki hun => by
        refine hTT hi' k hk hki ?_
        by_cases hjk : j = k
        . subst hjk; exact hjun
        . rw [getD_set_ne true hjk] at hun; exact hun
      unfold mOp at h1 ⊢
      simp only [hoj] at h1 ⊢
      obtain ⟨f2, h2, hst, hrest⟩ := h1
      obtain ⟨f3, h3, s1, s2⟩ := Step.swap hji w1 w2 (hfree j oj hoj hji hjun hnot) hnT hy hst
      refine ⟨f3, h3, s1, ih _ f3 h3 f2 h2 (inv.set hj (Nat.lt_of_lt_of_le hjs hin)) hfree' hTT' (ready_mono hr (Ne.symm hji)) s2 ?_⟩
      rw [Array.setIfInBounds_comm _ _ hji]
      exact hrest
inductive Plan where
  | done
  | take (i : Nat) (K : List Nat) (p : Plan)
  | fork (i j : Nat) (p q : Plan)
  | fork3 (i j k : Nat) (p q r : Plan)
def Plan.tk (K : List Nat) : List Nat -> Plan -> Plan
  | [], p => p
  | i :: l, p => .take i K (Plan.tk K l p)
def takeB (ops : Array Oper) (ms : List Nat) (ann : Ann) (listed : Array Bool) (i : Nat) (K : List Nat) : Bool :=
  (Region.ready .any ops listed).contains i && Region.free .any ops listed i && (isT ann i || kOkB ms ann i K) && (!(isT ann i) || ann.all fun p => Nat.beq p.1 i || listed.getD p.1 true || waitsB ms i p.1)
def planB (ops : Array Oper) (ms : List Nat) (ann : Ann) : Plan -> Nat -> Array Bool -> Bool
  | .done, n, listed => Nat.beq n 0 && (Region.ready .any ops listed).isEmpty
  | .take i K p, n, listed => Nat.blt 0 n && takeB ops ms ann listed i K && planB ops ms ann p (n - 1) (listed.setIfInBounds i true)
  | .fork i j p q, n, listed => Nat.blt 0 n && (Region.ready .any ops listed).all (fun k => Nat.beq k i || Nat.beq k j) && !(Region.ready .any ops listed).isEmpty && isT ann i && isT ann j && planB ops ms ann p (n - 1) (listed.setIfInBounds i true) && planB ops ms ann q (n - 1) (listed.setIfInBounds j true)
  | .fork3 i j k p q r, n, listed => Nat.blt 0 n && (Region.ready .any ops listed).all (fun u => Nat.beq u i || Nat.beq u j || Nat.beq u k) && !(Region.ready .any ops listed).isEmpty && isT ann i && isT ann j && isT ann k && planB ops ms ann p (n - 1) (listed.setIfInBounds i true) && planB ops ms ann q (n - 1) (listed.setIfInBounds j true) && planB ops ms ann r (n - 1) (listed.setIfInBounds k true)
def getO : List Oper -> Nat -> Option Oper
  | [], _ => none
  | o :: _, 0 => some o
  | _ :: l, i + 1 => getO l i
theorem getO_eq : ∀ (l : List Oper) (i : Nat), getO l i = l[i]?
  | [], i => by simp [getO]
  | o :: l, 0 => by simp [getO]
  | o :: l, i + 1 => by simp [getO, getO_eq l i]
inductive StepP (cx : Cx) (ops : Array Oper) (ann : Ann) (i : Nat) (K : List Nat) (o : Oper) (f : Nat -> SV) (h : Heap) : (Nat -> SV) -> Heap -> Prop where
  | still (sv : SV) : isT ann i = false -> wantedA ops o f = some true -> QtA cx (keepH (SV.kill K) K h) o f sv -> sv.okK K = true -> (∀ t ∈ o.looksAt ops, (f t).okK K = true) -> StepP cx ops ann i K o f h (fput f o.dst sv) h
  | skip : wantedA ops o f = some false -> StepP cx ops ann i K o f h (fput f o.dst .und) h
  | turn (X : List Nat) (g : SV -> SV) (sv : SV) (h' : Heap) : (i, X) ∈ ann -> wantedA ops o f = some true -> Tt cx ops o f h g sv h' -> Fix X g -> keepH (SV.kill X) X h = keepH (SV.kill X) X h' -> StepP cx ops ann i K o f h (fput (fun t => g (f t)) o.dst sv) h'
theorem StepP.step {ms : List Nat} {ann : Ann} {i : Nat} {K : List Nat} {f f' : Nat -> SV} {h h' : Heap} (hs : StepP cx ops ann i K o f h f' h') (hk : isT ann i = true \/ kOkB ms ann i K = true) : Step cx ops ms ann i o f h f' h' := by
  cases hs with
  | still sv t v q k o => 
    rcases hk with hk | hk
    . rw [t] at hk; cases hk
    . exact .still K sv hk v q k o
  | skip v => exact .skip v
  | turn X g sv h' t v m x e => exact .turn X g sv h' t v m x e
def pWalk (cx : Cx) (l : List Oper) (ann : Ann) (Kc : (Nat -> SV) -> Heap -> Prop) : Plan -> (Nat -> SV) -> Heap -> Prop
  | .done, f, h => Kc f h
  | .take i K p, f, h => ∃ o f' h', getO l i = some o /\ StepP cx l.toArray ann i K o f h f' h' /\ pWalk cx l ann Kc p f' h'
  | .fork i j p q, f, h => (∃ o f' h', getO l i = some o /\ StepP cx l.toArray ann i [] o f h f' h' /\ pWalk cx l ann Kc p f' h') /\ (∃ o f' h', getO l j = some o /\ StepP cx l.toArray ann j [] o f h f' h' /\ pWalk cx l ann Kc q f' h')
  | .fork3 i j k p q r, f, h => (∃ o f' h', getO l i = some o /\ StepP cx l.toArray ann i [] o f h f' h' /\ pWalk cx l ann Kc p f' h') /\ (∃ o f' h', getO l j = some o /\ StepP cx l.toArray ann j [] o f h f' h' /\ pWalk cx l ann Kc q f' h') /\
    (∃ o f' h', getO l k = some o /\ StepP cx l.toArray ann k [] o f h f' h' /\ pWalk cx l ann Kc r f' h')
theorem mAny_plan {l : List Oper} {ms : List Nat} {ann : Ann} {n : Nat} {Lq : (Nat -> SV) -> Heap -> Prop} (hm : msOk l.toArray ms = true) (hn : l.length <= n) : ∀ (p : Plan) (m : Nat) (listed : Array Bool) (f : Nat -> SV) (h : Heap), HeadInv .any l.toArray n listed ->
    planB l.toArray ms ann p m listed = true -> pWalk cx l ann Lq p f h -> mAny cx l.toArray ms ann (fun listed' f' h' => Region.ready .any l.toArray listed' = [] /\ Lq f' h') m listed f h
  | .done, m, listed, f, h, inv, hB, hh => by
    simp only [planB, Bool.and_eq_true] at hB
    have := Nat.eq_of_beq_eq_true hB.1
    subst this
    exact ⟨by simpa using hB.2, hh⟩
  | .take i K p, m, listed, f, h, inv, hB, hh => by
    simp only [planB, takeB, Bool.and_eq_true] at hB
    obtain ⟨⟨h0, ⟨⟨⟨hr, hf⟩, hk⟩, ht⟩⟩, hB'⟩ := hB
    have hr' : i ∈ Region.ready .any l.toArray listed := by simpa using hr
    obtain ⟨o, f', h', ho, hst, hrest⟩ := hh
    have hi : l.toArray[i]? = some o := by rw [getO_eq] at ho; simpa using ho
    have hin : i < n := by have := (Array.getElem?_eq_some_iff.1 hi).1; simp at this; omega
    obtain ⟨m', rfl⟩ : ∃ m', m = m' + 1 := ⟨m - 1, by have := Nat.le_of_ble_eq_true h0; omega⟩
    refine mAny_first hm hi (n := n) (by simpa using hn) (fun listed' f' h' hL => hL.1) m' listed f h f' h' inv (Region.free_spec hi hf) (fun hT j hj hji hun => ?_) hr' (hst.step (by simpa using hk)) (mAny_plan hm hn p m' _ f' h' (inv.set hr' hin) hB' hrest)
    simp only [hT, Bool.not_true, Bool.false_or] at ht
    obtain ⟨q, hq, hqj⟩ := List.any_eq_true.1 hj
    have hqj' := Nat.eq_of_beq_eq_true hqj
    have := List.all_eq_true.1 ht q hq
    rw [hqj'] at this
    simp only [Bool.or_eq_true] at this
    rcases this with (h1 | h1) | h1
    . exact absurd (Nat.eq_of_beq_eq_true h1) hji
    . rw [hun] at h1; cases h1
    . exact h1
  | .fork i j p q, m, listed, f, h, inv, hB, hh => by
    simp only [planB, Bool.and_eq_true] at hB
    obtain ⟨⟨⟨⟨⟨⟨h0, hr⟩, hne⟩, ti⟩, tj⟩, hBp⟩, hBq⟩ := hB
    obtain ⟨m', rfl⟩ : ∃ m', m = m' + 1 := ⟨m - 1, by have := Nat.le_of_ble_eq_true h0; omega⟩
    refine ⟨fun e => (by rw [e] at hne; simp at hne), fun k hk => ?_⟩
    have hkk := List.all_eq_true.1 hr k hk
    simp only [Bool.or_eq_true] at hkk
    have hkn : k < n := by obtain ⟨_, o, ho, _⟩ := mem_ready.1 hk; have := (Array.getElem?_eq_some_iff.1 ho).1; simp at this; omega
    have key : ∀ (i : Nat) (p : Plan), isT ann i = true -> k = i -> planB l.toArray ms ann p m' (listed.setIfInBounds i true) = true -> (∃ o f' h', getO l i = some o /\ StepP cx l.toArray ann i [] o f h f' h' /\ pWalk cx l ann Lq p f' h') -> (∀ f' h', pWalk cx l ann Lq p f' h' -> mAny cx l.toArray ms ann (fun listed' f' h' => Region.ready .any l.toArray listed' = [] /\ Lq f' h') m' (listed.setIfInBounds i true) f' h') -> mOp cx l.toArray ms ann k (mAny cx l.toArray ms ann (fun listed' f' h' => Region.ready .any l.toArray listed' = [] /\ Lq f' h') m' (listed.setIfInBounds k true)) f h := fun i p hT e hB hex hrec => by
      subst e
      obtain ⟨o, f', h', ho, hst, hrest⟩ := hex
      have hi : l.toArray[k]? = some o := by rw [getO_eq] at ho; simpa using ho
      unfold mOp
      simp only [hi]
      exact ⟨f', h', hst.step (.inl hT), hrec f' h' hrest⟩
    rcases hkk with e | e
    . exact key i p ti (Nat.eq_of_beq_eq_true e) hBp hh.1 fun f' h' hw => mAny_plan hm hn p m' _ f' h' (by rw [<- Nat.eq_of_beq_eq_true e]; exact inv.set hk hkn) hBp hw
    . exact key j q tj (Nat.eq_of_beq_eq_true e) hBq hh.2 fun f' h' hw => mAny_plan hm hn q m' _ f' h' (by rw [<- Nat.eq_of_beq_eq_true e]; exact inv.set hk hkn) hBq hw
  | .fork3 i j u p q r, m, listed, f, h, inv, hB, hh => by
    simp only [planB, Bool.and_eq_true] at hB
    obtain ⟨⟨⟨⟨⟨⟨⟨⟨h0, hr⟩, hne⟩, ti⟩, tj⟩, tu⟩, hBp⟩, hBq⟩, hBr⟩ := hB
    obtain ⟨m', rfl⟩ : ∃ m', m = m' + 1 := ⟨m - 1, by have := Nat.le_of_ble_eq_true h0; omega⟩
    refine ⟨fun e => (by rw [e] at hne; simp at hne), fun k hk => ?_⟩
    have hkk := List.all_eq_true.1 hr k hk
    simp only [Bool.or_eq_true] at hkk
    have hkn : k < n := by obtain ⟨_, o, ho, _⟩ := mem_ready.1 hk; have := (Array.getElem?_eq_some_iff.1 ho).1; simp at this; omega
    have key : ∀ (i : Nat) (p : Plan), isT ann i = true -> k = i -> planB l.toArray ms ann p m' (listed.setIfInBounds i true) = true -> (∃ o f' h', getO l i = some o /\ StepP cx l.toArray ann i [] o f h f' h' /\ pWalk cx l ann Lq p f' h') -> (∀ f' h', pWalk cx l ann Lq p f' h' -> mAny cx l.toArray ms ann (fun listed' f' h' => Region.ready .any l.toArray listed' = [] /\ Lq f' h') m' (listed.setIfInBounds i true) f' h') -> mOp cx l.toArray ms ann k (mAny cx l.toArray ms ann (fun listed' f' h' => Region.ready .any l.toArray listed' = [] /\ Lq f' h') m' (listed.setIfInBounds k true)) f h := fun i p hT e hB hex hrec => by
      subst e
      obtain ⟨o, f', h', ho, hst, hrest⟩ := hex
      have hi : l.toArray[k]? = some o := by rw [getO_eq] at ho; simpa using ho
      unfold mOp
      simp only [hi]
      exact ⟨f', h', hst.step (.inl hT), hrec f' h' hrest⟩
    rcases hkk with (e | e) | e
    . exact key i p ti (Nat.eq_of_beq_eq_true e) hBp hh.1 fun f' h' hw => mAny_plan hm hn p m' _ f' h' (by rw [<- Nat.eq_of_beq_eq_true e]; exact inv.set hk hkn) hBp hw
    . exact key j q tj (Nat.eq_of_beq_eq_true e) hBq hh.2.1 fun f' h' hw => mAny_plan hm hn q m' _ f' h' (by rw [<- Nat.eq_of_beq_eq_true e]; exact inv.set hk hkn) hBq hw
    . exact key u r tu (Nat.eq_of_beq_eq_true e) hBr hh.2.2 fun f' h' hw => mAny_plan hm hn r m' _ f' h' (by rw [<- Nat.eq_of_beq_eq_true e]; exact inv.set hk hkn) hBr hw
theorem wpAny_of_mAny {ms : List Nat} {ann : Ann} {L : Array Bool -> (Nat -> SV) -> Heap -> Prop} {Q' : Exit -> Act -> World -> Prop} (hdst : ∀ o ∈ ops, dstOk cx.nt o.dst = true)
    (hL : ∀ listed s h a w, L listed (lk s) h -> R cx (lk s) h a w -> wpAny cx.P .any ops Q' 0 listed a w) :
    ∀ (n : Nat) (listed : Array Bool) (s : Slots) (h : Heap) (a : Act) (w : World), mAny cx ops ms ann L n listed (lk s) h -> R cx (lk s) h a w -> wpAny cx.P .any ops Q' n listed a w
  | 0, listed, s, h, a, w, hh, hr => hL _ _ _ _ _ hh hr
  | n + 1, listed, s, h, a, w, hh, hr => by
    refine ⟨fun h0 => absurd h0 hh.1, fun i hi => ?_⟩
    have h1 := hh.2 i hi
    unfold mOp at h1
    unfold wpOp
    split
    . rename_i e
      simp only [e] at h1
      exact wpAny_of_mAny hdst hL n _ _ _ _ _ h1 hr
    . rename_i o e
      simp only [e] at h1
      obtain ⟨f', h', hst, h2⟩ := h1
      have hd := dstOk_lt (hdst o (Array.mem_of_getElem? e))
      cases hst with
      | still K sv _ w1 q1 k1 o1 =>
        obtain ⟨σ, hr⟩ := hr
        rw [if_pos (wanted_of hr w1)]
        refine .inl (QtA.lift rfl q1 k1 (fun t ht => o1 t (looks_op ht)) (lk s) (fun _ _ => rfl) σ a w hr _ _ fun v w' hb hv => ?_)
        refine wpAny_of_mAny hdst hL n _ (put s o.dst sv) h _ _ (by rw [lk_put]; exact h2) ⟨σ, ?_⟩
        rw [lk_put]
        exact (hr.ext hb).put hd hv
      | skip w1 =>
        obtain ⟨σ, hr⟩ := hr
        rw [if_neg (by rw [wanted_of hr w1]; simp)]
        refine wpAny_of_mAny hdst hL n _ (put s o.dst .und) h _ _ (by rw [lk_put]; exact h2) ⟨σ, ?_⟩
        rw [lk_put]
        exact hr.put hd rfl
      | turn X g sv h'' t1 w1 m1 x1 e1 =>
        rw [if_pos (by obtain ⟨σ, hr⟩ := hr; exact wanted_of hr w1)]
        have hl : lk (put (mapS g s) o.dst sv) = fput (fun t => g (lk s t)) o.dst sv := by
          rw [lk_put]
          congr 1
          funext t
          exact lk_mapS x1.junk s t
        refine .inl (m1 s (fun _ _ => rfl) a w hr _ _ fun a' w' hr' => ?_)
        exact wpAny_of_mAny hdst hL n _ (put (mapS g s) o.dst sv) h' _ _ (by rw [hl]; exact h2) (by rw [hl]; exact hr')
theorem R_drew {s : Slots} {a : Act} {w : World} (hr : R cx (lk s) h a w) : R cx (lk s) h a { w with drawn := w.drawn + 1 } := by
  obtain ⟨σ, hr⟩ := hr
  exact ⟨σ, hr.ext (below_drew w)⟩
theorem R_perm {f : Nat -> SV} {H H' : Heap} (hp : H.Perm H') {a : Act} {w : World} (hr : R cx f H a w) : R cx f H' a w := by
  obtain ⟨σ, hr⟩ := hr
  have hmem : ∀ p, p ∈ H' -> p ∈ H := fun p hq => hp.mem_iff.2 hq
  have hnd : (H'.map (·.1)).Nodup := (hp.map (·.1)).nodup_iff.1 hr.heap.nodup
  have hget : ∀ j, H.get j = H'.get j := fun j => by
    cases e : H'.get j with
    | some c =>
      obtain ⟨p, h1, h2, h3⟩ := get_mem e
      have := get_of_mem hr.heap.nodup (hmem p h1)
      rw [h2, h3] at this
      exact this
    | none =>
      cases e' : H.get j with
      | none => rfl
      | some c =>
        obtain ⟨p, h1, h2, h3⟩ := get_mem e'
        have := get_of_mem hnd (hp.mem_iff.1 h1)
        rw [h2, e] at this
        cases this
  have hok : ∀ b, okf cx σ H b -> b < w.heap.size -> okf cx σ H' b /\ w.heap[b]? = w.heap[b]? := fun b hb _ => ⟨⟨hb.1, fun p hq => hb.2 p (hmem p hq)⟩, rfl⟩
  have hsim : ∀ j, simO (H.get j) (H'.get j) := fun j => by
    rw [hget j]
    cases H'.get j with
    | none => trivial
    | some c => exact sim_refl c
  refine ⟨σ, hr.evo, hr.defers, hr.size, ⟨hnd, fun p hq => hr.heap.nd p (hmem p hq), fun p hq q hq' => hr.heap.inj p (hmem p hq) q (hmem q hq'), fun p hq => hr.heap.mine p (hmem p hq), fun p hq => ?_, fun p hq => hr.heap.anc p (hmem p hq)⟩, fun t => RepSV.sim hok hsim (hr.slots t)⟩
  have h1 := RepChunk.mapc (f := fun x => x) (hr.heap.rep p (hmem p hq)) hok (fun v sv hv => RepSV.sim hok hsim hv) fun _ _ => rfl
  have e : p.2.mapc (fun x => x) = p.2 := by
    cases p.2 with
    | rows e e' sz xss hole => cases hole <;> rfl
    | box cells => simp [Chunk.mapc]
    | _ => rfl
  rwa [e] at h1
def awpM (cx : Cx) (l : List Oper) (ann : Ann) (Kc : Slots -> Heap -> Prop) (p : Plan) (s : Slots) (h : Heap) : Prop := pWalk cx l ann (fun f h => ∃ s', lk s' = f /\ Kc s' h) p (lk s) h
theorem awp_plan {id : Nat} {l : List Oper} {s : Slots} {Q : Exit -> Slots -> Heap -> Prop} (ann : Ann) (p : Plan) (hm : cx.P.follows .mixedOrders = true) (hB : (msOk l.toArray (masksOf l) && planB l.toArray (masksOf l) ann p l.length (Array.replicate l.length false)) = true) (hdst : (l.all fun o => dstOk cx.nt o.dst) = true)
    (hq : awpM cx l ann (fun s' h' => Q .normal s' h') p s h) : awp cx (.region id l.toArray true) s h Q := fun a w hr => by
  simp only [Bool.and_eq_true] at hB
  have inv0 : HeadInv .any l.toArray l.length (Array.replicate l.length false) :=
    ⟨by simp, fun j oj _ hl => (by rw [getD_replicate_false] at hl; cases hl), fun t ht ht' => by simp at ht'; omega⟩
  have H := mAny_plan (cx := cx) (n := l.length) hB.1 (Nat.le_refl _) p l.length _ (lk s) h inv0 hB.2 hq
  refine wp_region_any hm ?_
  have := wpAny_of_mAny (cx := cx) (Q' := lift cx Q) (fun o ho => by simpa using List.all_eq_true.1 hdst o (by simpa using ho)) (fun listed s0 h' a' w' hL hr' => by
    obtain ⟨hL1, s', hL3, hL2⟩ := hL
    exact ⟨hL1, s', h', hL2, by rw [hL3]; exact hr'⟩) _ _ s h a { w with drawn := w.drawn + 1 } H (R_drew hr)
  simpa using this
end
section
variable {cx : Cx} {h h' : Heap} {K : List Nat} {ann : Ann} {Kc : Slots -> Heap -> Prop} {l : List Oper} {p q r : Plan} {i j k t ty : Nat} {s : Slots} {op : Op} {pos : String} {af : Array Edge} {gd : Option (Nat × Bool)} {sv : SV} {o : Oper} {dst : Option Nat}
def okAll (K : List Nat) (s : Slots) (ids : List Nat) : Bool := ids.all fun t => (lk s t).okK K
theorem m_nil (hk : Kc s h) : awpM cx l ann Kc .done s h := ⟨s, rfl, hk⟩
theorem m_fork (h1 : awpM cx l ann Kc (.take i [] p) s h) (h2 : awpM cx l ann Kc (.take j [] q) s h) : awpM cx l ann Kc (.fork i j p q) s h := ⟨h1, h2⟩
theorem m_fork3 (h1 : awpM cx l ann Kc (.take i [] p) s h) (h2 : awpM cx l ann Kc (.take j [] q) s h) (h3 : awpM cx l ann Kc (.take k [] r) s h) : awpM cx l ann Kc (.fork3 i j k p q r) s h := ⟨h1, h2, h3⟩
theorem m_s (hn : awpM cx l ann Kc p (put s o.dst sv) h) (hi : getO l i = some o) (ht : isT ann i = false) (hw : wantedA l.toArray o (lk s) = some true) (hq : QtA cx (keepH (SV.kill K) K h) o (lk s) sv) (hsv : sv.okK K = true) (ho : okAll K s (o.looksAt l.toArray) = true) :
    awpM cx l ann Kc (.take i K p) s h := ⟨_, _, _, hi, .still sv ht hw hq hsv (fun t ht => List.all_eq_true.1 ho t ht), by rw [<- lk_put]; exact hn⟩
theorem m_k (hn : awpM cx l ann Kc p (put s o.dst .und) h) (hi : getO l i = some o) (hw : wantedA l.toArray o (lk s) = some false) : awpM cx l ann Kc (.take i K p) s h := ⟨_, _, _, hi, .skip hw, by rw [<- lk_put]; exact hn⟩
def sel (s : Slots) (ids : List Nat) : Slots := ids.map fun t => (t, lk s t)
theorem lk_sel {ids : List Nat} {s₁ : Slots} (hs : ∀ t ∈ ids, lk s₁ t = lk s t) : lk (sel s ids ++ s₁) = lk s₁ := by
  funext u
  induction ids with
  | nil => rfl
  | cons i ids ih =>
    simp only [sel, List.map_cons, List.cons_append, lk] at ih ⊢
    split
    . rename_i e; subst e; exact (hs u (List.mem_cons_self ..)).symm
    . exact ih fun t ht => hs t (List.mem_cons_of_mem _ ht)
def annGet : Ann -> Nat -> Option (List Nat)
  | [], _ => none
  | p :: l, i => match Nat.beq p.1 i with
    | true => some p.2
    | false => annGet l i
theorem annGet_mem : ∀ {ann : Ann} {i : Nat} {X : List Nat}, annGet ann i = some X -> (i, X) ∈ ann
  | [], i, X, h => by cases h
  | p :: l, i, X, h => by
    simp only [annGet] at h
    split at h
    . rename_i e
      have := Nat.eq_of_beq_eq_true e
      cases h
      subst this
      exact List.mem_cons_self ..
    . exact List.mem_cons_of_mem _ (annGet_mem h)
theorem m_t {g : SV -> SV} {X ids : List Nat} (ho : ∀ rest : Slots, OpTo cx o (sel s ids ++ rest) h (put (mapS g (sel s ids ++ rest)) o.dst sv) h') (hn : awpM cx l ann Kc p (put (mapS g s) o.dst sv) h')
    (hi : getO l i = some o) (hids : o.looksAt l.toArray = ids) (hw : wantedA l.toArray o (lk s) = some true) (hts : annGet ann i = some X) (hg : Fix X g) (he : keepH (SV.kill X) X h = keepH (SV.kill X) X h') : awpM cx l ann Kc (.take i K p) s h := by
  have hl : ∀ s : Slots, lk (put (mapS g s) o.dst sv) = fput (fun t => g (lk s t)) o.dst sv := fun s => by
    rw [lk_put]
    congr 1
    funext t
    exact lk_mapS hg.junk s t
  refine ⟨_, _, _, hi, .turn X g sv h' (annGet_mem hts) hw (fun s₁ hs₁ a w hr Kc Q hK => ?_) hg he, by rw [<- hl]; exact hn⟩
  have e := lk_sel (s := s) (ids := ids) (s₁ := s₁) fun t ht => hs₁ t (by rw [hids]; exact ht)
  refine ho s₁ a w (by rw [e]; exact hr) Kc Q fun a' w' hr' => hK a' w' ?_
  rw [hl, e] at hr'
  exact hr'
theorem m_t0 {X ids : List Nat} (ho : ∀ rest : Slots, OpTo cx o (sel s ids ++ rest) h (put (sel s ids ++ rest) o.dst sv) h') (hn : awpM cx l ann Kc p (put s o.dst sv) h')
    (hi : getO l i = some o) (hids : o.looksAt l.toArray = ids) (hw : wantedA l.toArray o (lk s) = some true) (hts : annGet ann i = some X) (he : keepH (SV.kill X) X h = keepH (SV.kill X) X h') : awpM cx l ann Kc (.take i K p) s h := by
  have hm : ∀ s : Slots, mapS (fun x => x) s = s := fun s => by unfold mapS; simp
  exact m_t (g := fun x => x) (fun rest => by rw [hm]; exact ho rest) (by rw [hm]; exact hn) hi hids hw hts fix_id he
end
theorem beq_notin {k j : Nat} {X : List Nat} (hk : memB k X = false) (hj : memB j X = true) : Nat.beq k j = false := by
  cases e : Nat.beq k j with
  | false => rfl
  | true =>
    have := Nat.eq_of_beq_eq_true e
    subst this
    rw [hj] at hk
    cases hk
theorem fix_gApp {id j : Nat} {X : List Nat} (hid : memB id X = true) (hj : memB j X = true) : Fix X (SV.lm (gApp id j)) := fix_lm rfl
  (fun x hl hx => by cases x <;> first | rfl | (simp only [SV.okK, Bool.not_eq_true'] at hx; simp only [gApp, beq_notin hx hj, beq_notin hx hid]))
  (fun x hl hx => by cases x <;> simp only [gApp] at hx ⊢ <;> (repeat' split at hx) <;> simp_all [SV.okK])
theorem fix_gLit {id j : Nat} {X : List Nat} (hid : memB id X = true) (hj : memB j X = true) : Fix X (SV.lm (gLit id j)) := fix_lm rfl
  (fun x hl hx => by cases x <;> first | rfl | (simp only [SV.okK, Bool.not_eq_true'] at hx; simp only [gLit, beq_notin hx hj, beq_notin hx hid]))
  (fun x hl hx => by cases x <;> simp only [gLit] at hx ⊢ <;> (repeat' split at hx) <;> simp_all [SV.okK])
theorem fix_gPut {id i j : Nat} {X : List Nat} (hid : memB id X = true) (hj : memB j X = true) : Fix X (SV.lm (gPut id i j)) := fix_lm rfl
  (fun x hl hx => by cases x <;> first | rfl | (simp only [SV.okK, Bool.not_eq_true'] at hx; simp only [gPut, beq_notin hx hj, beq_notin hx hid]))
  (fun x hl hx => by cases x <;> simp only [gPut] at hx ⊢ <;> (repeat' split at hx) <;> simp_all [SV.okK])
end Go.Proofs.YtckpadnjldebaaaGreat
