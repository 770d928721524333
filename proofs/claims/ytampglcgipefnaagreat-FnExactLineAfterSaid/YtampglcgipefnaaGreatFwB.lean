/- The rules of the logic over data: operations, regions in their written order and in every order that the tape may pick, and the forms of code. No condition. -/
import Derived.Test.YtampglcgipefnaaGreatFwA
import Derived.StillTail
import Derived.Deep.Quiet
namespace Go.Proofs.YtampglcgipefnaaGreat
open Go.RowKit (Below)
set_option linter.unusedVariables false

def dstOk (nt : Nat) : Option Nat → Bool
  | some t => Nat.blt t nt
  | none => true
theorem dstOk_lt {nt : Nat} {dst : Option Nat} (h : dstOk nt dst = true) : ∀ t, dst = some t → t < nt := by
  rintro t rfl
  exact Nat.le_of_ble_eq_true h

/-- The operation leads from these slots and blocks to those. -/
def OpTo (cx : Cx) (o : Oper) (s : Slots) (h : Heap) (s' : Slots) (h' : Heap) : Prop :=
  ∀ a w, R cx (lk s) h a w → ∀ (K : Act → World → Prop) (Q : Exit → Act → World → Prop), (∀ a' w', R cx (lk s') h' a' w' → K a' w') → o.wp cx.P a w K Q

/-- The operation yields this, whatever else the slots say; at most new blocks are laid. -/
def Qt (cx : Cx) (h : Heap) (o : Oper) (s : Nat → SV) (sv : SV) : Prop :=
  ∀ s₁ : Nat → SV, (∀ t, .tmp t ∈ o.op.operands → s₁ t = s t) → ∀ σ a w, RW cx σ s₁ h a w →
    ∀ (K : Act → World → Prop) (Q : Exit → Act → World → Prop), (∀ v w', Below w.heap.size w w' → RepSV σ h (okf cx σ h) w' v sv → K (a.put o.dst v) w') → o.wp cx.P a w K Q

theorem opTo_of_qt {cx : Cx} {o : Oper} {s : Slots} {h : Heap} {sv : SV} (hq : Qt cx h o (lk s) sv) (hd : dstOk cx.nt o.dst = true) : OpTo cx o s h (put s o.dst sv) h := by
  rintro a w ⟨σ, hr⟩ K Q hK
  refine hq (lk s) (fun _ _ => rfl) σ a w hr K Q fun v w' hb hv => hK _ _ ⟨σ, ?_⟩
  rw [lk_put]
  exact (hr.ext hb).put (dstOk_lt hd) hv

def lift (cx : Cx) (Q : Exit → Slots → Heap → Prop) : Exit → Act → World → Prop := fun e a w => ∃ s h, Q e s h ∧ R cx (lk s) h a w
def awpL (cx : Cx) (ops : Array Oper) (l : List Oper) (s : Slots) (h : Heap) (Q : Exit → Slots → Heap → Prop) : Prop := ∀ a w, R cx (lk s) h a w → wpList cx.P ops (lift cx Q) l a w
def awp (cx : Cx) (c : Code) (s : Slots) (h : Heap) (Q : Exit → Slots → Heap → Prop) : Prop := ∀ a w, R cx (lk s) h a w → c.wp cx.P (lift cx Q) a w

section
variable {cx : Cx} {ops : Array Oper} {o : Oper} {rest : List Oper} {s s' : Slots} {h h' : Heap} {Q : Exit → Slots → Heap → Prop}

theorem awpL_nil (hq : Q .normal s h) : awpL cx ops [] s h Q := fun a w hr => ⟨s, h, hq, hr⟩

theorem awpL_to (hg : o.guard = none) (ho : OpTo cx o s h s' h') (hn : awpL cx ops rest s' h' Q) : awpL cx ops (o :: rest) s h Q := fun a w hr => by
  unfold wpList
  rw [if_pos (by simp [Region.wanted, hg])]
  exact .inl (ho a w hr _ _ fun a' w' hr' => hn a' w' hr')

theorem awpL_q {sv : SV} (hg : o.guard = none) (hd : dstOk cx.nt o.dst = true) (hq : Qt cx h o (lk s) sv) (hn : awpL cx ops rest (put s o.dst sv) h Q) : awpL cx ops (o :: rest) s h Q :=
  awpL_to hg (opTo_of_qt hq hd) hn

theorem rep_bool {σ : Nat → Loc} {s : Nat → SV} {a : Act} {w : World} (hr : RW cx σ s h a w) {t : Nat} {b : Bool} (ht : s t = .d (.bool b)) : a.tmps[t]? = some (.bool b) := by
  have h1 := hr.slots t
  rw [ht] at h1
  have h2 : a.tmps.getD t undef = .bool b := RepD.bool_inv h1
  rw [Array.getD_eq_getD_getElem?] at h2
  cases h3 : a.tmps[t]? with
  | none => rw [h3] at h2; cases h2
  | some v => rw [h3] at h2; simpa using h2

theorem rep_und {σ : Nat → Loc} {s : Nat → SV} {a : Act} {w : World} (hr : RW cx σ s h a w) {t : Nat} (ht : s t = .und) : ∀ b, a.tmps[t]? ≠ some (.bool b) := by
  intro b hb
  have h1 := hr.slots t
  rw [ht] at h1
  have h2 : a.tmps.getD t undef = undef := h1
  rw [Array.getD_eq_getD_getElem?, hb] at h2
  cases h2

/-- Is the operation wanted? -/
def wantedA (ops : Array Oper) (o : Oper) (s : Nat → SV) : Option Bool :=
  match o.guard with
  | none => some true
  | some (j, want) =>
    match (ops[j]?).bind (·.dst) with
    | none => none
    | some t => match s t with
      | .d (.bool b) => some (b == want)
      | .und => some false
      | _ => none

theorem wanted_of {σ : Nat → Loc} {s : Nat → SV} {a : Act} {w : World} (hr : RW cx σ s h a w) {b : Bool} (hw : wantedA ops o s = some b) : Region.wanted o (yielded ops a.tmps) = b := by
  unfold wantedA at hw
  unfold Region.wanted
  cases hg : o.guard with
  | none => rw [hg] at hw; simpa using hw
  | some q =>
    obtain ⟨j, want⟩ := q
    rw [hg] at hw
    simp only at hw ⊢
    unfold yielded
    cases hj : (ops[j]?).bind (·.dst) with
    | none => rw [hj] at hw; cases hw
    | some t =>
      rw [hj] at hw
      simp only [Option.bind_some] at hw ⊢
      cases ht : s t with
      | d x =>
        rw [ht] at hw
        cases x <;> simp at hw
        rw [rep_bool hr ht, ← hw]
        simp
      | und =>
        rw [ht] at hw
        simp at hw
        subst hw
        have := rep_und hr ht
        cases hv : a.tmps[t]? with
        | none => simp
        | some v => cases v <;> first | (exact absurd hv (this _)) | simp
      | _ => rw [ht] at hw; cases hw

theorem awpL_run {sv : SV} (hw : wantedA ops o (lk s) = some true) (hd : dstOk cx.nt o.dst = true) (hq : Qt cx h o (lk s) sv) (hn : awpL cx ops rest (put s o.dst sv) h Q) : awpL cx ops (o :: rest) s h Q := fun a w hr => by
  unfold wpList
  rw [if_pos (by obtain ⟨σ, hr⟩ := hr; exact wanted_of hr hw)]
  exact .inl (opTo_of_qt hq hd a w hr _ _ fun a' w' hr' => hn a' w' hr')

theorem awpL_skip (hw : wantedA ops o (lk s) = some false) (hd : dstOk cx.nt o.dst = true) (hn : awpL cx ops rest (put s o.dst .und) h Q) : awpL cx ops (o :: rest) s h Q := fun a w hr => by
  unfold wpList
  obtain ⟨σ, hr⟩ := hr
  rw [if_neg (by rw [wanted_of hr hw]; simp)]
  refine hn _ _ ⟨σ, ?_⟩
  rw [lk_put]
  exact hr.put (dstOk_lt hd) rfl

theorem R_set {a : Act} {w : World} {t : Nat} {v v' : SV} (hr : R cx (lk s) h a w) (ht : lk s t = v) (hv : v = v') : R cx (lk ((t, v') :: s)) h a w := by
  obtain ⟨σ, hr⟩ := hr
  refine ⟨σ, hr.evo, hr.defers, hr.size, hr.heap, fun u => ?_⟩
  simp only [lk]
  split
  · rename_i e; subst e; rw [← hv, ← ht]; exact hr.slots u
  · exact hr.slots u

/-- The guard's value is looked at. -/
theorem awpL_split {j t : Nat} {want b : Bool} (hg : o.guard = some (j, want)) (hj : (ops[j]?).bind (·.dst) = some t) (hb : lk s t = .d (.bool b))
    (h1 : b = true → awpL cx ops (o :: rest) ((t, .d (.bool true)) :: s) h Q) (h2 : b = false → awpL cx ops (o :: rest) ((t, .d (.bool false)) :: s) h Q) : awpL cx ops (o :: rest) s h Q := fun a w hr => by
  cases b with
  | true => exact h1 rfl a w (R_set hr hb rfl)
  | false => exact h2 rfl a w (R_set hr hb rfl)

/-! ### Code -/

/-- What is asked behind the first of two pieces. -/
def thenQ (cx : Cx) (y : Code) (Q : Exit → Slots → Heap → Prop) : Exit → Slots → Heap → Prop
  | .normal, s, h => awp cx y s h Q
  | e, s, h => Q e s h
/-- What is asked inside a block. -/
def blockQ (id : Nat) (Q : Exit → Slots → Heap → Prop) : Exit → Slots → Heap → Prop
  | .exit i, s, h => if i = id then Q .normal s h else Q (.exit i) s h
  | e, s, h => Q e s h
/-- These slots are among those. -/
def Subs (s : Slots) : Slots → Prop
  | [] => True
  | p :: l => lk s p.1 = p.2 ∧ Subs s l
theorem Subs.all {s l : Slots} (hs : Subs s l) : ∀ p ∈ l, lk s p.1 = p.2 := by
  induction l with
  | nil => simp
  | cons p l ih =>
    intro q hq
    rcases List.mem_cons.1 hq with rfl | hq
    · exact hs.1
    · exact ih hs.2 q hq
/-- What is asked at a round's end. -/
def loopQ {ι : Type} (I : ι → Prop) (St : ι → Slots) (Hp : ι → Heap) (μ : ι → Nat) (i : ι) (Q : Exit → Slots → Heap → Prop) : Exit → Slots → Heap → Prop
  | .normal, s, h => ∃ j, I j ∧ Subs s (St j) ∧ Hp j = h ∧ μ j < μ i
  | e, s, h => Q e s h

theorem awp_seq {x y : Code} (hx : awp cx x s h (thenQ cx y Q)) : awp cx (.seq x y) s h Q := fun a w hr => by
  refine wp_seq (wp_mono (hx a w hr) ?_)
  rintro e a' w' ⟨s', h', hq, hr'⟩
  cases e with
  | normal => exact hq a' w' hr'
  | exit _ => exact ⟨s', h', hq, hr'⟩
  | goto _ => exact ⟨s', h', hq, hr'⟩
  | ret => exact ⟨s', h', hq, hr'⟩
  | panic _ => exact ⟨s', h', hq, hr'⟩
  | outgrown => exact ⟨s', h', hq, hr'⟩

theorem awp_skip (hq : Q .normal s h) : awp cx .skip s h Q := fun a w hr => wp_skip ⟨s, h, hq, hr⟩
theorem awp_exit {id : Nat} (hq : Q (.exit id) s h) : awp cx (.exit id) s h Q := fun a w hr => wp_exit ⟨s, h, hq, hr⟩
theorem awp_ret (hq : Q .ret s h) : awp cx .ret s h Q := fun a w hr => wp_ret ⟨s, h, hq, hr⟩
theorem awp_label {l : Nat} (hq : Q .normal s h) : awp cx (.label l) s h Q := fun a w hr => wp_label ⟨s, h, hq, hr⟩

theorem awp_block {id : Nat} {c : Code} (hc : awp cx c s h (blockQ id Q)) : awp cx (.block id c) s h Q := fun a w hr => by
  refine wp_block (wp_mono (hc a w hr) ?_)
  rintro e a' w' ⟨s', h', hq, hr'⟩
  cases e with
  | exit i =>
    simp only [Exit.inBlock, blockQ] at hq ⊢
    split
    · rename_i e; rw [if_pos e] at hq; exact ⟨s', h', hq, hr'⟩
    · rename_i e; rw [if_neg e] at hq; exact ⟨s', h', hq, hr'⟩
  | normal => exact ⟨s', h', hq, hr'⟩
  | goto _ => exact ⟨s', h', hq, hr'⟩
  | ret => exact ⟨s', h', hq, hr'⟩
  | panic _ => exact ⟨s', h', hq, hr'⟩
  | outgrown => exact ⟨s', h', hq, hr'⟩

def opvB (s : Nat → SV) : Operand → SV
  | .tmp t => s t
  | .const (.bool b) => .d (.bool b)
  | _ => .junk

theorem eval_bool {σ : Nat → Loc} {s : Nat → SV} {a : Act} {w : World} (hr : RW cx σ s h a w) {c : Operand} {b : Bool} (hc : opvB s c = .d (.bool b)) : a.eval c = .bool b := by
  cases c with
  | tmp t =>
    have h1 := hr.slots t
    rw [show s t = .d (.bool b) from hc] at h1
    exact RepD.bool_inv h1
  | const v => cases v <;> simp [opvB] at hc; subst hc; rfl
  | global g => cases hc
  | func f => cases hc

theorem awp_cond {c : Operand} {x y : Code} (b : Bool) (hc : opvB (lk s) c = .d (.bool b)) (ht : b = true → awp cx x s h Q) (hf : b = false → awp cx y s h Q) : awp cx (.cond c x y) s h Q := fun a w hr => by
  obtain ⟨σ, hr'⟩ := hr
  refine wp_cond_split (eval_bool hr' hc) (fun e => ht e a w ⟨σ, hr'⟩) (fun e => hf e a w ⟨σ, hr'⟩)

theorem awp_region {id : Nat} {l : List Oper} (hl : awpL cx l.toArray l s h Q) : awp cx (.region id l.toArray false) s h Q := fun a w hr =>
  wp_region_lit (hl a w hr)

theorem R_sub {a : Act} {w : World} (hr : R cx (lk s) h a w) (hs : ∀ p ∈ s', lk s p.1 = p.2) : R cx (lk s') h a w := by
  obtain ⟨σ, hr⟩ := hr
  refine ⟨σ, hr.evo, hr.defers, hr.size, hr.heap, fun t => ?_⟩
  have key : ∀ l : Slots, (∀ p ∈ l, lk s p.1 = p.2) → lk l t = .junk ∨ lk l t = lk s t := by
    intro l
    induction l with
    | nil => exact fun _ => .inl rfl
    | cons p l ih =>
      intro hl
      simp only [lk]
      split
      · rename_i e; right; rw [e]; exact (hl p (List.mem_cons_self ..)).symm
      · exact ih fun q hq => hl q (List.mem_cons_of_mem _ hq)
  rcases key s' hs with e | e
  · rw [e]; trivial
  · rw [e]; exact hr.slots t

theorem awp_sub {c : Code} (hs : Subs s s') (hc : awp cx c s' h Q) : awp cx c s h Q := fun a w hr => hc a w (R_sub hr hs.all)

theorem then_n {y : Code} (hh : awp cx y s h Q) : thenQ cx y Q .normal s h := hh
theorem then_r {y : Code} (hh : Q .ret s h) : thenQ cx y Q .ret s h := hh
theorem then_x {y : Code} {i : Nat} (hh : Q (.exit i) s h) : thenQ cx y Q (.exit i) s h := hh
theorem block_n {id : Nat} (hh : Q .normal s h) : blockQ id Q .normal s h := hh
theorem block_r {id : Nat} (hh : Q .ret s h) : blockQ id Q .ret s h := hh
theorem block_x {id : Nat} (hh : Q .normal s h) : blockQ id Q (.exit id) s h := by simp only [blockQ, if_true]; exact hh
theorem block_y {id i : Nat} (hne : Nat.beq i id = false) (hh : Q (.exit i) s h) : blockQ id Q (.exit i) s h := by
  simp only [blockQ]
  rw [if_neg (Nat.ne_of_beq_eq_false hne)]
  exact hh
theorem loop_r {ι : Type} {I : ι → Prop} {St : ι → Slots} {Hp : ι → Heap} {μ : ι → Nat} {i : ι} (hh : Q .ret s h) : loopQ I St Hp μ i Q .ret s h := hh
theorem loop_x {ι : Type} {I : ι → Prop} {St : ι → Slots} {Hp : ι → Heap} {μ : ι → Nat} {i : ι} {j : Nat} (hh : Q (.exit j) s h) : loopQ I St Hp μ i Q (.exit j) s h := hh
theorem loop_n {ι : Type} {I : ι → Prop} {St : ι → Slots} {Hp : ι → Heap} {μ : ι → Nat} {i : ι} (j : ι) (hj : I j) (h1 : Subs s (St j)) (h2 : Hp j = h) (h3 : μ j < μ i) : loopQ I St Hp μ i Q .normal s h := ⟨j, hj, h1, h2, h3⟩

/-- A loop: 'St i' are the slots and blocks at the head of a round. -/
theorem awp_loop {ι : Type} {c : Code} (I : ι → Prop) (St : ι → Slots) (Hp : ι → Heap) (μ : ι → Nat) (i : ι) (hi : I i) (h0 : Subs s (St i)) (hh : Hp i = h)
    (round : ∀ i, I i → awp cx c (St i) (Hp i) (loopQ I St Hp μ i Q)) : awp cx (.loop c) s h Q := by
  subst hh
  intro a w hr b k cs
  have key : ∀ n i, μ i = n → I i → ∀ a w, R cx (lk (St i)) (Hp i) a w →
      ∃ e a' w', lift cx Q e a' w' ∧ Arrives cx.P (lone (b.at a (.code c :: .inLoop c :: k)) cs w) b k cs e a' w' := by
    intro n
    induction n using Nat.strongRecOn with
    | _ n ih =>
      intro i hn hI a w hR
      obtain ⟨e, a₁, w₁, ⟨s', h', hq, hr'⟩, harr⟩ := round i hI a w hR b (.inLoop c :: k) cs
      cases e with
      | normal =>
        obtain ⟨j, hIj, hj, hh, hlt⟩ := hq
        subst hh
        obtain ⟨e₂, a₂, w₂, hq₂, harr₂⟩ := ih (μ j) (hn ▸ hlt) j rfl hIj a₁ w₁ (R_sub hr' hj.all)
        exact ⟨e₂, a₂, w₂, hq₂, .of_steps (Steps.trans harr (.one step_inLoop)) harr₂⟩
      | exit id => exact ⟨_, a₁, w₁, ⟨s', h', hq, hr'⟩, .pass (x := .inLoop c) rfl (fun _ _ => .inl (by simp)) harr⟩
      | goto l => exact ⟨_, a₁, w₁, ⟨s', h', hq, hr'⟩, .pass (x := .inLoop c) rfl (fun _ _ => .inl (by simp)) harr⟩
      | ret => exact ⟨_, a₁, w₁, ⟨s', h', hq, hr'⟩, .pass (x := .inLoop c) rfl (fun _ _ => .inl (by simp)) harr⟩
      | panic ch => exact ⟨_, a₁, w₁, ⟨s', h', hq, hr'⟩, .pass (x := .inLoop c) rfl (fun _ _ => .inl (by simp)) harr⟩
      | outgrown => exact ⟨_, a₁, w₁, ⟨s', h', hq, hr'⟩, .pass (x := .inLoop c) rfl (fun _ _ => .inl (by simp)) harr⟩
  obtain ⟨e, a', w', hq, harr⟩ := key _ i rfl hi a w (R_sub hr h0.all)
  exact ⟨e, a', w', hq, .of_steps (.one step_loop) harr⟩

/-! ### A region in every order -/

/-- The written order's walk of a region whose operations leave the old memory alone. -/
def awpQ (cx : Cx) (ops : Array Oper) (h : Heap) (K : (Nat → SV) → Prop) : List Oper → (Nat → SV) → Prop
  | [], s => K s
  | o :: rest, s => (wantedA ops o s = some true ∧ ∃ sv, Qt cx h o s sv ∧ awpQ cx ops h K rest (fput s o.dst sv)) ∨ (wantedA ops o s = some false ∧ awpQ cx ops h K rest (fput s o.dst .und))

/-- Operation o leaves this in its slot. -/
def YieldsA (cx : Cx) (ops : Array Oper) (h : Heap) (o : Oper) (sv : SV) (s : Nat → SV) : Prop :=
  (wantedA ops o s = some true ∧ Qt cx h o s sv) ∨ (wantedA ops o s = some false ∧ sv = .und)

def aOp (cx : Cx) (ops : Array Oper) (h : Heap) (i : Nat) (K : (Nat → SV) → Prop) (s : Nat → SV) : Prop :=
  match ops[i]? with
  | none => K s
  | some o => ∃ sv, YieldsA cx ops h o sv s ∧ K (fput s o.dst sv)

theorem aOp_mono {i : Nat} {s : Nat → SV} {K K' : (Nat → SV) → Prop} (hk : ∀ s, K s → K' s) (hh : aOp cx ops h i K s) : aOp cx ops h i K' s := by
  unfold aOp at *
  split
  · rename_i e; simp only [e] at hh; exact hk _ hh
  · rename_i o e
    simp only [e] at hh
    obtain ⟨sv, h1, h2⟩ := hh
    exact ⟨sv, h1, hk _ h2⟩

def aAny (cx : Cx) (ops : Array Oper) (h : Heap) (n : Nat) (L : Array Bool → (Nat → SV) → Prop) : Nat → Array Bool → (Nat → SV) → Prop
  | 0, listed, s => L listed s
  | f + 1, listed, s => Region.ready .any ops listed ≠ [] ∧ ∀ i ∈ Region.ready .any ops listed, i < n ∧ aOp cx ops h i (aAny cx ops h n L f (listed.setIfInBounds i true)) s

theorem wanted_same {s s₁ : Nat → SV} (hs : ∀ t ∈ o.looksAt ops, s₁ t = s t) : wantedA ops o s₁ = wantedA ops o s := by
  unfold wantedA
  cases hg : o.guard with
  | none => rfl
  | some q =>
    obtain ⟨j, want⟩ := q
    simp only
    cases hj : (ops[j]?).bind (·.dst) with
    | none => rfl
    | some t =>
      simp only
      rw [hs t (List.mem_append_right _ (by simp [hg, hj]))]

theorem YieldsA.of_same {sv : SV} {s s₁ : Nat → SV} (hy : YieldsA cx ops h o sv s) (hs : ∀ t ∈ o.looksAt ops, s₁ t = s t) : YieldsA cx ops h o sv s₁ := by
  have hw := wanted_same (ops := ops) hs
  rcases hy with ⟨h1, h2⟩ | ⟨h1, h2⟩
  · refine .inl ⟨hw.trans h1, fun s₂ h3 => h2 s₂ fun t ht => (h3 t ht).trans (hs t ?_)⟩
    exact List.mem_append_left _ (List.mem_filterMap.2 ⟨.tmp t, by simpa using ht, rfl⟩)
  · exact .inr ⟨hw.trans h1, h2⟩

theorem fput_ne {s : Nat → SV} {dst : Option Nat} {sv : SV} {t : Nat} (ht : ∀ d, dst = some d → d ≠ t) : fput s dst sv t = s t := by
  cases dst with
  | none => rfl
  | some d => simp only [fput, upd]; rw [if_neg (Ne.symm (ht d rfl))]

theorem fput_comm {s : Nat → SV} {x y : Option Nat} {u v : SV} (hxy : ∀ d, x = some d → y ≠ some d) : fput (fput s x u) y v = fput (fput s y v) x u := by
  cases x with
  | none => rfl
  | some d =>
    cases y with
    | none => rfl
    | some e =>
      funext t
      simp only [fput, upd]
      have hne : e ≠ d := fun he => hxy d rfl (by rw [he])
      by_cases h1 : t = e
      · subst h1; simp [hne]
      · by_cases h2 : t = d
        · subst h2; simp [h1]
        · simp [h1, h2]

theorem aOp_put {j : Nat} {oi oj : Oper} {sv : SV} (hj : ops[j]? = some oj) (hap : oi.apart ops oj = true) {K : (Nat → SV) → Prop} {s : Nat → SV}
    (hy : YieldsA cx ops h oi sv s) (hh : aOp cx ops h j K (fput s oi.dst sv)) : aOp cx ops h j (fun s' => YieldsA cx ops h oi sv s' ∧ K (fput s' oi.dst sv)) s := by
  obtain ⟨h1, h2, h3⟩ := Oper.apart_spec hap
  unfold aOp at *
  simp only [hj] at *
  obtain ⟨u, hu, hk⟩ := hh
  refine ⟨u, hu.of_same fun t ht => (fput_ne fun d hd e => ?_).symm, hy.of_same fun t ht => fput_ne fun d hd e => ?_, ?_⟩
  · subst e; exact h1 d hd ht
  · subst e; exact h3 d hd ht
  · rw [← fput_comm h2]; exact hk

theorem aAny_first {n i : Nat} {oi : Oper} {sv : SV} {L : Array Bool → (Nat → SV) → Prop} (hi : ops[i]? = some oi)
    (htw : ∀ listed, HeadInv .any ops n listed → listed.getD i true = false → ∀ j ∈ Region.ready .any ops listed, j < n) (hin : i < n)
    (hdone : ∀ listed s, L listed s → ∀ j ∈ Region.ready .any ops listed, n ≤ j) :
    ∀ (f : Nat) (listed : Array Bool) (s : Nat → SV), HeadInv .any ops n listed →
      (∀ j oj, ops[j]? = some oj → j ≠ i → listed.getD j true = false → (∀ e ∈ oj.after, Region.binds .any e = true → e.on ≠ i) → oi.apart ops oj = true) →
      i ∈ Region.ready .any ops listed → YieldsA cx ops h oi sv s →
      aAny cx ops h n L f (listed.setIfInBounds i true) (fput s oi.dst sv) → aAny cx ops h n L (f + 1) listed s := by
  intro f
  induction f with
  | zero =>
    intro listed s inv _ hr hy H
    have hun := (mem_ready.1 hr).1
    refine ⟨fun h => (by rw [h] at hr; cases hr), fun j hj => ?_⟩
    have hjn : j < n := htw listed inv hun j hj
    refine ⟨hjn, ?_⟩
    by_cases hji : j = i
    · subst hji; unfold aOp; simp only [hi]; exact ⟨sv, hy, H⟩
    · have := hdone _ _ H j (ready_mono hj hji)
      omega
  | succ f ih =>
    intro listed s inv hfree hr hy H
    have hun := (mem_ready.1 hr).1
    refine ⟨fun h => (by rw [h] at hr; cases hr), fun j hj => ?_⟩
    have hjn : j < n := htw listed inv hun j hj
    refine ⟨hjn, ?_⟩
    by_cases hji : j = i
    · subst hji; unfold aOp; simp only [hi]; exact ⟨sv, hy, H⟩
    · have h1 := (H.2 j (ready_mono hj hji)).2
      obtain ⟨hjun, oj, hoj, hall⟩ := mem_ready.1 hj
      have hnot : ∀ e ∈ oj.after, Region.binds .any e = true → e.on ≠ i := fun e he hb heq => by
        have h1 := hall e he hb
        rw [heq, getD_both hun] at h1
        cases h1
      have h2 := aOp_put hoj (hfree j oj hoj hji hjun hnot) hy h1
      have hfree' : ∀ k ok, ops[k]? = some ok → k ≠ i → (listed.setIfInBounds j true).getD k true = false →
          (∀ e ∈ ok.after, Region.binds .any e = true → e.on ≠ i) → oi.apart ops ok = true := fun k ok hk hki hun hno => by
        refine hfree k ok hk hki ?_ hno
        by_cases hjk : j = k
        · subst hjk; exact hjun
        · rw [getD_set_ne true hjk] at hun; exact hun
      refine aOp_mono (fun s' h3 => ih (listed.setIfInBounds j true) s' (inv.set hj hjn) hfree' (ready_mono hr (Ne.symm hji)) h3.1 ?_) h2
      rw [Array.setIfInBounds_comm _ _ hji]
      exact h3.2

theorem aAny_lex {n g : Nat} {Lq : (Nat → SV) → Prop} (htw : ∀ i, i < n → ∀ listed, HeadInv .any ops n listed → listed.getD i true = false → ∀ j ∈ Region.ready .any ops listed, j < n) :
    ∀ (l : List Oper) (k : Nat) (listed : Array Bool) (s : Nat → SV), (∀ j, j < l.length → l[j]? = ops[k + j]?) → k + l.length = n → HeadInv .any ops n listed →
    Region.lexHead .any ops g l.length k listed = true → awpQ cx ops h Lq l s →
    aAny cx ops h n (fun listed' s' => Region.seqB .any ops g n listed' = true ∧ Lq s') l.length listed s
  | [], k, listed, s, _, hk, _, hB, hh => by
    have : k = n := by simpa using hk
    subst this
    exact ⟨by simpa [Region.lexHead] using hB, hh⟩
  | o :: l, k, listed, s, hl, hk, inv, hB, hh => by
    have h0 : ops[k]? = some o := by simpa using (hl 0 (by simp)).symm
    simp only [List.length_cons, Region.lexHead, Bool.and_eq_true] at hB
    obtain ⟨⟨hr, hf⟩, hB'⟩ := hB
    have hkn : k < n := by simp only [List.length_cons] at hk; omega
    have hr' : k ∈ Region.ready .any ops listed := by simpa using hr
    have hy : ∃ sv, YieldsA cx ops h o sv s ∧ awpQ cx ops h Lq l (fput s o.dst sv) := by
      rcases hh with ⟨h1, sv, h2, h3⟩ | ⟨h1, h2⟩
      · exact ⟨sv, .inl ⟨h1, h2⟩, h3⟩
      · exact ⟨.und, .inr ⟨h1, rfl⟩, h2⟩
    obtain ⟨sv, hy, hK⟩ := hy
    exact aAny_first h0 (htw k hkn) hkn (fun listed' a' hL => seqB_ready hL.1) l.length listed s inv (Region.free_spec h0 hf) hr' hy
      (aAny_lex htw l (k + 1) _ _ (fun j hj => by have := hl (j + 1) (by simp; omega); simpa [Nat.add_assoc, Nat.add_comm 1 j] using this) (by simp only [List.length_cons] at hk; omega) (inv.set hr' hkn) hB' hK)

theorem wpAny_of_aAny {n g : Nat} {σ : Nat → Loc} {L : Array Bool → (Nat → SV) → Prop} {Q' : Exit → Act → World → Prop} (hdst : ∀ o ∈ ops, dstOk cx.nt o.dst = true)
    (hL : ∀ listed s a w, L listed s → RW cx σ s h a w → wpAny cx.P .any ops Q' g listed a w) :
    ∀ (f : Nat) (listed : Array Bool) (s : Nat → SV) (a : Act) (w : World), aAny cx ops h n L f listed s → RW cx σ s h a w → wpAny cx.P .any ops Q' (f + g) listed a w
  | 0, listed, s, a, w, hh, hr => by rw [Nat.zero_add]; exact hL _ _ _ _ hh hr
  | f + 1, listed, s, a, w, hh, hr => by
    rw [show f + 1 + g = (f + g) + 1 by omega]
    refine ⟨fun h0 => absurd h0 hh.1, fun i hi => ?_⟩
    have h1 := (hh.2 i hi).2
    unfold aOp at h1
    unfold wpOp
    split
    · rename_i e
      simp only [e] at h1
      exact wpAny_of_aAny hdst hL f _ _ _ _ h1 hr
    · rename_i o e
      simp only [e] at h1
      obtain ⟨sv, hy, h2⟩ := h1
      have hd := dstOk_lt (hdst o (Array.mem_of_getElem? e))
      rcases hy with ⟨hw, hq⟩ | ⟨hw, rfl⟩
      · rw [if_pos (wanted_of hr hw)]
        exact .inl (hq s (fun _ _ => rfl) σ a w hr _ _ fun v w' hb hv => wpAny_of_aAny hdst hL f _ _ _ _ h2 ((hr.ext hb).put hd hv))
      · rw [if_neg (by rw [wanted_of hr hw]; simp)]
        exact wpAny_of_aAny hdst hL f _ _ _ _ h2 (hr.put hd rfl)

theorem below_drew (w : World) : Below w.heap.size w { w with drawn := w.drawn + 1 } := ⟨rfl, rfl, rfl, Nat.le_refl _, fun _ _ => rfl⟩

/-- The same walk over slots that are listed. -/
def awpQL (cx : Cx) (ops : Array Oper) (h : Heap) (K : Slots → Prop) (l : List Oper) (s : Slots) : Prop := awpQ cx ops h (fun f => ∃ s', lk s' = f ∧ K s') l (lk s)

theorem awpQL_nil {K : Slots → Prop} (hk : K s) : awpQL cx ops h K [] s := ⟨s, rfl, hk⟩
theorem awpQL_q {K : Slots → Prop} {sv : SV} (hg : o.guard = none) (hq : Qt cx h o (lk s) sv) (hn : awpQL cx ops h K rest (put s o.dst sv)) : awpQL cx ops h K (o :: rest) s := by
  refine .inl ⟨by simp [wantedA, hg], sv, hq, ?_⟩
  rw [← lk_put]; exact hn
theorem awpQL_run {K : Slots → Prop} {sv : SV} (hw : wantedA ops o (lk s) = some true) (hq : Qt cx h o (lk s) sv) (hn : awpQL cx ops h K rest (put s o.dst sv)) : awpQL cx ops h K (o :: rest) s := by
  refine .inl ⟨hw, sv, hq, ?_⟩
  rw [← lk_put]; exact hn
theorem awpQL_skip {K : Slots → Prop} (hw : wantedA ops o (lk s) = some false) (hn : awpQL cx ops h K rest (put s o.dst .und)) : awpQL cx ops h K (o :: rest) s := by
  refine .inr ⟨hw, ?_⟩
  rw [← lk_put]; exact hn

theorem awpQL_split {K : Slots → Prop} {j t : Nat} {want b : Bool} (hg : o.guard = some (j, want)) (hj : (ops[j]?).bind (·.dst) = some t) (hb : lk s t = .d (.bool b))
    (h1 : b = true → awpQL cx ops h K (o :: rest) ((t, .d (.bool true)) :: s)) (h2 : b = false → awpQL cx ops h K (o :: rest) ((t, .d (.bool false)) :: s)) : awpQL cx ops h K (o :: rest) s := by
  have e : ∀ v, lk s t = v → lk ((t, v) :: s) = lk s := fun v hv => by
    funext u
    simp only [lk]
    split
    · rename_i e; subst e; exact hv.symm
    · rfl
  cases b with
  | true => have := h1 rfl; unfold awpQL at this; rwa [e _ hb] at this
  | false => have := h2 rfl; unfold awpQL at this; rwa [e _ hb] at this

/-- A region that draws its order: the first n operations in their written order, each leaving old memory alone; the others one behind the other. -/
theorem awp_draw_tail {id : Nat} {l : List Oper} (n : Nat) (hm : cx.P.follows .mixedOrders = true) (hB : Region.lexTailB .any l.toArray n = true) (hdst : (l.all fun o => dstOk cx.nt o.dst) = true)
    (hq : awpQL cx l.toArray h (fun s' => awpL cx l.toArray (l.drop n) s' h Q) (l.take n) s) : awp cx (.region id l.toArray true) s h Q := fun a w hr => by
  obtain ⟨σ, hr⟩ := hr
  simp only [Region.lexTailB, Bool.and_eq_true, decide_eq_true_eq] at hB
  obtain ⟨⟨⟨⟨hsel, hn⟩, hs⟩, hc⟩, hlex⟩ := hB
  have hn' : n < l.length := by simpa using hn
  have htl : (l.take n).length = n := by simp; omega
  have hdl : (l.drop n).length = l.toArray.size - n := by simp
  have inv0 : HeadInv .any l.toArray n (Array.replicate l.toArray.size false) :=
    ⟨by simp, fun j oj _ hl => (by rw [getD_replicate_false] at hl; cases hl), fun t _ ht => getD_in (by simpa using ht) (getD_replicate_false _ _)⟩
  have H := aAny_lex (g := l.toArray.size - n) (fun i hi listed inv hun j hj => by
    rcases Nat.lt_or_ge j n with h | h
    · exact h
    · exact absurd hj (tail_waits hs hc hn inv _ i rfl hi hun j h)) (l.take n) 0 _ (lk s) (fun j hj => by
    have hj' : j < n := by rw [htl] at hj; exact hj
    simp [hj']) (by simpa using htl) inv0 (by rw [htl]; exact hlex) hq
  refine wp_region_any hm ?_
  have := wpAny_of_aAny (Q' := lift cx Q) (g := l.toArray.size - n) (σ := σ) (fun o ho => by simpa using List.all_eq_true.1 hdst o (by simpa using ho)) (fun listed f a' w' hL hr' => by
    obtain ⟨hL1, s', rfl, hL2⟩ := hL
    have := wpAny_of_seq (md := .any) (Q' := lift cx Q) (l.drop n) n listed a' w' (fun j => by simp [List.getElem?_drop]) (by rw [hdl]; exact hL1) (hL2 a' w' ⟨σ, hr'⟩)
    rwa [hdl] at this) _ _ _ _ _ H (hr.ext (below_drew w))
  rw [htl, show n + (l.toArray.size - n) = l.toArray.size by omega] at this
  exact this

def lexAllB (ops : Array Oper) : Bool := Region.lexHead .any ops 0 ops.size 0 (Array.replicate ops.size false)

/-- A region that draws its order, each operation leaving old memory alone. -/
theorem awp_draw {id : Nat} {l : List Oper} (hm : cx.P.follows .mixedOrders = true) (hB : lexAllB l.toArray = true) (hdst : (l.all fun o => dstOk cx.nt o.dst) = true)
    (hq : awpQL cx l.toArray h (fun s' => Q .normal s' h) l s) : awp cx (.region id l.toArray true) s h Q := fun a w hr => by
  obtain ⟨σ, hr⟩ := hr
  have inv0 : HeadInv .any l.toArray l.toArray.size (Array.replicate l.toArray.size false) :=
    ⟨by simp, fun j oj _ hl => (by rw [getD_replicate_false] at hl; cases hl), fun t _ ht => getD_in (by simpa using ht) (getD_replicate_false _ _)⟩
  have H := aAny_lex (g := 0) (n := l.toArray.size) (fun i hi listed inv hun j hj => by
    obtain ⟨_, o, ho, _⟩ := mem_ready.1 hj
    exact (Array.getElem?_eq_some_iff.1 ho).1) l 0 _ (lk s) (fun j hj => by simp) (by simp) inv0 (by simpa [lexAllB] using hB) hq
  refine wp_region_any hm ?_
  have := wpAny_of_aAny (Q' := lift cx Q) (g := 0) (σ := σ) (fun o ho => by simpa using List.all_eq_true.1 hdst o (by simpa using ho)) (fun listed f a' w' hL hr' => by
    obtain ⟨hL1, s', rfl, hL2⟩ := hL
    exact ⟨by simpa [Region.seqB] using hL1, s', h, hL2, σ, hr'⟩) _ _ _ _ _ H (hr.ext (below_drew w))
  simpa using this

end
end Go.Proofs.YtampglcgipefnaaGreat
