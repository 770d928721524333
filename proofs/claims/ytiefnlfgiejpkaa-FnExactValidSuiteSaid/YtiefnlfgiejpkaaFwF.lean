/- One's own blocks in the logic over data: a block is laid, written, grown, given away. No condition. -/
import Derived.Test.YtiefnlfgiejpkaaFwE
namespace Go.Proofs.Ytiefnlfgiejpkaa
open Go
open Go.RowKit (Below)
set_option linter.unusedVariables false
set_option linter.unusedSimpArgs false

def SV.at (id : Nat) : SV → Bool
  | .ref i _ => Nat.beq i id
  | .own i => Nat.beq i id
  | .elt i _ => Nat.beq i id
  | _ => false

def SV.kill (id : Nat) (v : SV) : SV :=
  match v.at id with
  | true => .junk
  | false => v

def Chunk.kill (id : Nat) : Chunk → Chunk
  | .box cells => .box (cells.map (SV.kill id))
  | c => c

def killS (id : Nat) (s : Slots) : Slots := s.map fun p => (p.1, p.2.kill id)
def killH (id : Nat) : Heap → Heap
  | [] => []
  | p :: h => match Nat.beq p.1 id with
    | true => killH id h
    | false => (p.1, p.2.kill id) :: killH id h

theorem lk_killS (id : Nat) (s : Slots) (t : Nat) : lk (killS id s) t = (lk s t).kill id := by
  induction s with
  | nil => rfl
  | cons p s ih =>
    simp only [killS, List.map_cons, lk] at ih ⊢
    split
    · rfl
    · exact ih

theorem get_killH (id : Nat) (h : Heap) (j : Nat) (hj : j ≠ id) : (killH id h).get j = (h.get j).map (Chunk.kill id) := by
  induction h with
  | nil => rfl
  | cons p h ih =>
    simp only [killH]
    split
    · rename_i e
      have := Nat.eq_of_beq_eq_true e
      simp only [Heap.get]
      rw [if_neg (by omega)]
      exact ih
    · simp only [Heap.get]
      split
      · rfl
      · exact ih

theorem mem_killH {id : Nat} {h : Heap} {p : Nat × Chunk} (hp : p ∈ killH id h) : p.1 ≠ id ∧ ∃ c, (p.1, c) ∈ h ∧ p.2 = c.kill id := by
  induction h with
  | nil => cases hp
  | cons q h ih =>
    simp only [killH] at hp
    split at hp
    · obtain ⟨h1, c, h2, h3⟩ := ih hp
      exact ⟨h1, c, List.mem_cons_of_mem _ h2, h3⟩
    · rename_i e
      rcases List.mem_cons.1 hp with rfl | hp
      · exact ⟨Nat.ne_of_beq_eq_false e, q.2, List.mem_cons_self .., rfl⟩
      · obtain ⟨h1, c, h2, h3⟩ := ih hp
        exact ⟨h1, c, List.mem_cons_of_mem _ h2, h3⟩

theorem nodup_killH {id : Nat} {h : Heap} (hn : (h.map (·.1)).Nodup) : ((killH id h).map (·.1)).Nodup := by
  induction h with
  | nil => exact hn
  | cons p h ih =>
    simp only [List.map_cons, List.nodup_cons] at hn
    simp only [killH]
    split
    · exact ih hn.2
    · simp only [List.map_cons, List.nodup_cons]
      refine ⟨fun hm => hn.1 ?_, ih hn.2⟩
      obtain ⟨q, hq, he⟩ := List.mem_map.1 hm
      obtain ⟨_, c, hc, _⟩ := mem_killH hq
      exact List.mem_map.2 ⟨_, hc, he⟩

theorem RepSV.kill {σ σ' : Nat → Loc} {h h' : Heap} {ok ok' : Nat → Prop} {w w' : World} {v : Value} {x : SV} {id : Nat} (hr : RepSV σ h ok w v x)
    (hk : ∀ b, ok b → b < w.heap.size → ok' b ∧ w'.heap[b]? = w.heap[b]?) (hσ : ∀ j, j ≠ id → σ' j = σ j) (hg : ∀ j, j ≠ id → h'.get j = (h.get j).map (Chunk.kill id)) : RepSV σ' h' ok' w' v (x.kill id) := by
  unfold SV.kill
  cases x with
  | junk => trivial
  | und => exact hr
  | d x => exact RepD.mono hr hk
  | ref i off =>
    simp only [SV.at]
    split
    · trivial
    · rename_i e
      have := Nat.ne_of_beq_eq_false e
      simp only [RepSV, hσ i this] at hr ⊢
      exact hr
  | own i =>
    simp only [SV.at]
    split
    · trivial
    · rename_i e
      have := Nat.ne_of_beq_eq_false e
      simp only [RepSV, hσ i this, hg i this] at hr ⊢
      cases hc : h.get i with
      | none => trivial
      | some c => cases c <;> simp [hc, Chunk.kill] at hr ⊢ <;> exact hr
  | elt i n =>
    simp only [SV.at]
    split
    · trivial
    · rename_i e
      have := Nat.ne_of_beq_eq_false e
      simp only [RepSV, hσ i this, hg i this] at hr ⊢
      cases hc : h.get i with
      | none => trivial
      | some c => cases c <;> simp [hc, Chunk.kill] at hr ⊢ <;> exact hr

theorem RepChunk.kill {σ σ' : Nat → Loc} {h h' : Heap} {ok ok' : Nat → Prop} {w w' : World} {l : Loc} {c : Chunk} {id : Nat} (hr : RepChunk σ h ok w l c)
    (hk : ∀ b, ok b → b < w.heap.size → ok' b ∧ w'.heap[b]? = w.heap[b]?) (hσ : ∀ j, j ≠ id → σ' j = σ j) (hg : ∀ j, j ≠ id → h'.get j = (h.get j).map (Chunk.kill id))
    (hl : w'.heap[l.b]? = w.heap[l.b]?) (hs : w.heap.size ≤ w'.heap.size) : RepChunk σ' h' ok' w' l (c.kill id) := by
  cases c with
  | box cells =>
    obtain ⟨cs, t, h1, h2, h3⟩ := hr
    refine ⟨cs, t, hl.trans h1, by simp [h2], fun i v x hv hx => ?_⟩
    simp only [List.getElem?_map, Option.map_eq_some_iff] at hx
    obtain ⟨y, hy, rfl⟩ := hx
    exact ⟨(h3 i v y hv hy).1.kill hk hσ hg, (h3 i v y hv hy).2⟩
  | arr e sz xs => exact RepChunk.mono (σ := σ) (h := h) (c := .arr e sz xs) hr hk hl hs

/-- A block of one's own, new or in the place of an elder one: what spoke of the elder one is forgotten. -/
theorem RW.lay {cx : Cx} {σ : Nat → Loc} {s : Slots} {h : Heap} {a : Act} {w w' : World} (hr : RW cx σ (lk s) h a w) (id : Nat) (l : Loc) (c : Chunk)
    (hos : w'.os = w.os) (htape : w'.tape = w.tape) (hout : w'.output = w.output) (hsize : w.heap.size ≤ w'.heap.size)
    (hblock : ∀ b, b < w.heap.size → ((∃ p ∈ h, p.1 = id) → b ≠ (σ id).b) → w'.heap[b]? = w.heap[b]?)
    (hlb : w.heap.size ≤ l.b ∨ ((∃ p ∈ h, p.1 = id) ∧ l.b = (σ id).b)) (hlt : l.b < w'.heap.size)
    (hc : ∀ σ' ok', (∀ b, okf cx σ h b → b < w.heap.size → ok' b ∧ w'.heap[b]? = w.heap[b]?) → σ' id = l → (∀ j, j ≠ id → σ' j = σ j) → RepChunk σ' ((id, c) :: killH id h) ok' w' l c) :
    ∃ σ', σ' id = l ∧ RW cx σ' (lk (killS id s)) ((id, c) :: killH id h) a w' := by
  let σ' : Nat → Loc := fun j => if j = id then l else σ j
  have hσ' : σ' id = l := if_pos rfl
  have hσ : ∀ j, j ≠ id → σ' j = σ j := fun j hj => if_neg hj
  have hmem : ∀ p, p ∈ killH id h → p.1 ≠ id ∧ ∃ c, (p.1, c) ∈ h ∧ p.2 = c.kill id := fun p hp => mem_killH hp
  have hl_ne : ∀ p, p ∈ killH id h → (σ p.1).b ≠ l.b := fun p hp e => by
    obtain ⟨h1, c', h2, h3⟩ := hmem p hp
    rcases hlb with hlb | ⟨⟨q, hq, hq1⟩, hlb⟩
    · have := (hr.heap.mine _ h2).2; simp only at this; omega
    · rw [hlb, ← hq1] at e
      exact h1 ((hr.heap.inj _ h2 q hq e).trans hq1)
  have hok : ∀ b, okf cx σ h b → b < w.heap.size → okf cx σ' ((id, c) :: killH id h) b ∧ w'.heap[b]? = w.heap[b]? := fun b hb hbl => by
    have hne : (∃ p ∈ h, p.1 = id) → b ≠ (σ id).b := fun ⟨p, hp, e⟩ => by rw [← e]; exact hb.2 p hp
    refine ⟨⟨hb.1, fun p hp => ?_⟩, hblock b hbl hne⟩
    rcases List.mem_cons.1 hp with rfl | hp
    · show b ≠ (σ' id).b
      rw [hσ']
      rcases hlb with hlb | ⟨hex, hlb⟩
      · omega
      · rw [hlb]; exact hne hex
    · obtain ⟨h1, c', h2, _⟩ := hmem p hp
      rw [hσ _ h1]
      exact hb.2 (p.1, c') h2
  have hg : ∀ j, j ≠ id → Heap.get ((id, c) :: killH id h) j = (h.get j).map (Chunk.kill id) := fun j hj => by
    simp only [Heap.get]
    rw [if_neg (Ne.symm hj)]
    exact get_killH id h j hj
  refine ⟨σ', hσ', ⟨hos.trans hr.evo.os, htape.trans hr.evo.tape, hout.trans hr.evo.output, Nat.le_trans hr.evo.size hsize, fun b h1 h2 => ?_⟩, hr.defers, hr.size, ⟨?_, ?_, ?_, ?_⟩, fun t => ?_⟩
  · refine (hblock b (Nat.lt_of_lt_of_le h1 hr.evo.size) fun ⟨p, hp, e⟩ he => ?_).trans (hr.evo.block b h1 h2)
    rw [← e] at he
    rcases (hr.heap.mine p hp).1 with hx | hx
    · exact h2 (he ▸ hx)
    · omega
  · simp only [List.map_cons, List.nodup_cons]
    refine ⟨fun hm => ?_, nodup_killH hr.heap.nodup⟩
    obtain ⟨q, hq, he⟩ := List.mem_map.1 hm
    exact (hmem q hq).1 he
  · intro p hp q hq e
    rcases List.mem_cons.1 hp with rfl | hp <;> rcases List.mem_cons.1 hq with rfl | hq
    · rfl
    · exfalso
      simp only [hσ', hσ _ (hmem q hq).1] at e
      exact hl_ne q hq e.symm
    · exfalso
      simp only [hσ', hσ _ (hmem p hp).1] at e
      exact hl_ne p hp e
    · rw [hσ _ (hmem p hp).1, hσ _ (hmem q hq).1] at e
      obtain ⟨_, c1, m1, _⟩ := hmem p hp
      obtain ⟨_, c2, m2, _⟩ := hmem q hq
      exact hr.heap.inj (p.1, c1) m1 (q.1, c2) m2 e
  · intro p hp
    rcases List.mem_cons.1 hp with rfl | hp
    · simp only [hσ']
      refine ⟨?_, hlt⟩
      rcases hlb with hlb | ⟨⟨q, hq, hq1⟩, hlb⟩
      · exact .inr (Nat.le_trans hr.evo.size hlb)
      · rw [hlb, ← hq1]; exact (hr.heap.mine q hq).1
    · obtain ⟨h1, c', h2, _⟩ := hmem p hp
      rw [hσ _ h1]
      exact ⟨(hr.heap.mine _ h2).1, Nat.lt_of_lt_of_le (hr.heap.mine _ h2).2 hsize⟩
  · intro p hp
    rcases List.mem_cons.1 hp with rfl | hp
    · simp only [hσ']
      exact hc σ' _ hok hσ' hσ
    · obtain ⟨h1, c', h2, h3⟩ := hmem p hp
      rw [hσ _ h1, h3]
      refine RepChunk.kill (hr.heap.rep _ h2) hok hσ hg (hblock _ (hr.heap.mine _ h2).2 fun ⟨q, hq, hq1⟩ e => ?_) hsize
      rw [← hq1] at e
      exact h1 ((hr.heap.inj _ h2 q hq e).trans hq1)
  · rw [lk_killS]
    exact (hr.slots t).kill hok hσ hg

/-- What a chunk is written over with may not change what else is said of it. -/
def Chunk.like : Chunk → Chunk → Prop
  | .box a, .box b => a.length = b.length
  | .arr e sz xs, .arr e' sz' ys => e = e' ∧ sz = sz' ∧ xs.length = ys.length
  | _, _ => False

def setH (id : Nat) (c : Chunk) : Heap → Heap
  | [] => []
  | p :: h => match Nat.beq p.1 id with
    | true => (id, c) :: h
    | false => p :: setH id c h

theorem get_setH_ne {id : Nat} {c : Chunk} {h : Heap} {j : Nat} (hj : j ≠ id) : (setH id c h).get j = h.get j := by
  induction h with
  | nil => rfl
  | cons p h ih =>
    simp only [setH]
    split
    · rename_i e
      have := Nat.eq_of_beq_eq_true e
      simp only [Heap.get]
      rw [if_neg (Ne.symm hj), if_neg (by omega)]
    · simp only [Heap.get]
      split
      · rfl
      · exact ih

theorem get_setH {id : Nat} {c c' : Chunk} {h : Heap} (hg : h.get id = some c') : (setH id c h).get id = some c := by
  induction h with
  | nil => cases hg
  | cons p h ih =>
    simp only [setH]
    split
    · simp [Heap.get]
    · rename_i e
      have := Nat.ne_of_beq_eq_false e
      simp only [Heap.get] at hg ⊢
      rw [if_neg this] at hg ⊢
      exact ih hg

theorem mem_setH {id : Nat} {c : Chunk} {h : Heap} {p : Nat × Chunk} (hn : (h.map (·.1)).Nodup) (hp : p ∈ setH id c h) : (p = (id, c) ∧ ∃ c', (id, c') ∈ h) ∨ (p ∈ h ∧ p.1 ≠ id) := by
  induction h with
  | nil => cases hp
  | cons q h ih =>
    simp only [List.map_cons, List.nodup_cons] at hn
    simp only [setH] at hp
    split at hp
    · rename_i e
      have e' := Nat.eq_of_beq_eq_true e
      rcases List.mem_cons.1 hp with rfl | hp
      · exact .inl ⟨rfl, q.2, by rw [← e']; exact List.mem_cons_self ..⟩
      · refine .inr ⟨List.mem_cons_of_mem _ hp, fun he => hn.1 ?_⟩
        exact List.mem_map.2 ⟨p, hp, he.trans e'.symm⟩
    · rename_i e
      rcases List.mem_cons.1 hp with rfl | hp
      · exact .inr ⟨List.mem_cons_self .., Nat.ne_of_beq_eq_false e⟩
      · rcases ih hn.2 hp with ⟨h1, c', h2⟩ | ⟨h1, h2⟩
        · exact .inl ⟨h1, c', List.mem_cons_of_mem _ h2⟩
        · exact .inr ⟨List.mem_cons_of_mem _ h1, h2⟩

theorem map_setH {id : Nat} {c : Chunk} {h : Heap} : (setH id c h).map (·.1) = h.map (·.1) := by
  induction h with
  | nil => rfl
  | cons q h ih =>
    simp only [setH]
    split
    · rename_i e
      have e' := Nat.eq_of_beq_eq_true e
      simp [e']
    · simp [ih]

theorem RepSV.set {σ : Nat → Loc} {h : Heap} {ok ok' : Nat → Prop} {w w' : World} {v : Value} {x : SV} {id : Nat} {c c' : Chunk} (hr : RepSV σ h ok w v x) (hg : h.get id = some c) (hl : c.like c')
    (hk : ∀ b, ok b → b < w.heap.size → ok' b ∧ w'.heap[b]? = w.heap[b]?) : RepSV σ (setH id c' h) ok' w' v x := by
  cases x with
  | junk => trivial
  | und => exact hr
  | d x => exact RepD.mono hr hk
  | ref i off => exact hr
  | own i =>
    by_cases e : i = id
    · subst e
      simp only [RepSV, get_setH hg, hg] at hr ⊢
      cases c <;> cases c' <;> simp only [Chunk.like] at hl ⊢
      rw [← hl.2.2]; exact hr
    · simp only [RepSV, get_setH_ne e] at hr ⊢; exact hr
  | elt i n =>
    by_cases e : i = id
    · subst e
      simp only [RepSV, get_setH hg, hg] at hr ⊢
      cases c <;> cases c' <;> simp only [Chunk.like] at hl ⊢
      rw [← hl.2.1]; exact hr
    · simp only [RepSV, get_setH_ne e] at hr ⊢; exact hr

/-- One's own block is written. -/
theorem RW.set {cx : Cx} {σ : Nat → Loc} {s : Nat → SV} {h : Heap} {a : Act} {w w' : World} (hr : RW cx σ s h a w) {id : Nat} {c c' : Chunk} (hg : h.get id = some c) (hl : c.like c')
    (hos : w'.os = w.os) (htape : w'.tape = w.tape) (hout : w'.output = w.output) (hsize : w'.heap.size = w.heap.size)
    (hblock : ∀ b, b ≠ (σ id).b → w'.heap[b]? = w.heap[b]?)
    (hc : (∀ b, okf cx σ h b → b < w.heap.size → okf cx σ (setH id c' h) b ∧ w'.heap[b]? = w.heap[b]?) → RepChunk σ (setH id c' h) (okf cx σ (setH id c' h)) w' (σ id) c') : RW cx σ s (setH id c' h) a w' := by
  obtain ⟨p0, hp0, hp1, hp2⟩ := get_mem hg
  have hok : ∀ b, okf cx σ h b → b < w.heap.size → okf cx σ (setH id c' h) b ∧ w'.heap[b]? = w.heap[b]? := fun b hb hbl => by
    refine ⟨⟨hb.1, fun p hp => ?_⟩, hblock b ?_⟩
    · rcases mem_setH hr.heap.nodup hp with ⟨rfl, c2, h2⟩ | ⟨h1, _⟩
      · exact hb.2 (id, c2) h2
      · exact hb.2 _ h1
    · rw [← hp1]; exact hb.2 _ hp0
  refine ⟨⟨hos.trans hr.evo.os, htape.trans hr.evo.tape, hout.trans hr.evo.output, by rw [hsize]; exact hr.evo.size, fun b h1 h2 => ?_⟩, hr.defers, hr.size, ⟨?_, ?_, ?_, ?_⟩, fun t => ?_⟩
  · refine (hblock b fun e => ?_).trans (hr.evo.block b h1 h2)
    rw [← hp1] at e
    rcases (hr.heap.mine p0 hp0).1 with hx | hx
    · exact h2 (e ▸ hx)
    · omega
  · rw [map_setH]; exact hr.heap.nodup
  · intro p hp q hq e
    have old : ∀ p ∈ setH id c' h, ∃ c2, (p.1, c2) ∈ h := fun p hp => by
      rcases mem_setH hr.heap.nodup hp with ⟨rfl, h2⟩ | ⟨h1, _⟩
      · exact h2
      · exact ⟨p.2, h1⟩
    obtain ⟨c1, m1⟩ := old p hp
    obtain ⟨c2, m2⟩ := old q hq
    exact hr.heap.inj (p.1, c1) m1 (q.1, c2) m2 e
  · intro p hp
    rw [hsize]
    rcases mem_setH hr.heap.nodup hp with ⟨rfl, c2, h2⟩ | ⟨h1, _⟩
    · exact hr.heap.mine (id, c2) h2
    · exact hr.heap.mine _ h1
  · intro p hp
    rcases mem_setH hr.heap.nodup hp with ⟨rfl, _⟩ | ⟨h1, hne⟩
    · exact hc hok
    · have hb : (σ p.1).b ≠ (σ id).b := fun e => hne ((hr.heap.inj _ h1 p0 hp0 (by rw [hp1]; exact e)).trans hp1)
      have := hr.heap.rep p h1
      cases hpc : p.2 with
      | box cells =>
        rw [hpc] at this
        obtain ⟨cs, t, k1, k2, k3⟩ := this
        exact ⟨cs, t, (hblock _ hb).trans k1, k2, fun i v x hv hx => ⟨(k3 i v x hv hx).1.set hg hl hok, (k3 i v x hv hx).2⟩⟩
      | arr e sz xs =>
        rw [hpc] at this
        exact RepChunk.mono (σ := σ) (h := h) (c := .arr e sz xs) this hok (hblock _ hb) (by omega)
  · exact (hr.slots t).set hg hl hok

end Go.Proofs.Ytiefnlfgiejpkaa
