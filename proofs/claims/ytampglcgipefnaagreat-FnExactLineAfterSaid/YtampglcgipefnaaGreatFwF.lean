/- One's own blocks in the logic over data: how a frame outlasts that some of them are laid, written, moved, given away. No condition. -/
import Derived.Test.YtampglcgipefnaaGreatFwE
namespace Go.Proofs.YtampglcgipefnaaGreat
open Go
open Go.RowKit (Below)
set_option linter.unusedVariables false
set_option linter.unusedSimpArgs false

def memB (id : Nat) : List Nat → Bool
  | [] => false
  | k :: K => match Nat.beq id k with
    | true => true
    | false => memB id K

theorem memB_one {i j : Nat} : memB i [j] = true ↔ i = j := by
  unfold memB
  constructor
  · intro h
    split at h
    · rename_i e; exact Nat.eq_of_beq_eq_true e
    · simp [memB] at h
  · rintro rfl
    simp
theorem memB_oneF {i j : Nat} : memB i [j] = false ↔ i ≠ j := by
  rw [← Bool.not_eq_true, memB_one]
theorem memB_iff {i : Nat} : ∀ {K : List Nat}, memB i K = true ↔ i ∈ K
  | [] => by simp [memB]
  | k :: K => by
    unfold memB
    rw [List.mem_cons, ← @memB_iff i K]
    split
    · rename_i e; simp [Nat.eq_of_beq_eq_true e]
    · rename_i e; simp [Nat.ne_of_beq_eq_false e]

mutual
def SV.kill (K : List Nat) : SV → SV
  | .ref i o => match memB i K with
    | true => .junk
    | false => .ref i o
  | .own i => match memB i K with
    | true => .junk
    | false => .own i
  | .elt i o => match memB i K with
    | true => .junk
    | false => .elt i o
  | .sub i o => match memB i K with
    | true => .junk
    | false => .sub i o
  | .agg l => .agg (SV.kills K l)
  | .tup l => .tup (SV.kills K l)
  | .fn f l => .fn f (SV.kills K l)
  | .junk => .junk
  | .und => .und
  | .d x => .d x
def SV.kills (K : List Nat) : List SV → List SV
  | [] => []
  | x :: l => SV.kill K x :: SV.kills K l
end

def holeMap (f : SV → SV) : Option (Nat × SV) → Option (Nat × SV)
  | some p => some (p.1, f p.2)
  | none => none
theorem hat_map {f : SV → SV} (h : Option (Nat × SV)) : hat (holeMap f h) = hat h := by cases h <;> rfl

def Chunk.mapc (f : SV → SV) : Chunk → Chunk
  | .box cells => .box (cells.map f)
  | .arr e sz xs => .arr e sz xs
  | .rows e e' sz xss hole => .rows e e' sz xss (holeMap f hole)
  | .map kvs => .map kvs

def mapS (f : SV → SV) (s : Slots) : Slots := s.map fun p => (p.1, f p.2)
def keepH (f : SV → SV) (K : List Nat) : Heap → Heap
  | [] => []
  | p :: h => match memB p.1 K with
    | true => keepH f K h
    | false => (p.1, p.2.mapc f) :: keepH f K h
def killS (id : Nat) (s : Slots) : Slots := mapS (SV.kill [id]) s
def killH (id : Nat) (h : Heap) : Heap := keepH (SV.kill [id]) [id] h

theorem lk_mapS {f : SV → SV} (hf : f .junk = .junk) (s : Slots) (t : Nat) : lk (mapS f s) t = f (lk s t) := by
  induction s with
  | nil => exact hf.symm
  | cons p s ih =>
    simp only [mapS, List.map_cons, lk] at ih ⊢
    split
    · rfl
    · exact ih

theorem blk_mapc {l : Loc} {c : Chunk} {f : SV → SV} : blk l (c.mapc f) = blk l c := by
  cases c <;> first | rfl | simp [Chunk.mapc, blk, hat_map]

theorem get_keepH {f : SV → SV} {K : List Nat} {h : Heap} {j : Nat} (hj : memB j K = false) : (keepH f K h).get j = (h.get j).map (Chunk.mapc f) := by
  induction h with
  | nil => rfl
  | cons p h ih =>
    simp only [keepH]
    split
    · rename_i e
      simp only [Heap.get]
      rw [if_neg (fun e' => by rw [e', hj] at e; cases e)]
      exact ih
    · simp only [Heap.get]
      split
      · rfl
      · exact ih

theorem mem_keepH {f : SV → SV} {K : List Nat} {h : Heap} {p : Nat × Chunk} (hp : p ∈ keepH f K h) : memB p.1 K = false ∧ ∃ c, (p.1, c) ∈ h ∧ p.2 = c.mapc f := by
  induction h with
  | nil => cases hp
  | cons q h ih =>
    simp only [keepH] at hp
    split at hp
    · obtain ⟨h1, c, h2, h3⟩ := ih hp
      exact ⟨h1, c, List.mem_cons_of_mem _ h2, h3⟩
    · rename_i e
      rcases List.mem_cons.1 hp with rfl | hp
      · exact ⟨e, q.2, List.mem_cons_self .., rfl⟩
      · obtain ⟨h1, c, h2, h3⟩ := ih hp
        exact ⟨h1, c, List.mem_cons_of_mem _ h2, h3⟩

theorem nodup_keepH {f : SV → SV} {K : List Nat} {h : Heap} (hn : (h.map (·.1)).Nodup) : ((keepH f K h).map (·.1)).Nodup := by
  induction h with
  | nil => exact hn
  | cons p h ih =>
    simp only [List.map_cons, List.nodup_cons] at hn
    simp only [keepH]
    split
    · exact ih hn.2
    · simp only [List.map_cons, List.nodup_cons]
      refine ⟨fun hm => hn.1 ?_, ih hn.2⟩
      obtain ⟨q, hq, he⟩ := List.mem_map.1 hm
      obtain ⟨_, c, hc, _⟩ := mem_keepH hq
      exact List.mem_map.2 ⟨_, hc, he⟩

theorem get_append {N h : Heap} {j : Nat} (hj : ∀ p ∈ N, p.1 ≠ j) : (N ++ h : Heap).get j = h.get j := by
  induction N with
  | nil => rfl
  | cons p N ih =>
    simp only [List.cons_append, Heap.get]
    rw [if_neg (hj p (List.mem_cons_self ..))]
    exact ih fun q hq => hj q (List.mem_cons_of_mem _ hq)

/-- Two chunks of which the slots say the same. -/
def Chunk.sim : Chunk → Chunk → Prop
  | .box _, .box _ => True
  | .arr _ sz xs, .arr _ sz' ys => sz = sz' ∧ xs.length = ys.length
  | .rows _ _ _ xss _, .rows _ _ _ yss _ => xss.map List.length = yss.map List.length
  | .map _, .map _ => True
  | _, _ => False
def simO : Option Chunk → Option Chunk → Prop
  | none, none => True
  | some c, some c' => c.sim c'
  | _, _ => False
theorem sim_mapc {f : SV → SV} (c : Chunk) : c.sim (c.mapc f) := by cases c <;> simp [Chunk.sim, Chunk.mapc]
theorem sim_refl (c : Chunk) : c.sim c := by cases c <;> simp [Chunk.sim]

theorem len_sim {xss yss : List (List D)} (h : xss.map List.length = yss.map List.length) : xss.length = yss.length ∧ ∀ (i : Nat) xs, xss[i]? = some xs → ∃ ys, yss[i]? = some ys ∧ ys.length = xs.length := by
  refine ⟨by simpa using congrArg List.length h, fun i xs hx => ?_⟩
  have := congrArg (·[i]?) h
  simp only [List.getElem?_map, hx, Option.map_some] at this
  cases hy : yss[i]? with
  | none => rw [hy] at this; cases this
  | some ys => rw [hy] at this; exact ⟨ys, rfl, by simpa using this.symm⟩

mutual
theorem RepSV.kill {σ σ' : Nat → Loc} {h h' : Heap} {ok ok' : Nat → Prop} {w w' : World} {K : List Nat}
    (hk : ∀ b, ok b → b < w.heap.size → ok' b ∧ w'.heap[b]? = w.heap[b]?) (hσ : ∀ j, memB j K = false → σ' j = σ j) (hg : ∀ j, memB j K = false → simO (h.get j) (h'.get j)) :
    ∀ {x : SV} {v : Value}, RepSV σ h ok w v x → RepSV σ' h' ok' w' v (x.kill K)
  | .junk, _, _ => by unfold SV.kill RepSV; trivial
  | .und, _, hr => hr
  | .d x, _, hr => RepD.mono hr hk
  | .ref i off, v, hr => by
    unfold SV.kill
    split
    · unfold RepSV; trivial
    · rename_i e
      simp only [RepSV, hσ i e] at hr ⊢
      exact hr
  | .own i, v, hr => by
    unfold SV.kill
    split
    · unfold RepSV; trivial
    · rename_i e
      have hs := hg i e
      simp only [RepSV, hσ i e] at hr ⊢
      cases h1 : h.get i <;> cases h2 : h'.get i <;> simp only [h1, h2, simO] at hr hs ⊢
      rename_i c c'
      cases c <;> cases c' <;> simp only [Chunk.sim] at hr hs ⊢
      · rw [← hs.2]; exact hr
      · rw [← (len_sim hs).1]; exact hr
      · exact hr
  | .elt i n, v, hr => by
    unfold SV.kill
    split
    · unfold RepSV; trivial
    · rename_i e
      have hs := hg i e
      simp only [RepSV, hσ i e] at hr ⊢
      cases h1 : h.get i <;> cases h2 : h'.get i <;> simp only [h1, h2, simO] at hr hs ⊢
      rename_i c c'
      cases c <;> cases c' <;> simp only [Chunk.sim] at hr hs ⊢
      · rw [← hs.1]; exact hr
      · exact hr
  | .sub i n, v, hr => by
    unfold SV.kill
    split
    · unfold RepSV; trivial
    · rename_i e
      have hs := hg i e
      simp only [RepSV, hσ i e] at hr ⊢
      cases h1 : h.get i <;> cases h2 : h'.get i <;> simp only [h1, h2, simO] at hr hs ⊢
      rename_i c c'
      cases c <;> cases c' <;> simp only [Chunk.sim] at hr hs ⊢
      · rw [← hs.1, ← hs.2]; exact hr
      obtain ⟨q, xs, h3, h4, h5⟩ := hr
      obtain ⟨ys, h6, h7⟩ := (len_sim hs).2 _ _ h4
      exact ⟨q, ys, h3, h6, by rw [h7]; exact h5⟩
  | .agg l, v, hr => by
    unfold SV.kill
    simp only [RepSV] at hr ⊢
    obtain ⟨cs, e, hl⟩ := hr
    exact ⟨cs, e, RepSVs.kill hk hσ hg hl⟩
  | .tup l, v, hr => by
    unfold SV.kill
    simp only [RepSV] at hr ⊢
    obtain ⟨cs, e, hl⟩ := hr
    exact ⟨cs, e, RepSVs.kill hk hσ hg hl⟩
  | .fn f l, v, hr => by
    unfold SV.kill
    simp only [RepSV] at hr ⊢
    obtain ⟨cs, e, hl⟩ := hr
    exact ⟨cs, e, RepSVs.kill hk hσ hg hl⟩
theorem RepSVs.kill {σ σ' : Nat → Loc} {h h' : Heap} {ok ok' : Nat → Prop} {w w' : World} {K : List Nat}
    (hk : ∀ b, ok b → b < w.heap.size → ok' b ∧ w'.heap[b]? = w.heap[b]?) (hσ : ∀ j, memB j K = false → σ' j = σ j) (hg : ∀ j, memB j K = false → simO (h.get j) (h'.get j)) :
    ∀ {l : List SV} {one : Bool} {vs : List Value}, RepSVs σ h ok w one vs l → RepSVs σ' h' ok' w' one vs (SV.kills K l)
  | [], _, _, hr => by unfold SV.kills; exact hr
  | x :: l, _, _, hr => by
    unfold SV.kills
    simp only [RepSVs] at hr ⊢
    obtain ⟨v, vs', e, h1, h2, h3⟩ := hr
    exact ⟨v, vs', e, RepSV.kill hk hσ hg h1, h2, RepSVs.kill hk hσ hg h3⟩
end

mutual
theorem SV.kill_nil : ∀ x : SV, x.kill [] = x
  | .ref i o => rfl
  | .own i => rfl
  | .elt i o => rfl
  | .sub i o => rfl
  | .agg l => by unfold SV.kill; rw [SV.kills_nil l]
  | .tup l => by unfold SV.kill; rw [SV.kills_nil l]
  | .fn f l => by unfold SV.kill; rw [SV.kills_nil l]
  | .junk => rfl
  | .und => rfl
  | .d x => rfl
theorem SV.kills_nil : ∀ l : List SV, SV.kills [] l = l
  | [] => rfl
  | x :: l => by unfold SV.kills; rw [SV.kill_nil x, SV.kills_nil l]
end

/-- Nothing is forgotten. -/
theorem RepSV.sim {σ : Nat → Loc} {h h' : Heap} {ok ok' : Nat → Prop} {w w' : World} (hk : ∀ b, ok b → b < w.heap.size → ok' b ∧ w'.heap[b]? = w.heap[b]?) (hg : ∀ j, simO (h.get j) (h'.get j)) {x : SV} {v : Value} (hr : RepSV σ h ok w v x) : RepSV σ h' ok' w' v x := by
  have := RepSV.kill (σ' := σ) (K := []) hk (fun _ _ => rfl) (fun j _ => hg j) hr
  rwa [SV.kill_nil] at this

theorem RepChunk.mapc {σ σ' : Nat → Loc} {h h' : Heap} {ok ok' : Nat → Prop} {w w' : World} {l : Loc} {c : Chunk} {f : SV → SV} (hr : RepChunk σ h ok w l c)
    (hk : ∀ b, ok b → b < w.heap.size → ok' b ∧ w'.heap[b]? = w.heap[b]?) (hf : ∀ v sv, RepSV σ h ok w v sv → RepSV σ' h' ok' w' v (f sv))
    (hl : ∀ b, b ∈ blk l c → w'.heap[b]? = w.heap[b]?) : RepChunk σ' h' ok' w' l (c.mapc f) := by
  cases c with
  | box cells =>
    obtain ⟨h0, cs, t, h1, h2, h3⟩ := hr
    refine ⟨h0, cs, t, (hl _ (by simp [blk])).trans h1, by simp [h2], fun i v x hv hx => ?_⟩
    simp only [List.getElem?_map, Option.map_eq_some_iff] at hx
    obtain ⟨y, hy, rfl⟩ := hx
    exact ⟨hf _ _ (h3 i v y hv hy).1, (h3 i v y hv hy).2⟩
  | arr e sz xs => exact RepChunk.mono (σ := σ) (h := h) (c := .arr e sz xs) hr hk hl
  | rows e e' sz xss hole =>
    obtain ⟨h0, h1, h2, h3, h4⟩ := RepChunk.mono (σ := σ) (h := h) (c := .rows e e' sz xss hole) hr hk hl
    refine ⟨h0, h1, h2, fun i q xs hq hx hh => h3 i q xs hq hx (by rwa [hat_map] at hh), fun p hp q xs hq hx => ?_⟩
    cases hole with
    | none => simp [holeMap] at hp
    | some p0 =>
      simp only [holeMap, Option.some.injEq] at hp
      subst hp
      exact hf _ _ (hr.2.2.2.2 p0 rfl q xs hq hx)
  | map kvs => exact RepChunk.mono (σ := σ) (h := h) (c := .map kvs) hr hk hl

/-- One's own blocks turn: those of K go, those of N come; 'f': what becomes of what was said. -/
theorem RW.upd {cx : Cx} {σ σ' : Nat → Loc} {s : Nat → SV} {h : Heap} {a : Act} {w w' : World} (hr : RW cx σ s h a w) (K : List Nat) (N : Heap) (f : SV → SV)
    (hNK : ∀ p ∈ N, memB p.1 K = true) (hNn : (N.map (·.1)).Nodup) (hσ : ∀ j, memB j K = false → σ' j = σ j)
    (hos : w'.os = w.os) (htape : w'.tape = w.tape) (hout : w'.output = w.output) (hsize : w.heap.size ≤ w'.heap.size)
    (hblock : ∀ b, b < w.heap.size → (∀ p ∈ h, memB p.1 K = true → b ∉ blk (σ p.1) p.2) → w'.heap[b]? = w.heap[b]?)
    (hNd : ∀ p ∈ N, (blk (σ' p.1) p.2).Nodup) (hNi : ∀ p ∈ N, ∀ q ∈ N, ∀ b, b ∈ blk (σ' p.1) p.2 → b ∈ blk (σ' q.1) q.2 → p.1 = q.1)
    (hNb : ∀ p ∈ N, ∀ b, b ∈ blk (σ' p.1) p.2 → b < w'.heap.size ∧ (w.heap.size ≤ b ∨ ∃ q ∈ h, memB q.1 K = true ∧ b ∈ blk (σ q.1) q.2 ∧ (q.1 < 10000 ∨ q.1 = p.1 ∨ (isMov q.1 = false ∧ isMov p.1 = false ∧ 10000 ≤ p.1))))
    (hNa : ∀ p ∈ N, isAnc p.1 = true → σ' p.1 = cx.anc p.1)
    (hf : (∀ b, okf cx σ h b → b < w.heap.size → okf cx σ' (N ++ keepH f K h) b ∧ w'.heap[b]? = w.heap[b]?) → ∀ v sv, RepSV σ h (okf cx σ h) w v sv → RepSV σ' (N ++ keepH f K h) (okf cx σ' (N ++ keepH f K h)) w' v (f sv))
    (hrep : (∀ b, okf cx σ h b → b < w.heap.size → okf cx σ' (N ++ keepH f K h) b ∧ w'.heap[b]? = w.heap[b]?) → ∀ p ∈ N, RepChunk σ' (N ++ keepH f K h) (okf cx σ' (N ++ keepH f K h)) w' (σ' p.1) p.2) :
    RW cx σ' (fun t => f (s t)) (N ++ keepH f K h) a w' := by
  have hmem : ∀ p, p ∈ keepH f K h → memB p.1 K = false ∧ ∃ c, (p.1, c) ∈ h ∧ p.2 = c.mapc f := fun p hp => mem_keepH hp
  have hold : ∀ p, p ∈ keepH f K h → ∀ b, b ∈ blk (σ' p.1) p.2 → memB p.1 K = false ∧ ∃ c, (p.1, c) ∈ h ∧ b ∈ blk (σ p.1) c := fun p hp b hb => by
    obtain ⟨h1, c, h2, h3⟩ := hmem p hp
    rw [hσ _ h1, h3, blk_mapc] at hb
    exact ⟨h1, c, h2, hb⟩
  have hne : ∀ p ∈ N, ∀ q, q ∈ keepH f K h → ∀ b, b ∈ blk (σ' p.1) p.2 → b ∈ blk (σ' q.1) q.2 → False := fun p hp q hq b hb hb' => by
    obtain ⟨h1, c, h2, h3⟩ := hold q hq b hb'
    rcases (hNb p hp b hb).2 with h4 | ⟨r, hr1, hr2, hr3, _⟩
    · have := (hr.heap.mine _ h2 b h3).2.2; omega
    · have := hr.heap.inj r hr1 _ h2 b hr3 h3
      simp only at this
      rw [this, h1] at hr2
      cases hr2
  have hok : ∀ b, okf cx σ h b → b < w.heap.size → okf cx σ' (N ++ keepH f K h) b ∧ w'.heap[b]? = w.heap[b]? := fun b hb hbl => by
    refine ⟨⟨hb.1, fun p hp => ?_⟩, hblock b hbl fun p hp _ => hb.2 p hp⟩
    rcases List.mem_append.1 hp with hp | hp
    · intro hbb
      rcases (hNb p hp b hbb).2 with h4 | ⟨q, hq, _, hq2, _⟩
      · omega
      · exact hb.2 q hq hq2
    · intro hbb
      obtain ⟨_, c, h2, h3⟩ := hold p hp b hbb
      exact hb.2 _ h2 h3
  have hf' := hf hok
  refine ⟨⟨hos.trans hr.evo.os, htape.trans hr.evo.tape, hout.trans hr.evo.output, Nat.le_trans hr.evo.size hsize, fun b h1 h2 => ?_⟩, hr.defers, hr.size, ⟨?_, ?_, ?_, ?_, ?_, ?_⟩, fun t => hf' _ _ (hr.slots t)⟩
  · refine (hblock b (Nat.lt_of_lt_of_le h1 (Nat.le_trans cx.nwle hr.evo.size)) fun p hp _ hbb => ?_).trans (hr.evo.block b h1 h2)
    rcases (hr.heap.mine p hp b hbb).1 with hx | hx
    · exact h2 _ hx
    · omega
  · rw [List.map_append]
    refine List.nodup_append.2 ⟨hNn, nodup_keepH hr.heap.nodup, fun i hi j hj e => ?_⟩
    obtain ⟨p, hp, rfl⟩ := List.mem_map.1 hi
    obtain ⟨q, hq, rfl⟩ := List.mem_map.1 hj
    have := (hmem q hq).1
    rw [← e, hNK p hp] at this
    cases this
  · intro p hp
    rcases List.mem_append.1 hp with hp | hp
    · exact hNd p hp
    · obtain ⟨h1, c, h2, h3⟩ := hmem p hp
      rw [hσ _ h1, h3, blk_mapc]
      exact hr.heap.nd _ h2
  · intro p hp q hq b hb hb'
    rcases List.mem_append.1 hp with hp | hp <;> rcases List.mem_append.1 hq with hq | hq
    · exact hNi p hp q hq b hb hb'
    · exact (hne p hp q hq b hb hb').elim
    · exact (hne q hq p hp b hb' hb).elim
    · obtain ⟨_, c1, m1, k1⟩ := hold p hp b hb
      obtain ⟨_, c2, m2, k2⟩ := hold q hq b hb'
      exact hr.heap.inj (p.1, c1) m1 (q.1, c2) m2 b k1 k2
  · intro p hp b hb
    rcases List.mem_append.1 hp with hp | hp
    · obtain ⟨h1, h2⟩ := hNb p hp b hb
      rcases h2 with h2 | ⟨q, hq, _, hq2, hq3⟩
      · exact ⟨.inr (Nat.le_trans cx.nwle (Nat.le_trans hr.evo.size h2)), fun _ => Nat.le_trans cx.nwle (Nat.le_trans hr.evo.size h2), h1⟩
      · obtain ⟨m1, m2, m3⟩ := hr.heap.mine q hq b hq2
        rcases hq3 with hq3 | hq3 | ⟨hq3, hq4, hq5⟩
        · exact ⟨.inr (m2 hq3), fun _ => m2 hq3, h1⟩
        · exact ⟨by rw [← hq3]; exact m1, fun h => m2 (by rw [hq3]; exact h), h1⟩
        · refine ⟨?_, fun h => by omega, h1⟩
          unfold Cx.X0 at m1 ⊢
          rw [hq3] at m1
          rw [hq4]
          exact m1
    · obtain ⟨_, c, h2, h3⟩ := hold p hp b hb
      obtain ⟨m1, m2, m3⟩ := hr.heap.mine _ h2 b h3
      exact ⟨m1, m2, Nat.lt_of_lt_of_le m3 hsize⟩
  · intro p hp
    rcases List.mem_append.1 hp with hp | hp
    · exact hrep hok p hp
    · obtain ⟨h1, c, h2, h3⟩ := hmem p hp
      rw [hσ _ h1, h3]
      refine RepChunk.mapc (hr.heap.rep _ h2) hok hf' fun b hb => hblock b (hr.heap.mine _ h2 b hb).2.2 fun q hq hqK hb' => ?_
      have := hr.heap.inj q hq _ h2 b hb' hb
      simp only at this
      rw [this, h1] at hqK
      cases hqK
  · intro p hp ha
    rcases List.mem_append.1 hp with hp | hp
    · exact hNa p hp ha
    · obtain ⟨h1, c, h2, h3⟩ := hmem p hp
      rw [hσ _ h1]
      exact hr.heap.anc (p.1, c) h2 ha

theorem anc_slot {cx : Cx} {t : Nat} (h : Nat.blt t cx.nt = true) : isAnc t = false ∧ t < 10000 := by
  have h1 : t + 1 ≤ cx.nt := Nat.le_of_ble_eq_true h
  have h2 := Nat.le_of_ble_eq_true cx.ntle
  refine ⟨?_, by omega⟩
  unfold isAnc
  have : Nat.ble 10000 t = false := by
    rw [← Bool.not_eq_true]
    intro h3
    have := Nat.le_of_ble_eq_true h3
    omega
  rw [this]; rfl

theorem simO_keep {f : SV → SV} {K : List Nat} {N h : Heap} (hNK : ∀ p ∈ N, memB p.1 K = true) : ∀ j, memB j K = false → simO (h.get j) ((N ++ keepH f K h : Heap).get j) := fun j hj => by
  rw [get_append fun p hp e => (by rw [← e, hNK p hp] at hj; cases hj), get_keepH hj]
  cases h.get j with
  | none => trivial
  | some c => exact sim_mapc c

/-- A block of one's own, new or in the place of an elder one: what spoke of the elder one is forgotten. -/
theorem RW.lay {cx : Cx} {σ : Nat → Loc} {s : Slots} {h : Heap} {a : Act} {w w' : World} (hr : RW cx σ (lk s) h a w) (id : Nat) (hid : isAnc id = false) (l : Loc) (c : Chunk)
    (hos : w'.os = w.os) (htape : w'.tape = w.tape) (hout : w'.output = w.output) (hsize : w.heap.size ≤ w'.heap.size)
    (hblock : ∀ b, b < w.heap.size → (∀ p ∈ h, p.1 = id → b ∉ blk (σ p.1) p.2) → w'.heap[b]? = w.heap[b]?)
    (hnd : (blk l c).Nodup) (hlb : ∀ b, b ∈ blk l c → b < w'.heap.size ∧ (w.heap.size ≤ b ∨ ∃ q ∈ h, q.1 = id ∧ b ∈ blk (σ q.1) q.2))
    (hc : ∀ σ' ok', (∀ b, okf cx σ h b → b < w.heap.size → ok' b ∧ w'.heap[b]? = w.heap[b]?) → σ' id = l → (∀ j, j ≠ id → σ' j = σ j) → RepChunk σ' ((id, c) :: killH id h) ok' w' l c) :
    ∃ σ', σ' id = l ∧ RW cx σ' (lk (killS id s)) ((id, c) :: killH id h) a w' := by
  let σ' : Nat → Loc := fun j => if j = id then l else σ j
  have hσ' : σ' id = l := if_pos rfl
  have hσ : ∀ j, j ≠ id → σ' j = σ j := fun j hj => if_neg hj
  refine ⟨σ', hσ', ?_⟩
  have := hr.upd (σ' := σ') (w' := w') [id] [(id, c)] (SV.kill [id]) (by simp [memB]) (by simp) (fun j hj => hσ j (memB_oneF.1 hj)) hos htape hout hsize
    (fun b hb hp => hblock b hb fun p hp1 hp2 => hp p hp1 (memB_one.2 hp2))
    (fun p hp => by simp at hp; subst hp; simpa [hσ'] using hnd) (fun p hp q hq _ _ _ => by simp at hp hq; subst hp hq; rfl)
    (fun p hp b hb => by
      simp at hp; subst hp
      simp only [hσ'] at hb
      obtain ⟨h1, h2⟩ := hlb b hb
      refine ⟨h1, h2.imp (fun h => h) fun ⟨q, hq, hq1, hq2⟩ => ⟨q, hq, memB_one.2 hq1, hq2, .inr (.inl hq1)⟩⟩)
    (fun p hp ha => by simp at hp; subst hp; rw [hid] at ha; cases ha)
    (fun hok v sv hv => RepSV.kill hok (fun j hj => hσ j (memB_oneF.1 hj)) (simO_keep (by simp [memB])) hv)
    (fun hok p hp => by
      simp at hp; subst hp
      simp only [hσ']
      exact hc σ' _ hok hσ' hσ)
  have e : lk (killS id s) = fun t => SV.kill [id] (lk s t) := funext fun t => lk_mapS rfl s t
  rw [e]
  exact this

/-- What a chunk is written over with may not change what else is said of it. -/
def Chunk.like : Chunk → Chunk → Prop
  | .box a, .box b => a.length = b.length
  | .arr e sz xs, .arr e' sz' ys => e = e' ∧ sz = sz' ∧ xs.length = ys.length
  | .rows e e' sz xss hole, .rows f f' sz' yss hole' => e = f ∧ e' = f' ∧ sz = sz' ∧ hole = hole' ∧ xss.map List.length = yss.map List.length
  | .map _, .map _ => True
  | _, _ => False

theorem like_sim {c c' : Chunk} (h : c.like c') : c.sim c' := by
  cases c <;> cases c' <;> simp_all [Chunk.like, Chunk.sim]
theorem like_blk {c c' : Chunk} (h : c.like c') (l : Loc) : blk l c' = blk l c := by
  cases c <;> cases c' <;> simp_all [Chunk.like, blk]

def setH (id : Nat) (c : Chunk) : Heap → Heap
  | [] => []
  | p :: h => match Nat.beq p.1 id with
    | true => (id, c) :: h
    | false => p :: setH id c h

theorem get_setH_ne {id : Nat} {c : Chunk} {h : Heap} {j : Nat} (hj : j ≠ id) : (setH id c h).get j = h.get j := by
  induction h with
  | nil => rfl
  | cons p h ih =>
    simp only [setH]
    split
    · rename_i e
      have := Nat.eq_of_beq_eq_true e
      simp only [Heap.get]
      rw [if_neg (Ne.symm hj), if_neg (by omega)]
    · simp only [Heap.get]
      split
      · rfl
      · exact ih

theorem get_setH {id : Nat} {c c' : Chunk} {h : Heap} (hg : h.get id = some c') : (setH id c h).get id = some c := by
  induction h with
  | nil => cases hg
  | cons p h ih =>
    simp only [setH]
    split
    · simp [Heap.get]
    · rename_i e
      have := Nat.ne_of_beq_eq_false e
      simp only [Heap.get] at hg ⊢
      rw [if_neg this] at hg ⊢
      exact ih hg

theorem mem_setH {id : Nat} {c : Chunk} {h : Heap} {p : Nat × Chunk} (hn : (h.map (·.1)).Nodup) (hp : p ∈ setH id c h) : (p = (id, c) ∧ ∃ c', (id, c') ∈ h) ∨ (p ∈ h ∧ p.1 ≠ id) := by
  induction h with
  | nil => cases hp
  | cons q h ih =>
    simp only [List.map_cons, List.nodup_cons] at hn
    simp only [setH] at hp
    split at hp
    · rename_i e
      have e' := Nat.eq_of_beq_eq_true e
      rcases List.mem_cons.1 hp with rfl | hp
      · exact .inl ⟨rfl, q.2, by rw [← e']; exact List.mem_cons_self ..⟩
      · refine .inr ⟨List.mem_cons_of_mem _ hp, fun he => hn.1 ?_⟩
        exact List.mem_map.2 ⟨p, hp, he.trans e'.symm⟩
    · rename_i e
      rcases List.mem_cons.1 hp with rfl | hp
      · exact .inr ⟨List.mem_cons_self .., Nat.ne_of_beq_eq_false e⟩
      · rcases ih hn.2 hp with ⟨h1, c', h2⟩ | ⟨h1, h2⟩
        · exact .inl ⟨h1, c', List.mem_cons_of_mem _ h2⟩
        · exact .inr ⟨List.mem_cons_of_mem _ h1, h2⟩

theorem map_setH {id : Nat} {c : Chunk} {h : Heap} : (setH id c h).map (·.1) = h.map (·.1) := by
  induction h with
  | nil => rfl
  | cons q h ih =>
    simp only [setH]
    split
    · rename_i e
      have e' := Nat.eq_of_beq_eq_true e
      simp [e']
    · simp [ih]

theorem simO_setH {id : Nat} {c c' : Chunk} {h : Heap} (hg : h.get id = some c) (hl : c.like c') (j : Nat) : simO (h.get j) ((setH id c' h).get j) := by
  by_cases e : j = id
  · subst e
    rw [hg, get_setH hg]
    exact like_sim hl
  · rw [get_setH_ne e]
    cases h.get j with
    | none => trivial
    | some c => exact sim_refl c

theorem RepSV.set {σ : Nat → Loc} {h : Heap} {ok ok' : Nat → Prop} {w w' : World} {v : Value} {x : SV} {id : Nat} {c c' : Chunk} (hr : RepSV σ h ok w v x) (hg : h.get id = some c) (hl : c.like c')
    (hk : ∀ b, ok b → b < w.heap.size → ok' b ∧ w'.heap[b]? = w.heap[b]?) : RepSV σ (setH id c' h) ok' w' v x := RepSV.sim hk (simO_setH hg hl) hr

theorem get_of_mem {h : Heap} (hn : (h.map (·.1)).Nodup) {p : Nat × Chunk} (hp : p ∈ h) : h.get p.1 = some p.2 := by
  induction h with
  | nil => cases hp
  | cons q h ih =>
    simp only [List.map_cons, List.nodup_cons] at hn
    simp only [Heap.get]
    rcases List.mem_cons.1 hp with rfl | hp
    · simp
    · rw [if_neg fun e : q.1 = p.1 => hn.1 (List.mem_map.2 ⟨p, hp, e.symm⟩)]
      exact ih hn.2 hp

/-- One's own block is written. -/
theorem RW.set {cx : Cx} {σ : Nat → Loc} {s : Nat → SV} {h : Heap} {a : Act} {w w' : World} (hr : RW cx σ s h a w) {id : Nat} {c c' : Chunk} (hg : h.get id = some c) (hl : c.like c')
    (hos : w'.os = w.os) (htape : w'.tape = w.tape) (hout : w'.output = w.output) (hsize : w'.heap.size = w.heap.size)
    (hblock : ∀ b, b ∉ blk (σ id) c → w'.heap[b]? = w.heap[b]?)
    (hc : (∀ b, okf cx σ h b → b < w.heap.size → okf cx σ (setH id c' h) b ∧ w'.heap[b]? = w.heap[b]?) → RepChunk σ (setH id c' h) (okf cx σ (setH id c' h)) w' (σ id) c') : RW cx σ s (setH id c' h) a w' := by
  obtain ⟨p0, hp0, hp1, hp2⟩ := get_mem hg
  have old : ∀ p ∈ setH id c' h, ∃ c2, (p.1, c2) ∈ h ∧ blk (σ p.1) p.2 = blk (σ p.1) c2 ∧ (p.1 = id → c2 = c) := fun p hp => by
    rcases mem_setH hr.heap.nodup hp with ⟨rfl, c2, h2⟩ | ⟨h1, hne⟩
    · have := get_of_mem hr.heap.nodup h2
      simp only at this
      rw [hg] at this
      cases this
      exact ⟨_, h2, like_blk hl _, fun _ => rfl⟩
    · exact ⟨p.2, h1, rfl, fun e => absurd e hne⟩
  have hok : ∀ b, okf cx σ h b → b < w.heap.size → okf cx σ (setH id c' h) b ∧ w'.heap[b]? = w.heap[b]? := fun b hb hbl => by
    refine ⟨⟨hb.1, fun p hp => ?_⟩, hblock b ?_⟩
    · obtain ⟨c2, h2, h3, _⟩ := old p hp
      rw [h3]
      exact hb.2 _ h2
    · rw [← hp1, ← hp2]; exact hb.2 _ hp0
  refine ⟨⟨hos.trans hr.evo.os, htape.trans hr.evo.tape, hout.trans hr.evo.output, by rw [hsize]; exact hr.evo.size, fun b h1 h2 => ?_⟩, hr.defers, hr.size, ⟨?_, ?_, ?_, ?_, ?_, ?_⟩, fun t => ?_⟩
  · refine (hblock b fun e => ?_).trans (hr.evo.block b h1 h2)
    rw [← hp1, ← hp2] at e
    have hle := cx.nwle
    rcases (hr.heap.mine p0 hp0 b e).1 with hx | hx
    · exact h2 _ hx
    · omega
  · rw [map_setH]; exact hr.heap.nodup
  · intro p hp
    obtain ⟨c2, h2, h3, _⟩ := old p hp
    rw [h3]
    exact hr.heap.nd _ h2
  · intro p hp q hq b hb hb'
    obtain ⟨c1, m1, k1, _⟩ := old p hp
    obtain ⟨c2, m2, k2, _⟩ := old q hq
    rw [k1] at hb
    rw [k2] at hb'
    exact hr.heap.inj (p.1, c1) m1 (q.1, c2) m2 b hb hb'
  · intro p hp b hb
    rw [hsize]
    obtain ⟨c2, h2, h3, _⟩ := old p hp
    rw [h3] at hb
    exact hr.heap.mine _ h2 b hb
  · intro p hp
    rcases mem_setH hr.heap.nodup hp with ⟨rfl, _⟩ | ⟨h1, hne⟩
    · exact hc hok
    · have hb : ∀ b, b ∈ blk (σ p.1) p.2 → w'.heap[b]? = w.heap[b]? := fun b hb => hblock b fun e => by
        rw [← hp1, ← hp2] at e
        exact hne ((hr.heap.inj _ h1 p0 hp0 b hb e).trans hp1)
      have := RepChunk.mapc (f := fun x => x) (h' := setH id c' h) (hr.heap.rep p h1) hok (fun v sv hv => RepSV.set hv hg hl hok) hb
      cases hpc : p.2 with
      | box cells => rw [hpc] at this; simpa [Chunk.mapc] using this
      | arr e sz xs => rw [hpc] at this; exact this
      | rows e e' sz xss hole =>
        rw [hpc] at this
        have e1 : holeMap (fun x => x) hole = hole := by cases hole <;> rfl
        simpa [Chunk.mapc, e1] using this
      | map kvs => rw [hpc] at this; exact this
  · intro p hp ha
    obtain ⟨c2, h2, _⟩ := old p hp
    exact hr.heap.anc (p.1, c2) h2 ha
  · exact (hr.slots t).set hg hl hok

end Go.Proofs.YtampglcgipefnaaGreat
