/- Rows of rows of one's own: how they come, how a row is put into them, taken out and put back. No condition. -/
import Derived.Test.YtampglcgipefnaaGreatFwM
namespace Go.Proofs.YtampglcgipefnaaGreat
open Go
open Go.RowKit (Below)
set_option linter.unusedVariables false
set_option linter.unusedSimpArgs false

def SV.leaf : SV → Bool
  | .agg _ => false
  | .tup _ => false
  | .fn _ _ => false
  | _ => true

mutual
def SV.lm (g : SV → SV) : SV → SV
  | .agg l => .agg (SV.lms g l)
  | .tup l => .tup (SV.lms g l)
  | .fn f l => .fn f (SV.lms g l)
  | .junk => g .junk
  | .und => g .und
  | .d x => g (.d x)
  | .ref i o => g (.ref i o)
  | .own i => g (.own i)
  | .elt i o => g (.elt i o)
  | .sub i o => g (.sub i o)
def SV.lms (g : SV → SV) : List SV → List SV
  | [] => []
  | x :: l => SV.lm g x :: SV.lms g l
end

mutual
theorem RepSV.lm {σ σ' : Nat → Loc} {h h' : Heap} {ok ok' : Nat → Prop} {w w' : World} {g : SV → SV} (hg : ∀ x v, x.leaf = true → RepSV σ h ok w v x → RepSV σ' h' ok' w' v (g x)) :
    ∀ {x : SV} {v : Value}, RepSV σ h ok w v x → RepSV σ' h' ok' w' v (x.lm g)
  | .junk, _, hr => hg _ _ rfl hr
  | .und, _, hr => hg _ _ rfl hr
  | .d x, _, hr => hg _ _ rfl hr
  | .ref i o, _, hr => hg _ _ rfl hr
  | .own i, _, hr => hg _ _ rfl hr
  | .elt i o, _, hr => hg _ _ rfl hr
  | .sub i o, _, hr => hg _ _ rfl hr
  | .agg l, v, hr => by
    unfold SV.lm
    simp only [RepSV] at hr ⊢
    obtain ⟨cs, e, hl⟩ := hr
    exact ⟨cs, e, RepSVs.lm hg hl⟩
  | .tup l, v, hr => by
    unfold SV.lm
    simp only [RepSV] at hr ⊢
    obtain ⟨cs, e, hl⟩ := hr
    exact ⟨cs, e, RepSVs.lm hg hl⟩
  | .fn f l, v, hr => by
    unfold SV.lm
    simp only [RepSV] at hr ⊢
    obtain ⟨cs, e, hl⟩ := hr
    exact ⟨cs, e, RepSVs.lm hg hl⟩
theorem RepSVs.lm {σ σ' : Nat → Loc} {h h' : Heap} {ok ok' : Nat → Prop} {w w' : World} {g : SV → SV} (hg : ∀ x v, x.leaf = true → RepSV σ h ok w v x → RepSV σ' h' ok' w' v (g x)) :
    ∀ {l : List SV} {one : Bool} {vs : List Value}, RepSVs σ h ok w one vs l → RepSVs σ' h' ok' w' one vs (SV.lms g l)
  | [], _, _, hr => by unfold SV.lms; exact hr
  | x :: l, _, _, hr => by
    unfold SV.lms
    simp only [RepSVs] at hr ⊢
    obtain ⟨v, vs', e, h1, h2, h3⟩ := hr
    exact ⟨v, vs', e, RepSV.lm hg h1, h2, RepSVs.lm hg h3⟩
end

/-- What is said of other numbers stays. -/
theorem leaf_other {σ σ' : Nat → Loc} {h h' : Heap} {ok ok' : Nat → Prop} {w w' : World} {K : List Nat} (hk : ∀ b, ok b → b < w.heap.size → ok' b ∧ w'.heap[b]? = w.heap[b]?) (hσ : ∀ j, memB j K = false → σ' j = σ j) (hg : ∀ j, memB j K = false → simO (h.get j) (h'.get j))
    {x : SV} {v : Value} (hr : RepSV σ h ok w v x) (hx : ∀ y, x.kill K = y → y = x) : RepSV σ' h' ok' w' v x := by
  have := RepSV.kill hk hσ hg hr
  rwa [hx _ rfl] at this

theorem beqF {i j : Nat} (h : i ≠ j) : Nat.beq i j = false := by
  rw [← Bool.not_eq_true]
  exact fun e => h (Nat.eq_of_beq_eq_true e)

def setσ (σ : Nat → Loc) (id : Nat) (l : Loc) : Nat → Loc := fun j => if j = id then l else σ j
theorem setσ_self (σ : Nat → Loc) (id : Nat) (l : Loc) : setσ σ id l id = l := if_pos rfl
theorem setσ_ne {σ : Nat → Loc} {id j : Nat} {l : Loc} (h : j ≠ id) : setσ σ id l j = σ j := if_neg h

section
variable {cx : Cx} {ops : Array Oper} {rest : List Oper} {s : Slots} {h : Heap} {Q : Exit → Slots → Heap → Prop} {K : Slots → Prop} {dst : Option Nat} {t ty : Nat} {pos : String} {af : Array Edge} {gd : Option (Nat × Bool)}

theorem lk_lm {g : SV → SV} (hj : g .junk = .junk) (s : Slots) : lk (mapS (SV.lm g) s) = fun t => SV.lm g (lk s t) := funext fun t => lk_mapS (f := SV.lm g) hj s t

/-! ### Empty rows -/

def gRow (id : Nat) : SV → SV
  | .sub i n => match Nat.beq i id with
    | true => .junk
    | false => .sub i n
  | x => x

def allNils : List D → Bool
  | [] => true
  | .nils :: l => allNils l
  | _ :: _ => false
theorem allNils_rep (n : Nat) : allNils (List.replicate n .nils) = true := by
  induction n with
  | zero => rfl
  | succ n ih => exact ih
theorem allNils_get : ∀ {xs : List D}, allNils xs = true → ∀ x ∈ xs, x = .nils
  | [], _, x, hx => by cases hx
  | .nils :: l, h, x, hx => by
    rcases List.mem_cons.1 hx with rfl | hx
    · rfl
    · exact allNils_get (xs := l) h x hx
  | .int _ _ :: _, h, _, _ => by cases h
  | .bool _ :: _, h, _, _ => by cases h
  | .str _ :: _, h, _, _ => by cases h
  | .lst _ :: _, h, _, _ => by cases h
  | .agg _ :: _, h, _, _ => by cases h
  | .tup _ :: _, h, _, _ => by cases h
  | .ptr _ :: _, h, _, _ => by cases h
  | .fn _ _ :: _, h, _, _ => by cases h
  | .nilp :: _, h, _, _ => by cases h
  | .rowb _ _ _ _ :: _, h, _, _ => by cases h
  | .map _ :: _, h, _, _ => by cases h
  | .nilm :: _, h, _, _ => by cases h

/-- A row of nil slices is a row of empty rows. -/
theorem R_toRows {a : Act} {w : World} {id e e' sz : Nat} {xs : List D} (hr : R cx (lk s) h a w) (hg : h.get id = some (.arr e 1 xs)) (hsz : Nat.blt 0 sz = true) (hid : isAnc id = false) (hx : allNils xs = true) :
    R cx (lk (mapS (SV.lm (gRow id)) s)) ((id, .rows e e' sz (xs.map fun _ => []) none) :: keepH (SV.lm (gRow id)) [id] h) a w := by
  obtain ⟨σ, hr⟩ := hr
  obtain ⟨hex, h0, hlt, cl, ho, hc⟩ := chunk_own hr hg
  obtain ⟨p0, hp0, hp1, hp2⟩ := hex
  have hall := allNils_get hx
  let l : Loc := ⟨(σ id).b, (σ id).cap, (σ id).nil, List.replicate xs.length (0, 0, true)⟩
  have hkb : ∀ (n k : Nat), kidBlk none k (List.replicate n ((0 : Nat), (0 : Nat), true)) = [] := by
    intro n
    induction n with
    | zero => intro k; rfl
    | succ n ih => intro k; simp only [List.replicate_succ, kidBlk]; exact ih (k + 1)
  have hblk : blk l (.rows e e' sz (xs.map fun _ => []) none) = blk (σ id) (.arr e 1 xs) := by
    simp only [blk, l, hat, hkb]
  have hsl : ∀ n, sliceAt l n = sliceAt (σ id) n := fun n => rfl
  refine ⟨setσ σ id l, ?_⟩
  rw [lk_lm rfl]
  refine hr.upd (σ' := setσ σ id l) (w' := w) [id] [(id, .rows e e' sz (xs.map fun _ => []) none)] (SV.lm (gRow id)) (by simp [memB]) (by simp) (fun j hj => setσ_ne (memB_oneF.1 hj)) rfl rfl rfl (Nat.le_refl _) (fun _ _ _ => rfl)
    (fun p hp => ?_) (fun p hp q hq _ _ _ => by simp at hp hq; subst hp hq; rfl) (fun p hp b hb => ?_) (fun p hp ha => by simp at hp; subst hp; rw [hid] at ha; cases ha) (fun hok v sv hv => RepSV.lm (fun x v hl hv => ?_) hv) (fun hok p hp => ?_)
  · simp at hp; subst hp
    simp only [setσ_self, hblk]
    have := hr.heap.nd p0 hp0
    rwa [hp1, hp2] at this
  · simp at hp; subst hp
    simp only [setσ_self, hblk] at hb
    have hb' : b ∈ blk (σ p0.1) p0.2 := by rw [hp1, hp2]; exact hb
    exact ⟨(hr.heap.mine p0 hp0 b hb').2.2, .inr ⟨p0, hp0, memB_one.2 hp1, hb', .inr (.inl hp1)⟩⟩
  · have hsk := simO_keep (f := SV.lm (gRow id)) (K := [id]) (N := [(id, .rows e e' sz (xs.map fun _ => []) none)]) (h := h) (by simp [memB])
    have other : ∀ x : SV, (∀ y, x.kill [id] = y → y = x) → RepSV σ h (okf cx σ h) w v x → RepSV (setσ σ id l) ([(id, .rows e e' sz (xs.map fun _ => []) none)] ++ keepH (SV.lm (gRow id)) [id] h) (okf cx (setσ σ id l) ([(id, .rows e e' sz (xs.map fun _ => []) none)] ++ keepH (SV.lm (gRow id)) [id] h)) w v x := fun x hx hv =>
      leaf_other hok (fun j hj => setσ_ne (memB_oneF.1 hj)) hsk hv hx
    cases x with
    | junk => unfold gRow RepSV; trivial
    | und => exact hv
    | d x => exact RepD.mono hv hok
    | ref i n =>
      by_cases e : i = id
      · subst e
        simp only [gRow, RepSV, setσ_self] at hv ⊢
        exact hv
      · simp only [gRow, RepSV, setσ_ne e] at hv ⊢
        exact hv
    | own i =>
      by_cases e : i = id
      · subst e
        simp only [gRow, RepSV, hg, List.cons_append, List.nil_append, Heap.get, if_true, setσ_self, List.length_map] at hv ⊢
        exact hv
      · exact other (.own i) (by rintro y rfl; simp [SV.kill, memB_oneF.2 e]) hv
    | elt i n =>
      by_cases e : i = id
      · subst e
        simp only [gRow, RepSV, hg, List.cons_append, List.nil_append, Heap.get, if_true, setσ_self, Nat.mul_one] at hv ⊢
        exact hv
      · exact other (.elt i n) (by rintro y rfl; simp [SV.kill, memB_oneF.2 e]) hv
    | sub i n =>
      by_cases e : i = id
      · subst e
        simp [gRow, RepSV]
      · have : gRow id (.sub i n) = .sub i n := by simp only [gRow, beqF e]
        rw [this]
        exact other (.sub i n) (by rintro y rfl; simp [SV.kill, memB_oneF.2 e]) hv
    | agg => cases hl
    | tup => cases hl
    | fn => cases hl
  · simp at hp; subst hp
    simp only [setσ_self]
    obtain ⟨c1, vs, c2, c3, c4⟩ := hc
    refine ⟨Nat.le_of_ble_eq_true hsz, by simp [l], ⟨cl, by simpa [hsl] using ho, fun i q ys hq hy => ?_⟩, fun i q ys hq hy _ => ?_, by simp⟩
    · simp only [l, List.getElem?_replicate] at hq
      split at hq
      · rename_i hi
        cases hq
        rw [List.getElem?_map, Option.map_eq_some_iff] at hy
        obtain ⟨x, hx1, rfl⟩ := hy
        have hv : vs[i]? = some (vs[i]'(by omega)) := List.getElem?_eq_getElem (by omega)
        have hn := c3 i _ x hv hx1
        rw [hall x (List.mem_of_getElem? hx1)] at hn
        have hn := RepD.nils_inv hn
        have := (c4 i _ hv).2 0 (by omega)
        rw [hn] at this
        simp only [Nat.mul_one, Nat.add_zero] at this
        exact ⟨by rw [this]; simp [sliceAt, kidLoc, Value.cells], fun _ => rfl⟩
      · cases hq
    · simp only [l, List.getElem?_replicate] at hq
      split at hq
      · cases hq
        rw [List.getElem?_map, Option.map_eq_some_iff] at hy
        obtain ⟨x, hx1, rfl⟩ := hy
        exact ⟨Nat.le_of_ble_eq_true hsz, [], ⟨by simp, .inl ⟨by simp [sliceAt, kidLoc], rfl⟩⟩, by simp, [], rfl, by simp, by simp⟩
      · cases hq

theorem awp_toRows {c : Code} (id e' sz : Nat) {e : Nat} {xs : List D} (hg : h.get id = some (.arr e 1 xs)) (hsz : Nat.blt 0 sz = true) (hid : isAnc id = false) (hx : allNils xs = true)
    (hn : awp cx c (mapS (SV.lm (gRow id)) s) ((id, .rows e e' sz (xs.map fun _ => []) none) :: keepH (SV.lm (gRow id)) [id] h) Q) : awp cx c s h Q := fun a w hr => hn a w (R_toRows hr hg hsz hid hx)

/-! ### A row is put in, appended, taken out, put back -/

def SV.idOf : SV → Option Nat
  | .ref i _ => some i
  | .own i => some i
  | .elt i _ => some i
  | .sub i _ => some i
  | _ => none

theorem kill_same {K : List Nat} {x : SV} (hl : x.leaf = true) (hx : ∀ i, x.idOf = some i → memB i K = false) : x.kill K = x := by
  cases x with
  | ref i o => unfold SV.kill; rw [hx i rfl]
  | own i => unfold SV.kill; rw [hx i rfl]
  | elt i o => unfold SV.kill; rw [hx i rfl]
  | sub i o => unfold SV.kill; rw [hx i rfl]
  | agg => cases hl
  | tup => cases hl
  | fn => cases hl
  | _ => rfl

theorem leaf_upd {σ σ' : Nat → Loc} {h h' : Heap} {ok ok' : Nat → Prop} {w w' : World} {K : List Nat} {g : SV → SV} (hk : ∀ b, ok b → b < w.heap.size → ok' b ∧ w'.heap[b]? = w.heap[b]?) (hσ : ∀ j, memB j K = false → σ' j = σ j) (hs : ∀ j, memB j K = false → simO (h.get j) (h'.get j))
    (hg : ∀ x : SV, x.leaf = true → (∀ i, x.idOf = some i → memB i K = false) → g x = x)
    (hK : ∀ x v i, x.leaf = true → x.idOf = some i → memB i K = true → RepSV σ h ok w v x → RepSV σ' h' ok' w' v (g x)) : ∀ x v, x.leaf = true → RepSV σ h ok w v x → RepSV σ' h' ok' w' v (g x) := fun x v hl hv => by
  by_cases hx : ∀ i, x.idOf = some i → memB i K = false
  · rw [hg x hl hx]
    have := RepSV.kill hk hσ hs hv
    rwa [kill_same hl hx] at this
  · simp only [Classical.not_forall] at hx
    obtain ⟨i, h1, h2⟩ := hx
    exact hK x v i hl h1 (by simpa using h2) hv

/-- A value that is a slice of one's own is in the slots only by its number. -/
theorem sliceAt_inj {l l' : Loc} {n n' : Nat} (h : sliceAt l n = sliceAt l' n') : l.nil = l'.nil ∧ (l.nil = false → l.b = l'.b ∧ n = n' ∧ l.cap = l'.cap) := by
  unfold sliceAt at h
  cases h1 : l.nil <;> cases h2 : l'.nil <;> simp [h1, h2] at h ⊢
  exact h

theorem sliceAt_congr {l l' : Loc} (h1 : l.nil = l'.nil) (h2 : l.nil = false → l.b = l'.b ∧ l.cap = l'.cap) (n : Nat) : sliceAt l n = sliceAt l' n := by
  unfold sliceAt
  cases h : l.nil with
  | true => simp [← h1, h]
  | false => obtain ⟨e1, e2⟩ := h2 h; simp [← h1, h, e1, e2]

theorem kidBlk_set {hole : Option Nat} {q : Nat × Nat × Bool} : ∀ {l : List (Nat × Nat × Bool)} {k i b : Nat}, b ∈ kidBlk hole k (l.set i q) → b ∈ kidBlk hole k l ∨ (q.2.2 = false ∧ b = q.1) := fun {l k i b} hb => by
  obtain ⟨j, p, h1, h2, h3, h4⟩ := mem_kidBlk.1 hb
  by_cases e : i = j
  · subst e
    rw [List.getElem?_set] at h1
    simp only [if_true] at h1
    split at h1
    · cases h1; exact .inr ⟨h2, h4.symm⟩
    · cases h1
  · rw [List.getElem?_set_ne e] at h1
    exact .inl (mem_kidBlk.2 ⟨j, p, h1, h2, h3, h4⟩)

theorem kidBlk_nodup {hole : Option Nat} : ∀ {l : List (Nat × Nat × Bool)} {k : Nat}, (kidBlk hole k l).Nodup ↔ ∀ i j p q, l[i]? = some p → l[j]? = some q → p.2.2 = false → q.2.2 = false → hole ≠ some (k + i) → hole ≠ some (k + j) → p.1 = q.1 → i = j
  | [], k => by simp [kidBlk]
  | x :: l, k => by
    have ih := @kidBlk_nodup hole l (k + 1)
    have tail : (∀ i j p q, (x :: l)[i]? = some p → (x :: l)[j]? = some q → p.2.2 = false → q.2.2 = false → hole ≠ some (k + i) → hole ≠ some (k + j) → p.1 = q.1 → i = j) → ∀ i j p q, l[i]? = some p → l[j]? = some q → p.2.2 = false → q.2.2 = false → hole ≠ some (k + 1 + i) → hole ≠ some (k + 1 + j) → p.1 = q.1 → i = j := fun h i j p q h1 h2 h3 h4 h5 h6 h7 => by
      have := h (i + 1) (j + 1) p q (by simpa using h1) (by simpa using h2) h3 h4 (by rwa [show k + (i + 1) = k + 1 + i by omega]) (by rwa [show k + (j + 1) = k + 1 + j by omega]) h7
      omega
    have skip : (x.2.2 = true ∨ hole = some k) → ((kidBlk hole k (x :: l)).Nodup ↔ ∀ i j p q, (x :: l)[i]? = some p → (x :: l)[j]? = some q → p.2.2 = false → q.2.2 = false → hole ≠ some (k + i) → hole ≠ some (k + j) → p.1 = q.1 → i = j) := fun hx => by
      have e : kidBlk hole k (x :: l) = kidBlk hole (k + 1) l := by
        rcases hx with hx | hx
        · simp only [kidBlk, hx]
        · cases hx2 : x.2.2 with
          | true => simp only [kidBlk, hx2]
          | false => simp only [kidBlk, hx2, if_pos hx]
      rw [e, ih]
      refine ⟨fun h i j p q h1 h2 h3 h4 h5 h6 h7 => ?_, tail⟩
      cases i with
      | zero =>
        simp at h1; subst h1
        rcases hx with hx | hx
        · rw [hx] at h3; cases h3
        · exact absurd hx h5
      | succ i =>
        cases j with
        | zero =>
          simp at h2; subst h2
          rcases hx with hx | hx
          · rw [hx] at h4; cases h4
          · exact absurd hx h6
        | succ j =>
          have := h i j p q (by simpa using h1) (by simpa using h2) h3 h4 (by rwa [show k + 1 + i = k + (i + 1) by omega]) (by rwa [show k + 1 + j = k + (j + 1) by omega]) h7
          omega
    cases hx : x.2.2 with
    | true => exact skip (.inl hx)
    | false =>
      by_cases hh : hole = some k
      · exact skip (.inr hh)
      · have e : kidBlk hole k (x :: l) = x.1 :: kidBlk hole (k + 1) l := by
          simp only [kidBlk, hx, if_neg hh]
        rw [e, List.nodup_cons, ih]
        constructor
        · rintro ⟨hno, h⟩ i j p q h1 h2 h3 h4 h5 h6 h7
          cases i with
          | zero =>
            simp at h1; subst h1
            cases j with
            | zero => rfl
            | succ j =>
              exact absurd (mem_kidBlk.2 ⟨j, q, by simpa using h2, h4, by rwa [show k + 1 + j = k + (j + 1) by omega], h7.symm⟩) hno
          | succ i =>
            cases j with
            | zero =>
              simp at h2; subst h2
              exact absurd (mem_kidBlk.2 ⟨i, p, by simpa using h1, h3, by rwa [show k + 1 + i = k + (i + 1) by omega], h7⟩) hno
            | succ j =>
              have := h i j p q (by simpa using h1) (by simpa using h2) h3 h4 (by rwa [show k + 1 + i = k + (i + 1) by omega]) (by rwa [show k + 1 + j = k + (j + 1) by omega]) h7
              omega
        · intro h
          refine ⟨fun hm => ?_, tail h⟩
          obtain ⟨i, p, h1, h2, h3, h4⟩ := mem_kidBlk.1 hm
          have := h 0 (i + 1) x p rfl (by simpa using h1) hx h2 (by simpa using hh) (by rwa [show k + (i + 1) = k + 1 + i by omega]) h4.symm
          omega

/-- What one's own row of rows says. -/
theorem chunk_rows {σ : Nat → Loc} {a : Act} {w : World} {f : Nat → SV} (hr : RW cx σ f h a w) {id e e' sz : Nat} {xss : List (List D)} {hole : Option (Nat × SV)} (hg : h.get id = some (.rows e e' sz xss hole)) :
    (∃ p ∈ h, p.1 = id ∧ p.2 = .rows e e' sz xss hole) ∧ (blk (σ id) (.rows e e' sz xss hole)).Nodup ∧ RepChunk σ h (okf cx σ h) w (σ id) (.rows e e' sz xss hole) := by
  obtain ⟨p, hp, rfl, hp2⟩ := get_mem hg
  have := hr.heap.rep p hp
  have h2 := hr.heap.nd p hp
  rw [hp2] at this h2
  exact ⟨⟨p, hp, rfl, hp2⟩, h2, this⟩

theorem wa_indexRows {T : Nat} {x i : Operand} {ts te : TR} {f : Nat → SV} {id e e' sz : Nat} {xss : List (List D)} {hole : Option (Nat × SV)} {k : IntKind} {n : Int} (hx : opv f x = .own id) (hi : opv f i = .d (.int k n)) (hg : h.get id = some (.rows e e' sz xss hole))
    (ht : tget cx.T T = some ts) (hsl : ts.isSl = true) (hte : tget cx.T ts.elem = some te) (hsz : Nat.beq te.size 1 = true) (h0 : 0 ≤ n) (hlt : n < xss.length) :
    Qt cx h ⟨dst, .indexAddr T x i, ty, pos, af, gd⟩ f (.elt id n.toNat) := by
  intro s₁ hs σ a w hr K Q hK
  have h1 := rep_eval hr x
  have h2 := rep_eval hr i
  rw [show opv s₁ x = opv f x from by cases x <;> first | rfl | exact hs _ (by simp [Op.operands]), hx] at h1
  rw [show opv s₁ i = opv f i from by cases i <;> first | rfl | exact hs _ (by simp [Op.operands]), hi] at h2
  have h2' := RepD.int_inv h2
  simp only [RepSV, hg] at h1
  obtain ⟨d, i', hdd, hi', _, _, _, hs', _⟩ := tr_facts (tget_ok cx.tab ht)
  have := hs' hsl
  subst this
  obtain ⟨_, ie, _, hie, _, hies, _⟩ := tr_facts (tget_ok cx.tab hte)
  have hsz' := Nat.eq_of_beq_eq_true hsz
  obtain ⟨_, _, _, _, ⟨cl, ho, _⟩, _⟩ := chunk_rows hr hg
  have hnil : (σ id).nil = false := by
    cases hn : (σ id).nil with
    | false => rfl
    | true =>
      have := rows_nil ho hn
      omega
  simp only [sliceAt, hnil, Bool.false_eq_true, if_false] at h1
  unfold Oper.wp
  have run : (execOp a.eval ⟨dst, .indexAddr T x i, ty, pos, af, gd⟩).run cx.P w = .ok (.value (.pointer (some ⟨(σ id).b, n.toNat, none⟩))) w := by
    simp only [execOp, h1, h2', Instr.indexAt, asIntOf, Sem.run_bind, Sem.run_pure, Result.andThen_ok, run_underlying hdd]
    rw [if_pos ⟨h0, hlt⟩]
    simp [sizeOf, typeInfo, hie, hies, add_block, hsz']
  rw [run]
  exact hK _ _ (Below.refl _ _) (by simp only [RepSV, hg])

theorem wa_loadRow {T : Nat} {x : Operand} {tr : TR} {f : Nat → SV} {id i e e' sz : Nat} {xss : List (List D)} {hole : Option (Nat × SV)} (hx : opv f x = .elt id i) (hg : h.get id = some (.rows e e' sz xss hole)) (ht : tget cx.T T = some tr) (ha : tr.agg = false) (hi : i < xss.length) :
    Qt cx h ⟨dst, .load T x, ty, pos, af, gd⟩ f (.sub id i) := by
  intro s₁ hs σ a w hr K Q hK
  have h1 := rep_eval hr x
  rw [show opv s₁ x = opv f x from by cases x <;> first | rfl | exact hs _ (by simp [Op.operands]), hx] at h1
  simp only [RepSV, hg] at h1
  obtain ⟨_, _, _, hkl, ⟨cl, ho, hcl⟩, _⟩ := chunk_rows hr hg
  have hq : (σ id).kids[i]? = some (σ id).kids[i] := List.getElem?_eq_getElem (by omega)
  have hxs : xss[i]? = some xss[i] := List.getElem?_eq_getElem hi
  obtain ⟨c1, _⟩ := hcl i _ _ hq hxs
  obtain ⟨d, ii, hdd, hii, e1, e2, _⟩ := tr_facts (tget_ok cx.tab ht)
  have hcell : w.cell? ⟨(σ id).b, i, none⟩ = some (sliceAt (kidLoc (σ id).kids[i]) xss[i].length) := by
    obtain ⟨o1, o2⟩ := ho
    rcases o2 with ⟨_, o2⟩ | ⟨g, cap, cur, q1, _, q3, q4, q5, q6, q7⟩
    · omega
    · have hgb : g = (σ id).b := by
        unfold sliceAt at q1
        split at q1
        · cases q1
        · cases q1; rfl
      subst hgb
      rw [cell_at q3, ← c1, ← q7, List.getElem?_take, if_pos (by omega)]
      simp
  unfold Oper.wp
  have run : (execOp a.eval ⟨dst, .load T x, ty, pos, af, gd⟩).run cx.P w = .ok (.value (sliceAt (kidLoc (σ id).kids[i]) xss[i].length)) w := by
    simp only [execOp, h1, Instr.loadAt, Instr.sureAddr, Sem.run_bind, Sem.run_pure, Result.andThen_ok, loadVar, run_isAgg hdd, e1, ha, Bool.false_eq_true, if_false, run_load, hcell]
  rw [run]
  exact hK _ _ (Below.refl _ _) (by simp only [RepSV, hg]; exact ⟨_, _, hq, hxs, rfl⟩)

/-! ### A row is taken out and put back -/

def gCarve (id i j : Nat) : SV → SV
  | .sub k n => match Nat.beq k j with
    | true => .junk
    | false => .sub k n
  | .own k => match Nat.beq k j with
    | true => .junk
    | false => .own k
  | .elt k n => match Nat.beq k j with
    | true => .junk
    | false => .elt k n
  | .ref k n => match Nat.beq k j with
    | true => .junk
    | false => .ref k n
  | x => x

theorem memB_two {i a b : Nat} : memB i [a, b] = true ↔ i = a ∨ i = b := by
  rw [memB_iff]; simp
theorem memB_twoF {i a b : Nat} : memB i [a, b] = false ↔ i ≠ a ∧ i ≠ b := by
  rw [← Bool.not_eq_true, memB_two]; simp

theorem leaf_ids {x : SV} (hl : x.leaf = true) {g : SV → SV} {K : List Nat} (h0 : g .junk = .junk) (h1 : g .und = .und) (h2 : ∀ d, g (.d d) = .d d)
    (h3 : ∀ i o, memB i K = false → g (.ref i o) = .ref i o) (h4 : ∀ i, memB i K = false → g (.own i) = .own i) (h5 : ∀ i o, memB i K = false → g (.elt i o) = .elt i o) (h6 : ∀ i o, memB i K = false → g (.sub i o) = .sub i o)
    (hx : ∀ i, x.idOf = some i → memB i K = false) : g x = x := by
  cases x with
  | junk => exact h0
  | und => exact h1
  | d x => exact h2 x
  | ref i o => exact h3 i o (hx i rfl)
  | own i => exact h4 i (hx i rfl)
  | elt i o => exact h5 i o (hx i rfl)
  | sub i o => exact h6 i o (hx i rfl)
  | agg => cases hl
  | tup => cases hl
  | fn => cases hl

theorem R_carve {a : Act} {w : World} {u id i j e e' sz : Nat} {xss : List (List D)} {xs : List D} (hr : R cx (lk s) h a w) (hu : lk s u = .sub id i) (hg : h.get id = some (.rows e e' sz xss none)) (hx : xss[i]? = some xs) (hne : Nat.beq j id = false) (hj : isAnc j = false)
    (hmv : (Nat.blt id 10000 || (!isMov id && !isMov j && Nat.ble 10000 j)) = true) :
    R cx (lk ((u, .own j) :: mapS (SV.lm (gCarve id i j)) s)) ((id, .rows e e' sz xss (some (i, .own j))) :: (j, .arr e' sz xs) :: keepH (SV.lm (gCarve id i j)) [id, j] h) a w := by
  obtain ⟨σ, hr⟩ := hr
  obtain ⟨⟨p0, hp0, hp1, hp2⟩, hnd, hrep⟩ := chunk_rows hr hg
  obtain ⟨k0, k1, ⟨cl, k2, k3⟩, k4, _⟩ := And.intro trivial hrep |>.2
  have hne' := Nat.ne_of_beq_eq_false hne
  have hil : i < xss.length := by
    rcases Nat.lt_or_ge i xss.length with hh | hh
    · exact hh
    · simp [hh] at hx
  have hq : (σ id).kids[i]? = some (σ id).kids[i] := List.getElem?_eq_getElem (by omega)
  generalize (σ id).kids[i] = q at hq
  have hnil : (σ id).nil = false := by
    cases hn : (σ id).nil with
    | false => rfl
    | true => have := rows_nil k2 hn; omega
  have hsub : ∀ b, b ∈ blk (σ id) (.rows e e' sz xss (some (i, .own j))) → b ∈ blk (σ id) (.rows e e' sz xss none) := fun b hb => by
    simp only [blk, hnil, hat] at hb ⊢
    rcases List.mem_cons.1 hb with hb | hb
    · rw [hb]; exact List.mem_cons_self ..
    · obtain ⟨m, p, m1, m2, m3, m4⟩ := mem_kidBlk.1 hb
      exact List.mem_cons_of_mem _ (mem_kidBlk.2 ⟨m, p, m1, m2, by simp, m4⟩)
  have hsubj : ∀ b, b ∈ blk (kidLoc q) (.arr e' sz xs) → q.2.2 = false ∧ b = q.1 ∧ b ∈ blk (σ id) (.rows e e' sz xss none) := fun b hb => by
    unfold blk kidLoc at hb
    cases hn : q.2.2 with
    | true => simp [hn] at hb
    | false =>
      simp [hn] at hb
      exact ⟨rfl, hb, by rw [hb]; exact kid_blk hnil hq hn (by simp [hat])⟩
  have hnk : (kidBlk none 0 (σ id).kids).Nodup ∧ (σ id).b ∉ kidBlk none 0 (σ id).kids := by
    simp only [blk, hnil, hat, List.nodup_cons] at hnd
    exact ⟨hnd.2, hnd.1⟩
  have hdis : ∀ b, b ∈ blk (σ id) (.rows e e' sz xss (some (i, .own j))) → b ∈ blk (kidLoc q) (.arr e' sz xs) → False := fun b hb hb' => by
    obtain ⟨hn, rfl, _⟩ := hsubj b hb'
    simp only [blk, hnil, hat] at hb
    rcases List.mem_cons.1 hb with hb | hb
    · exact hnk.2 (mem_kidBlk.2 ⟨i, q, hq, hn, by simp, hb⟩)
    · obtain ⟨m, p, m1, m2, m3, m4⟩ := mem_kidBlk.1 hb
      have := kidBlk_nodup.1 hnk.1 m i p q m1 hq m2 hn (by simp) (by simp) m4
      simp [this] at m3
  let N : Heap := [(id, .rows e e' sz xss (some (i, .own j))), (j, .arr e' sz xs)]
  have hσ : ∀ m, m ≠ j → setσ σ j (kidLoc q) m = σ m := fun m hm => setσ_ne hm
  have hfin : RW cx (setσ σ j (kidLoc q)) (fun t => SV.lm (gCarve id i j) (lk s t)) (N ++ keepH (SV.lm (gCarve id i j)) [id, j] h) a w := by
   refine hr.upd (σ' := setσ σ j (kidLoc q)) (w' := w) [id, j] N (SV.lm (gCarve id i j)) (fun p hp => ?_) ?_ (fun m hm => hσ m (memB_twoF.1 hm).2) rfl rfl rfl (Nat.le_refl _) (fun _ _ _ => rfl)
     (fun p hp => ?_) (fun p hp p' hp' b hb hb' => ?_) (fun p hp b hb => ?_) (fun p hp ha => ?_) (fun hok v sv hv => RepSV.lm (leaf_upd (K := [id, j]) hok (fun m hm => hσ m (memB_twoF.1 hm).2) (simO_keep (fun p hp => ?_)) (fun x hl hx => ?_) (fun x v m hl hm hK hv => ?_)) hv) (fun hok p hp => ?_)
   · simp [N] at hp
     rcases hp with rfl | rfl <;> exact memB_iff.2 (by simp)
   · simp [N]; exact Ne.symm hne'
   · simp [N] at hp
     rcases hp with rfl | rfl
     · simp only [hσ id (Ne.symm hne')]
       simp only [blk, hnil, hat, List.nodup_cons]
       refine ⟨fun hm => ?_, ?_⟩
       · obtain ⟨m, p, m1, m2, m3, m4⟩ := mem_kidBlk.1 hm
         exact hnk.2 (mem_kidBlk.2 ⟨m, p, m1, m2, by simp, m4⟩)
       · exact kidBlk_nodup.2 fun a b p q' m1 m2 m3 m4 _ _ m5 => kidBlk_nodup.1 hnk.1 a b p q' m1 m2 m3 m4 (by simp) (by simp) m5
     · simp only [setσ_self]
       cases hn : (kidLoc q).nil <;> simp [blk, hn]
   · simp [N] at hp hp'
     rcases hp with rfl | rfl <;> rcases hp' with rfl | rfl
     · rfl
     · simp only [setσ_self, hσ id (Ne.symm hne')] at hb hb'
       exact (hdis b hb hb').elim
     · simp only [setσ_self, hσ id (Ne.symm hne')] at hb hb'
       exact (hdis b hb' hb).elim
     · rfl
   · have hin : b ∈ blk (σ id) (.rows e e' sz xss none) → b < w.heap.size ∧ (w.heap.size ≤ b ∨ ∃ q ∈ h, memB q.1 [id, j] = true ∧ b ∈ blk (σ q.1) q.2 ∧ (q.1 < 10000 ∨ q.1 = p.1 ∨ (isMov q.1 = false ∧ isMov p.1 = false ∧ 10000 ≤ p.1))) := fun hb => by
       have hb' : b ∈ blk (σ p0.1) p0.2 := by rw [hp1, hp2]; exact hb
       refine ⟨(hr.heap.mine p0 hp0 b hb').2.2, .inr ⟨p0, hp0, by rw [hp1]; simp [memB], hb', ?_⟩⟩
       rw [hp1]
       simp [N] at hp
       rcases hp with rfl | rfl
       · exact .inr (.inl rfl)
       · simp only [Bool.or_eq_true, Bool.and_eq_true, Bool.not_eq_true'] at hmv
         rcases hmv with hmv | ⟨⟨hmv1, hmv2⟩, hmv3⟩
         · exact .inl (Nat.le_of_ble_eq_true hmv)
         · exact .inr (.inr ⟨hmv1, hmv2, Nat.le_of_ble_eq_true hmv3⟩)
     refine hin ?_
     simp [N] at hp
     rcases hp with rfl | rfl
     · simp only [hσ id (Ne.symm hne')] at hb
       exact hsub b hb
     · simp only [setσ_self] at hb
       exact (hsubj b hb).2.2
   · simp [N] at hp
     rcases hp with rfl | rfl
     · simp only [hσ id (Ne.symm hne')]
       have := hr.heap.anc p0 hp0 (by rw [hp1]; exact ha)
       rwa [hp1] at this
     · rw [hj] at ha; cases ha
   · simp [N] at hp
     rcases hp with rfl | rfl <;> exact memB_iff.2 (by simp)
   · refine leaf_ids (K := [id, j]) hl rfl rfl (fun _ => rfl) (fun i o hi => ?_) (fun i hi => ?_) (fun i o hi => ?_) (fun i o hi => ?_) hx
     all_goals
       obtain ⟨e1, e2⟩ := memB_twoF.1 hi
       simp only [gCarve, beqF e1, beqF e2]
   · have gid : ((N ++ keepH (SV.lm (gCarve id i j)) [id, j] h : Heap)).get id = some (.rows e e' sz xss (some (i, .own j))) := by simp [N, Heap.get]
     have gj : ((N ++ keepH (SV.lm (gCarve id i j)) [id, j] h : Heap)).get j = some (.arr e' sz xs) := by simp [N, Heap.get, Ne.symm hne']
     by_cases hmj : m = j
     · subst hmj
       cases x <;> simp only [SV.idOf, Option.some.injEq, reduceCtorEq] at hm <;> (replace hm := hm.symm; subst hm) <;> simp only [gCarve, Nat.beq_refl, beqF hne', RepSV]
     · have hmi : m = id := by rcases memB_two.1 hK with h | h <;> first | exact h | exact absurd h hmj
       subst hmi
       cases x <;> simp only [SV.idOf, Option.some.injEq, reduceCtorEq] at hm <;> (replace hm := hm.symm; subst hm)
       case ref o =>
         simp only [gCarve, beqF hmj, RepSV, hσ _ hmj] at hv ⊢
         exact hv
       case own =>
         simp only [gCarve, beqF hmj, RepSV, hσ _ hmj, hg, gid] at hv ⊢
         exact hv
       case elt o =>
         simp only [gCarve, beqF hmj, RepSV, hσ _ hmj, hg, gid] at hv ⊢
         exact hv
       case sub o =>
         simp only [gCarve, beqF hmj, RepSV, hσ _ hmj, hg, gid] at hv ⊢
         exact hv
   · have gj : ((N ++ keepH (SV.lm (gCarve id i j)) [id, j] h : Heap)).get j = some (.arr e' sz xs) := by simp [N, Heap.get, Ne.symm hne']
     simp [N] at hp
     rcases hp with rfl | rfl
     · simp only [hσ id (Ne.symm hne')]
       refine ⟨k0, k1, ⟨cl, k2, k3⟩, fun m q' ys h1 h2 h3 => (k4 m q' ys h1 h2 (by simp [hat])).mono hok (fun _ => rfl), fun p hp q' ys h1 h2 => ?_⟩
       simp only [Option.some.injEq] at hp
       subst hp
       rw [hq] at h1
       rw [hx] at h2
       cases h1
       cases h2
       simp only [RepSV, gj, setσ_self]
     · simp only [setσ_self]
       exact (k4 i q xs hq hx (by simp [hat])).mono hok fun _ => rfl
  refine ⟨_, hfin.evo, hfin.defers, hfin.size, hfin.heap, fun t => ?_⟩
  simp only [lk]
  split
  · rename_i e
    have hv := hr.slots t
    rw [e, hu] at hv
    have gj : ((N ++ keepH (SV.lm (gCarve id i j)) [id, j] h : Heap)).get j = some (.arr e' sz xs) := by simp [N, Heap.get, Ne.symm hne']
    simp only [RepSV, hg] at hv
    show RepSV (setσ σ j (kidLoc q)) (N ++ keepH (SV.lm (gCarve id i j)) [id, j] h) _ w _ (.own j)
    simp only [RepSV, gj, setσ_self]
    obtain ⟨q', ys, h1, h2, h3⟩ := hv
    rw [hq] at h1
    rw [hx] at h2
    cases h1
    cases h2
    rw [e]
    exact h3
  · rw [lk_lm rfl]
    exact hfin.slots t

def gBack (id i j : Nat) : SV → SV
  | .own k => match Nat.beq k j with
    | true => .sub id i
    | false => .own k
  | .elt k n => match Nat.beq k j with
    | true => .junk
    | false => .elt k n
  | .sub k n => match Nat.beq k j with
    | true => .junk
    | false => .sub k n
  | .ref k n => match Nat.beq k j with
    | true => .junk
    | false => .ref k n
  | x => x

theorem R_back {a : Act} {w : World} {id i j e e' sz e2 sz2 : Nat} {xss : List (List D)} {xs ys : List D} (hr : R cx (lk s) h a w) (hg : h.get id = some (.rows e e' sz xss (some (i, .own j)))) (hgj : h.get j = some (.arr e2 sz2 ys)) (he : Nat.beq e2 e' = true) (hsz : Nat.beq sz2 sz = true)
    (hne : Nat.beq j id = false) (hmv : (Nat.blt j 10000 || (!isMov j && !isMov id && Nat.ble 10000 id)) = true) (hx : xss[i]? = some xs) (hl : ys.length = xs.length) :
    R cx (lk (mapS (SV.lm (gBack id i j)) s)) ((id, .rows e e' sz (xss.set i ys) none) :: keepH (SV.lm (gBack id i j)) [id, j] h) a w := by
  obtain ⟨σ, hr⟩ := hr
  have he' := Nat.eq_of_beq_eq_true he
  have hsz' := Nat.eq_of_beq_eq_true hsz
  subst he' hsz'
  have hyl := hl
  obtain ⟨⟨p0, hp0, hp1, hp2⟩, hnd, hrep⟩ := chunk_rows hr hg
  obtain ⟨k0, k1, ⟨cl, k2, k3⟩, k4, k5⟩ := And.intro trivial hrep |>.2
  obtain ⟨pj, hpj, hpj1, hpj2⟩ := get_mem hgj
  have hcj := hr.heap.rep pj hpj
  rw [hpj1, hpj2] at hcj
  have hcj' : RepArr (okf cx σ h) w (σ j) e2 sz2 ys := hcj
  have hne' := Nat.ne_of_beq_eq_false hne
  have hil : i < xss.length := by
    rcases Nat.lt_or_ge i xss.length with hh | hh
    · exact hh
    · simp [hh] at hx
  have hq : (σ id).kids[i]? = some (σ id).kids[i] := List.getElem?_eq_getElem (by omega)
  generalize (σ id).kids[i] = q at hq
  have hnil : (σ id).nil = false := by
    cases hn : (σ id).nil with
    | false => rfl
    | true => have := rows_nil k2 hn; omega
  have hlink := k5 (i, .own j) rfl q xs hq hx
  simp only [RepSV, hgj] at hlink
  rw [hl] at hlink
  obtain ⟨l1, l2⟩ := sliceAt_inj hlink
  have hloc : ∀ n, sliceAt (kidLoc q) n = sliceAt (σ j) n := fun n => sliceAt_congr l1 (fun hn => ⟨(l2 hn).1, (l2 hn).2.2⟩) n
  have hblkj : ∀ b, b ∈ blk (kidLoc q) (.arr e2 sz2 ys) → b ∈ blk (σ j) (.arr e2 sz2 ys) := fun b hb => by
    unfold blk at hb ⊢
    rw [← l1]
    cases hn : (kidLoc q).nil with
    | true => simp [hn] at hb
    | false => simp [hn] at hb ⊢; rw [hb]; exact (l2 hn).1
  have hmemb : ∀ b, b ∈ blk (σ id) (.rows e e2 sz2 (xss.set i ys) none) → b ∈ blk (σ id) (.rows e e2 sz2 xss (some (i, .own j))) ∨ b ∈ blk (σ j) (.arr e2 sz2 ys) := fun b hb => by
    simp only [blk, hnil, hat] at hb
    rcases List.mem_cons.1 hb with hb | hb
    · left; simp only [blk, hnil, hat]; rw [hb]; exact List.mem_cons_self ..
    · obtain ⟨m, p, m1, m2, m3, m4⟩ := mem_kidBlk.1 hb
      by_cases hm : m = i
      · subst hm
        rw [hq] at m1
        cases m1
        right
        exact hblkj b (by unfold blk kidLoc; simp [m2, m4])
      · left
        simp only [blk, hnil, hat]
        exact List.mem_cons_of_mem _ (mem_kidBlk.2 ⟨m, p, m1, m2, by simp; omega, m4⟩)
  have hdis : ∀ b, b ∈ blk (σ id) (.rows e e2 sz2 xss (some (i, .own j))) → b ∈ blk (σ j) (.arr e2 sz2 ys) → False := fun b hb hb' => by
    have := hr.heap.inj p0 hp0 pj hpj b (by rw [hp1, hp2]; exact hb) (by rw [hpj1, hpj2]; exact hb')
    rw [hp1, hpj1] at this
    exact hne' this.symm
  have hkid : ∀ m p, (σ id).kids[m]? = some p → p.2.2 = false → (m ≠ i → p.1 ∈ blk (σ id) (.rows e e2 sz2 xss (some (i, .own j)))) ∧ (m = i → p.1 ∈ blk (σ j) (.arr e2 sz2 ys)) := fun m p m1 m2 => by
    refine ⟨fun hm => kid_blk hnil m1 m2 (by simp [hat]; omega), fun hm => ?_⟩
    subst hm
    rw [hq] at m1
    cases m1
    exact hblkj _ (by unfold blk kidLoc; simp [m2])
  refine ⟨σ, ?_⟩
  rw [lk_lm rfl]
  let N : Heap := [(id, .rows e e2 sz2 (xss.set i ys) none)]
  have gid : ((N ++ keepH (SV.lm (gBack id i j)) [id, j] h : Heap)).get id = some (.rows e e2 sz2 (xss.set i ys) none) := by simp [N, Heap.get]
  have hlens : (xss.set i ys).length = xss.length := by simp
  have hget : ∀ (m : Nat) (zs : List D), (xss.set i ys)[m]? = some zs → ∃ us : List D, xss[m]? = some us ∧ us.length = zs.length := fun m zs hm => by
    by_cases e1 : i = m
    · subst e1
      rw [List.getElem?_set_self hil] at hm
      cases hm
      exact ⟨xs, hx, hl.symm⟩
    · rw [List.getElem?_set_ne e1] at hm
      exact ⟨zs, hm, rfl⟩
  refine hr.upd (σ' := σ) (w' := w) [id, j] N (SV.lm (gBack id i j)) (fun p hp => by simp [N] at hp; subst hp; simp [memB]) (by simp [N]) (fun _ _ => rfl) rfl rfl rfl (Nat.le_refl _) (fun _ _ _ => rfl)
    (fun p hp => ?_) (fun p hp p' hp' b hb hb' => by simp [N] at hp hp'; subst hp hp'; rfl) (fun p hp b hb => ?_) (fun p hp ha => ?_) (fun hok v sv hv => RepSV.lm (leaf_upd (K := [id, j]) hok (fun _ _ => rfl) (simO_keep (fun p hp => by simp [N] at hp; subst hp; simp [memB])) (fun x hl hx => ?_) (fun x v m hl hm hK hv => ?_)) hv) (fun hok p hp => ?_)
  · simp [N] at hp; subst hp
    simp only [blk, hnil, hat, List.nodup_cons] at hnd ⊢
    refine ⟨fun hm => ?_, ?_⟩
    · obtain ⟨m, p, m1, m2, m3, m4⟩ := mem_kidBlk.1 hm
      obtain ⟨h1, h2⟩ := hkid m p m1 m2
      by_cases hmi : m = i
      · refine hdis (σ id).b (by simp only [blk, hnil, hat]; exact List.mem_cons_self ..) ?_
        rw [← m4]; exact h2 hmi
      · exact hnd.1 (mem_kidBlk.2 ⟨m, p, m1, m2, by simp; omega, m4⟩)
    · refine kidBlk_nodup.2 fun m n p p' m1 n1 m2 n2 _ _ me => ?_
      by_cases hmi : m = i <;> by_cases hni : n = i
      · omega
      · exact (hdis _ ((hkid n p' n1 n2).1 hni) (by rw [← me]; exact (hkid m p m1 m2).2 hmi)).elim
      · exact (hdis _ ((hkid m p m1 m2).1 hmi) (by rw [me]; exact (hkid n p' n1 n2).2 hni)).elim
      · exact kidBlk_nodup.1 hnd.2 m n p p' m1 n1 m2 n2 (by simp; omega) (by simp; omega) me
  · simp [N] at hp; subst hp
    rcases hmemb b hb with hb | hb
    · have hb' : b ∈ blk (σ p0.1) p0.2 := by rw [hp1, hp2]; exact hb
      exact ⟨(hr.heap.mine p0 hp0 b hb').2.2, .inr ⟨p0, hp0, by rw [hp1]; simp [memB], hb', .inr (.inl hp1)⟩⟩
    · have hb' : b ∈ blk (σ pj.1) pj.2 := by rw [hpj1, hpj2]; exact hb
      refine ⟨(hr.heap.mine pj hpj b hb').2.2, .inr ⟨pj, hpj, by rw [hpj1]; exact memB_iff.2 (by simp), hb', ?_⟩⟩
      rw [hpj1]
      simp only [Bool.or_eq_true, Bool.and_eq_true, Bool.not_eq_true'] at hmv
      rcases hmv with hmv | ⟨⟨hmv1, hmv2⟩, hmv3⟩
      · exact .inl (Nat.le_of_ble_eq_true hmv)
      · exact .inr (.inr ⟨hmv1, hmv2, Nat.le_of_ble_eq_true hmv3⟩)
  · simp [N] at hp; subst hp
    have := hr.heap.anc p0 hp0 (by rw [hp1]; exact ha)
    rwa [hp1] at this
  · refine leaf_ids (K := [id, j]) hl rfl rfl (fun _ => rfl) (fun i o hi => ?_) (fun i hi => ?_) (fun i o hi => ?_) (fun i o hi => ?_) hx
    all_goals
      obtain ⟨e1, e2⟩ := memB_twoF.1 hi
      simp only [gBack, beqF e2]
  · by_cases hmj : m = j
    · subst hmj
      cases x <;> simp only [SV.idOf, Option.some.injEq, reduceCtorEq] at hm <;> (replace hm := hm.symm; subst hm)
      case own =>
        simp only [gBack, Nat.beq_refl, RepSV, hgj, gid] at hv ⊢
        exact ⟨q, ys, hq, List.getElem?_set_self hil, by rw [hv, hloc]⟩
      all_goals simp only [gBack, Nat.beq_refl, RepSV]
    · have hmi : m = id := by rcases memB_two.1 hK with h | h <;> first | exact h | exact absurd h hmj
      subst hmi
      cases x <;> simp only [SV.idOf, Option.some.injEq, reduceCtorEq] at hm <;> (replace hm := hm.symm; subst hm)
      case ref o =>
        simp only [gBack, beqF hmj, RepSV] at hv ⊢
        exact hv
      case own =>
        simp only [gBack, beqF hmj, RepSV, hg, gid, hlens] at hv ⊢
        exact hv
      case elt o =>
        simp only [gBack, beqF hmj, RepSV, hg, gid] at hv ⊢
        exact hv
      case sub o =>
        simp only [gBack, beqF hmj, RepSV, hg, gid] at hv ⊢
        obtain ⟨q', us, h1, h2, h3⟩ := hv
        by_cases ho : i = o
        · subst ho
          rw [hx] at h2
          cases h2
          exact ⟨q', ys, h1, List.getElem?_set_self hil, by rw [h3, hyl]⟩
        · exact ⟨q', us, h1, by rw [List.getElem?_set_ne ho]; exact h2, h3⟩
  · simp [N] at hp; subst hp
    refine ⟨k0, by simpa using k1, ⟨cl, by simpa using k2, fun m q' zs h1 h2 => ?_⟩, fun m q' zs h1 h2 _ => ?_, by simp⟩
    · obtain ⟨us, u1, u2⟩ := hget m zs h2
      obtain ⟨v1, v2⟩ := k3 m q' us h1 u1
      rw [← u2]
      exact ⟨v1, fun hn => by
        have := v2 hn
        subst this
        exact List.eq_nil_of_length_eq_zero u2.symm⟩
    · by_cases e1 : i = m
      · subst e1
        rw [List.getElem?_set_self hil] at h2
        cases h2
        rw [hq] at h1
        cases h1
        obtain ⟨c0, cl', c1, c2⟩ := hcj'
        rw [← hloc] at c1
        exact RepArr.mono ⟨c0, cl', c1, c2⟩ hok fun _ => rfl
      · rw [List.getElem?_set_ne e1] at h2
        exact (k4 m q' zs h1 h2 (by simp [hat]; omega)).mono hok fun _ => rfl

theorem awpL_carve {l : List Oper} (u id j : Nat) {i e e' sz : Nat} {xss : List (List D)} {xs : List D} (hu : lk s u = .sub id i) (hg : h.get id = some (.rows e e' sz xss none)) (hx : xss[i]? = some xs) (hne : Nat.beq j id = false) (hj : isAnc j = false)
    (hmv : (Nat.blt id 10000 || (!isMov id && !isMov j && Nat.ble 10000 j)) = true)
    (hn : awpL cx ops l ((u, .own j) :: mapS (SV.lm (gCarve id i j)) s) ((id, .rows e e' sz xss (some (i, .own j))) :: (j, .arr e' sz xs) :: keepH (SV.lm (gCarve id i j)) [id, j] h) Q) : awpL cx ops l s h Q := fun a w hr => hn a w (R_carve hr hu hg hx hne hj hmv)
theorem awpL_back {l : List Oper} (id j : Nat) {i e e' sz e2 sz2 : Nat} {xss : List (List D)} {xs ys : List D} (hg : h.get id = some (.rows e e' sz xss (some (i, .own j)))) (hgj : h.get j = some (.arr e2 sz2 ys)) (he : Nat.beq e2 e' = true) (hsz : Nat.beq sz2 sz = true)
    (hne : Nat.beq j id = false) (hmv : (Nat.blt j 10000 || (!isMov j && !isMov id && Nat.ble 10000 id)) = true) (hx : xss[i]? = some xs) (hl : ys.length = xs.length)
    (hn : awpL cx ops l (mapS (SV.lm (gBack id i j)) s) ((id, .rows e e' sz (xss.set i ys) none) :: keepH (SV.lm (gBack id i j)) [id, j] h) Q) : awpL cx ops l s h Q := fun a w hr => hn a w (R_back hr hg hgj he hsz hne hmv hx hl)
/-! ### A row of one's own is put into a place -/

def gPut (id i j : Nat) : SV → SV
  | .own k => match Nat.beq k j with
    | true => .sub id i
    | false => .own k
  | .elt k n => match Nat.beq k j with
    | true => .junk
    | false => .elt k n
  | .sub k n => match Nat.beq k j with
    | true => .junk
    | false => match Nat.beq k id with
      | true => .junk
      | false => .sub k n
  | .ref k n => match Nat.beq k j with
    | true => .junk
    | false => .ref k n
  | x => x

theorem wo_storeRow {T : Nat} {x y : Operand} {tr : TR} {id i j e e' sz e2 sz2 : Nat} {xss : List (List D)} {xs : List D} (hx : opv (lk s) x = .elt id i) (hg : h.get id = some (.rows e e' sz xss none)) (hy : opv (lk s) y = .own j) (hgj : h.get j = some (.arr e2 sz2 xs)) (ht : tget cx.T T = some tr)
    (hts : Nat.beq tr.size 1 = true) (he : Nat.beq e2 e' = true) (hsz : Nat.beq sz2 sz = true) (hne : Nat.beq j id = false) (hia : isAnc id = false) (hj : Nat.blt j 10000 = true) (hi : i < xss.length) :
    OpTo cx ⟨none, .store T x y, ty, pos, af, none⟩ s h (mapS (SV.lm (gPut id i j)) s) ((id, .rows e e' sz (xss.set i xs) none) :: keepH (SV.lm (gPut id i j)) [id, j] h) := by
  rintro a w ⟨σ, hr⟩ Kk Qq hK
  have he' := Nat.eq_of_beq_eq_true he
  have hsz' := Nat.eq_of_beq_eq_true hsz
  subst he' hsz'
  have hj' : j < 10000 := Nat.le_of_ble_eq_true hj
  obtain ⟨⟨p0, hp0, hp1, hp2⟩, hnd, hrep⟩ := chunk_rows hr hg
  obtain ⟨k0, k1, ⟨cl, k2, k3⟩, k4, _⟩ := And.intro trivial hrep |>.2
  obtain ⟨pj, hpj, hpj1, hpj2⟩ := get_mem hgj
  have hcj := hr.heap.rep pj hpj
  rw [hpj1, hpj2] at hcj
  have hcj' : RepArr (okf cx σ h) w (σ j) e2 sz2 xs := hcj
  have hne' := Nat.ne_of_beq_eq_false hne
  have hnil : (σ id).nil = false := by
    cases hn : (σ id).nil with
    | false => rfl
    | true => have := rows_nil k2 hn; omega
  have hu := rep_eval hr x
  rw [hx] at hu
  simp only [RepSV, hg] at hu
  have hv := rep_eval hr y
  rw [hy] at hv
  simp only [RepSV, hgj] at hv
  obtain ⟨d, ii, hdd, hii, _, hisz, _⟩ := tr_facts (tget_ok cx.tab ht)
  have hts' := Nat.eq_of_beq_eq_true hts
  let q : Nat × Nat × Bool := ((σ j).b, (σ j).cap, (σ j).nil)
  let l' : Loc := ⟨(σ id).b, (σ id).cap, (σ id).nil, (σ id).kids.set i q⟩
  have hkq : ∀ n, sliceAt (kidLoc q) n = sliceAt (σ j) n := fun n => rfl
  obtain ⟨o1, o2⟩ := k2
  rcases o2 with ⟨_, o2⟩ | ⟨g, cap, cur, q1, _, q3, q4, q5, q6, q7⟩
  · omega
  have hgb : g = (σ id).b ∧ cap = (σ id).cap := by
    unfold sliceAt at q1
    rw [if_neg (by simp [hnil])] at q1
    cases q1
    exact ⟨rfl, rfl⟩
  obtain ⟨rfl, rfl⟩ := hgb
  have hic : i < cur.size := by omega
  have run : (execOp a.eval ⟨none, .store T x y, ty, pos, af, none⟩).run cx.P w = .ok .skip (w.setCell ⟨(σ id).b, i, none⟩ (a.eval y)) := by
    have hs : (storeVar T ⟨(σ id).b, i, none⟩ (a.eval y)).run cx.P w = .ok () (w.setCell ⟨(σ id).b, i, none⟩ (a.eval y)) := by
      unfold storeVar
      rw [hv, (slice_one _ _).2]
      have hcell : w.cell? ⟨(σ id).b, i, none⟩ = some cur[i] := by rw [cell_at q3, Array.getElem?_eq_getElem hic]
      have hfr : w.frozen? ⟨(σ id).b, i, none⟩ = false := by simp [World.frozen?, q3]
      simp [sizeOf, typeInfo, hii, hisz, hts', storeCells, add_block, run_store _ _ _ _ _ (slice_one _ _).1, hcell, hfr]
    simp [execOp, Instr.storeAt, Instr.sureAddr, hu, hs]
  unfold Oper.wp
  rw [run]
  refine hK _ _ ?_
  have hb0 : ∀ b, b ∉ blk (σ id) (.rows e e2 sz2 xss none) → (w.setCell ⟨(σ id).b, i, none⟩ (a.eval y)).heap[b]? = w.heap[b]? := fun b hb =>
    Below.heap_setCell w _ _ b (fun e1 => hb (by simp only [blk, hnil]; rw [e1]; exact List.mem_cons_self ..))
  have hmemb : ∀ b, b ∈ blk l' (.rows e e2 sz2 (xss.set i xs) none) → b ∈ blk (σ id) (.rows e e2 sz2 xss none) ∨ b ∈ blk (σ j) (.arr e2 sz2 xs) := fun b hb => by
    simp only [blk, l', hnil, hat] at hb
    rcases List.mem_cons.1 hb with hb | hb
    · left; simp only [blk, hnil, hat]; rw [hb]; exact List.mem_cons_self ..
    · rcases kidBlk_set hb with hb | ⟨hq, hb⟩
      · left; simp only [blk, hnil, hat]; exact List.mem_cons_of_mem _ hb
      · right
        simp only [q] at hq hb
        simp [blk, hq, hb]
  have hdis : ∀ b, b ∈ blk (σ id) (.rows e e2 sz2 xss none) → b ∈ blk (σ j) (.arr e2 sz2 xs) → False := fun b hb hb' => by
    have := hr.heap.inj p0 hp0 pj hpj b (by rw [hp1, hp2]; exact hb) (by rw [hpj1, hpj2]; exact hb')
    rw [hp1, hpj1] at this
    exact hne' this.symm
  have hkid : ∀ m p, ((σ id).kids.set i q)[m]? = some p → p.2.2 = false → (m ≠ i → (σ id).kids[m]? = some p ∧ p.1 ∈ blk (σ id) (.rows e e2 sz2 xss none)) ∧ (m = i → p.1 ∈ blk (σ j) (.arr e2 sz2 xs)) := fun m p m1 m2 => by
    refine ⟨fun hm => ?_, fun hm => ?_⟩
    · rw [List.getElem?_set_ne (Ne.symm hm)] at m1
      exact ⟨m1, kid_blk hnil m1 m2 (by simp [hat])⟩
    · subst hm
      rw [List.getElem?_set_self (by omega)] at m1
      cases m1
      simp only [q] at m2
      simp [blk, m2, q]
  refine ⟨setσ σ id l', ?_⟩
  rw [lk_lm rfl]
  let N : Heap := [(id, .rows e e2 sz2 (xss.set i xs) none)]
  have gid : ((N ++ keepH (SV.lm (gPut id i j)) [id, j] h : Heap)).get id = some (.rows e e2 sz2 (xss.set i xs) none) := by simp [N, Heap.get]
  have hlens : (xss.set i xs).length = xss.length := by simp
  refine hr.upd (σ' := setσ σ id l') (w' := w.setCell ⟨(σ id).b, i, none⟩ (a.eval y)) [id, j] N (SV.lm (gPut id i j)) (fun p hp => by simp [N] at hp; subst hp; simp [memB]) (by simp [N]) (fun m hm => setσ_ne (memB_twoF.1 hm).1) rfl rfl rfl (by simp)
    (fun b _ hno => hb0 b (by have := hno p0 hp0 (by rw [hp1]; simp [memB]); rwa [hp1, hp2] at this))
    (fun p hp => ?_) (fun p hp p' hp' b hb hb' => by simp [N] at hp hp'; subst hp hp'; rfl) (fun p hp b hb => ?_) (fun p hp ha => by simp [N] at hp; subst hp; rw [hia] at ha; cases ha) (fun hok v sv hv => RepSV.lm (leaf_upd (K := [id, j]) hok (fun m hm => setσ_ne (memB_twoF.1 hm).1) (simO_keep (fun p hp => by simp [N] at hp; subst hp; simp [memB])) (fun x hl hx => ?_) (fun x v m hl hm hK hv => ?_)) hv) (fun hok p hp => ?_)
  · simp [N] at hp; subst hp
    simp only [setσ_self, blk, l', hnil, hat, List.nodup_cons] at hnd ⊢
    refine ⟨fun hm => ?_, ?_⟩
    · obtain ⟨m, p, m1, m2, m3, m4⟩ := mem_kidBlk.1 hm
      obtain ⟨h1, h2⟩ := hkid m p m1 m2
      by_cases hmi : m = i
      · refine hdis (σ id).b (by simp only [blk, hnil, hat]; exact List.mem_cons_self ..) ?_
        rw [← m4]; exact h2 hmi
      · exact hnd.1 (mem_kidBlk.2 ⟨m, p, (h1 hmi).1, m2, by simp, m4⟩)
    · refine kidBlk_nodup.2 fun m n p p' m1 n1 m2 n2 _ _ me => ?_
      by_cases hmi : m = i <;> by_cases hni : n = i
      · omega
      · exact (hdis _ ((hkid n p' n1 n2).1 hni).2 (by rw [← me]; exact (hkid m p m1 m2).2 hmi)).elim
      · exact (hdis _ ((hkid m p m1 m2).1 hmi).2 (by rw [me]; exact (hkid n p' n1 n2).2 hni)).elim
      · exact kidBlk_nodup.1 hnd.2 m n p p' ((hkid m p m1 m2).1 hmi).1 ((hkid n p' n1 n2).1 hni).1 m2 n2 (by simp) (by simp) me
  · simp [N] at hp; subst hp
    simp only [setσ_self] at hb
    have hsz0 : (w.setCell ⟨(σ p0.1).b, i, none⟩ (a.eval y)).heap.size = w.heap.size := by simp
    rw [hp1] at hsz0
    rcases hmemb b hb with hb | hb
    · have hb' : b ∈ blk (σ p0.1) p0.2 := by rw [hp1, hp2]; exact hb
      exact ⟨by rw [hsz0]; exact (hr.heap.mine p0 hp0 b hb').2.2, .inr ⟨p0, hp0, by rw [hp1]; simp [memB], hb', .inr (.inl hp1)⟩⟩
    · have hb' : b ∈ blk (σ pj.1) pj.2 := by rw [hpj1, hpj2]; exact hb
      exact ⟨by rw [hsz0]; exact (hr.heap.mine pj hpj b hb').2.2, .inr ⟨pj, hpj, by rw [hpj1]; exact memB_iff.2 (by simp), hb', .inl (by rw [hpj1]; exact hj')⟩⟩
  · refine leaf_ids (K := [id, j]) hl rfl rfl (fun _ => rfl) (fun i o hi => ?_) (fun i hi => ?_) (fun i o hi => ?_) (fun i o hi => ?_) hx
    all_goals
      obtain ⟨e1, e2⟩ := memB_twoF.1 hi
      simp only [gPut, beqF e2, beqF e1]
  · by_cases hmj : m = j
    · subst hmj
      cases x <;> simp only [SV.idOf, Option.some.injEq, reduceCtorEq] at hm <;> (replace hm := hm.symm; subst hm)
      case own =>
        simp only [gPut, Nat.beq_refl, RepSV, hgj, gid, setσ_self] at hv ⊢
        exact ⟨q, xs, List.getElem?_set_self (by omega), List.getElem?_set_self hi, by rw [hv, hkq]⟩
      all_goals simp only [gPut, Nat.beq_refl, RepSV]
    · have hmi : m = id := by rcases memB_two.1 hK with h | h <;> first | exact h | exact absurd h hmj
      subst hmi
      cases x <;> simp only [SV.idOf, Option.some.injEq, reduceCtorEq] at hm <;> (replace hm := hm.symm; subst hm)
      case ref o =>
        simp only [gPut, beqF hmj, RepSV, setσ_self] at hv ⊢
        exact hv
      case own =>
        simp only [gPut, beqF hmj, RepSV, hg, gid, hlens, setσ_self] at hv ⊢
        exact hv
      case elt o =>
        simp only [gPut, beqF hmj, RepSV, hg, gid, setσ_self] at hv ⊢
        exact hv
      case sub o => simp only [gPut, beqF hmj, Nat.beq_refl, RepSV]
  · simp [N] at hp; subst hp
    simp only [setσ_self]
    have hcl : cl.length = xss.length := by simpa using o1
    refine ⟨k0, by simp only [l']; rw [List.length_set, List.length_set]; exact k1, ⟨cl.set i (a.eval y), ⟨by simpa using o1, .inr ⟨(σ id).b, (σ id).cap, cur.setIfInBounds i (a.eval y), by simp [sliceAt, l', hnil], Nat.zero_le _, ?_, by simpa using q4, q5, by simpa using q6, ?_⟩⟩, fun m q' zs h1 h2 => ?_⟩, fun m q' zs h1 h2 _ => ?_, by simp⟩
    · simp [World.setCell, Array.getElem?_modify, q3]
    · rw [← q7]
      apply List.ext_getElem?
      intro m
      rw [List.getElem?_take, List.getElem?_set]
      simp only [List.length_set, Nat.mul_one, Array.getElem?_toList, List.length_take, Array.length_toList]
      by_cases hm : i = m
      · subst hm
        rw [if_pos hi, Array.getElem?_setIfInBounds_self_of_lt hic, if_pos rfl, if_pos (by omega)]
      · rw [if_neg hm, List.getElem?_take, Array.getElem?_setIfInBounds_ne hm]
        simp
    · simp only [l'] at h1
      by_cases e1 : i = m
      · subst e1
        rw [List.getElem?_set_self (by omega)] at h1
        rw [List.getElem?_set_self hi] at h2
        cases h1
        cases h2
        rw [List.getElem?_set_self (by omega), hv, hkq]
        refine ⟨rfl, fun hn => ?_⟩
        obtain ⟨_, cl', ho', _⟩ := hcj'
        rcases ho'.2 with ⟨_, h⟩ | ⟨_, _, _, h, _⟩
        · exact List.eq_nil_of_length_eq_zero h
        · simp only [q] at hn
          simp [sliceAt, hn] at h
      · rw [List.getElem?_set_ne e1] at h1 h2 ⊢
        exact k3 m q' zs h1 h2
    · simp only [l'] at h1
      by_cases e1 : i = m
      · subst e1
        rw [List.getElem?_set_self (by omega)] at h1
        rw [List.getElem?_set_self hi] at h2
        cases h1
        cases h2
        exact hcj'.mono hok fun hn => hb0 _ fun hb => hdis _ hb (by have hn' : (σ j).nil = false := hn; show (σ j).b ∈ _; simp [blk, hn'])
      · rw [List.getElem?_set_ne e1] at h1 h2
        exact (k4 m q' zs h1 h2 (by simp [hat])).mono hok fun hn => by
          refine Below.heap_setCell w _ _ _ fun e2 => ?_
          simp only [blk, hnil, hat, List.nodup_cons] at hnd
          exact hnd.1 (mem_kidBlk.2 ⟨m, q', h1, hn, by simp, e2⟩)

end
end Go.Proofs.YtampglcgipefnaaGreat
