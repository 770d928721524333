/- Rows of rows of one's own: how they come, how a row is put into them, taken out and put back. No condition. -/
import Derived.Test.YtckpadnjldebaaaGreatFwK
namespace Go.Proofs.YtckpadnjldebaaaGreat
open Go
open Go.RowKit (Below)
set_option linter.unusedVariables false
set_option linter.unusedSimpArgs false
def SV.leaf : SV -> Bool
  | .agg _ => false
  | .tup _ => false
  | .fn _ _ => false
  | .cel _ _ _ => false
  | _ => true
mutual
def SV.lm (g : SV -> SV) : SV -> SV
  | .agg l => .agg (SV.lms g l)
  | .tup l => .tup (SV.lms g l)
  | .fn f l => .fn f (SV.lms g l)
  | .junk => g .junk
  | .und => g .und
  | .d x => g (.d x)
  | .ref i o => g (.ref i o)
  | .own i => g (.own i)
  | .elt i o => g (.elt i o)
  | .sub i o => g (.sub i o)
  | .cel _ _ _ => .junk
def SV.lms (g : SV -> SV) : List SV -> List SV
  | [] => []
  | x :: l => SV.lm g x :: SV.lms g l
end
mutual
theorem RepSV.lm {σ σ' : Nat -> Loc} {h h' : Heap} {ok ok' : Nat -> Prop} {w w' : World} {g : SV -> SV} (hg : ∀ x v, x.leaf = true -> RepSV σ h ok w v x -> RepSV σ' h' ok' w' v (g x)) :
    ∀ {x : SV} {v : Value}, RepSV σ h ok w v x -> RepSV σ' h' ok' w' v (x.lm g)
  | .junk, _, hr => hg _ _ rfl hr
  | .und, _, hr => hg _ _ rfl hr
  | .d x, _, hr => hg _ _ rfl hr
  | .ref i o, _, hr => hg _ _ rfl hr
  | .own i, _, hr => hg _ _ rfl hr
  | .elt i o, _, hr => hg _ _ rfl hr
  | .sub i o, _, hr => hg _ _ rfl hr
  | .cel _ _ _, _, _ => by unfold SV.lm RepSV; trivial
  | .agg l, v, hr => by
    unfold SV.lm
    simp only [RepSV] at hr ⊢
    obtain ⟨cs, e, hl⟩ := hr
    exact ⟨cs, e, RepSVs.lm hg hl⟩
  | .tup l, v, hr => by
    unfold SV.lm
    simp only [RepSV] at hr ⊢
    obtain ⟨cs, e, hl⟩ := hr
    exact ⟨cs, e, RepSVs.lm hg hl⟩
  | .fn f l, v, hr => by
    unfold SV.lm
    simp only [RepSV] at hr ⊢
    obtain ⟨cs, e, hl⟩ := hr
    exact ⟨cs, e, RepSVs.lm hg hl⟩
theorem RepSVs.lm {σ σ' : Nat -> Loc} {h h' : Heap} {ok ok' : Nat -> Prop} {w w' : World} {g : SV -> SV} (hg : ∀ x v, x.leaf = true -> RepSV σ h ok w v x -> RepSV σ' h' ok' w' v (g x)) :
    ∀ {l : List SV} {one : Bool} {vs : List Value}, RepSVs σ h ok w one vs l -> RepSVs σ' h' ok' w' one vs (SV.lms g l)
  | [], _, _, hr => by unfold SV.lms; exact hr
  | x :: l, _, _, hr => by
    unfold SV.lms
    simp only [RepSVs] at hr ⊢
    obtain ⟨v, vs', e, h1, h2, h3⟩ := hr
    exact ⟨v, vs', e, RepSV.lm hg h1, h2, RepSVs.lm hg h3⟩
end
theorem leaf_other {σ σ' : Nat -> Loc} {h h' : Heap} {ok ok' : Nat -> Prop} {w w' : World} {K : List Nat} (hk : ∀ b, ok b -> b < w.heap.size -> ok' b /\ w'.heap[b]? = w.heap[b]?) (hσ : ∀ j, memB j K = false -> σ' j = σ j) (hg : ∀ j, memB j K = false -> simO (h.get j) (h'.get j))
    {x : SV} {v : Value} (hr : RepSV σ h ok w v x) (hx : ∀ y, x.kill K = y -> y = x) : RepSV σ' h' ok' w' v x := by
  have := RepSV.kill hk hσ hg hr
  rwa [hx _ rfl] at this
theorem beqF {i j : Nat} (h : i ≠ j) : Nat.beq i j = false := by
  rw [<- Bool.not_eq_true]
  exact fun e => h (Nat.eq_of_beq_eq_true e)
def setσ (σ : Nat -> Loc) (id : Nat) (l : Loc) : Nat -> Loc := fun j => if j = id then l else σ j
theorem setσ_self (σ : Nat -> Loc) (id : Nat) (l : Loc) : setσ σ id l id = l := if_pos rfl
theorem setσ_ne {σ : Nat -> Loc} {id j : Nat} {l : Loc} (h : j ≠ id) : setσ σ id l j = σ j := if_neg h
section
variable {cx : Cx} {ops : Array Oper} {rest : List Oper} {s : Slots} {h : Heap} {Q : Exit -> Slots -> Heap -> Prop} {K : Slots -> Prop} {dst : Option Nat} {t ty : Nat} {pos : String} {af : Array Edge} {gd : Option (Nat × Bool)}
theorem lk_lm {g : SV -> SV} (hj : g .junk = .junk) (s : Slots) : lk (mapS (SV.lm g) s) = fun t => SV.lm g (lk s t) := funext fun t => lk_mapS (f := SV.lm g) hj s t
def gRow (id : Nat) : SV -> SV
  | .sub i n => match Nat.beq i id with
    | true => .junk
    | false => .sub i n
  | x => x
def allNils : List D -> Bool
  | [] => true
  | .nils :: l => allNils l
  | _ :: _ => false
theorem allNils_get : ∀ {xs : List D}, allNils xs = true -> ∀ x ∈ xs, x = .nils
  | [], _, x, hx => by cases hx
  | .nils :: l, h, x, hx => by
    rcases List.mem_cons.1 hx with rfl | hx
    . rfl
    . exact allNils_get (xs := l) h x hx
  | .int _ _ :: _, h, _, _ => by cases h
  | .bool _ :: _, h, _, _ => by cases h
  | .str _ :: _, h, _, _ => by cases h
  | .lst _ :: _, h, _, _ => by cases h
  | .agg _ :: _, h, _, _ => by cases h
  | .tup _ :: _, h, _, _ => by cases h
  | .ptr _ :: _, h, _, _ => by cases h
  | .fn _ _ :: _, h, _, _ => by cases h
  | .nilp :: _, h, _, _ => by cases h
  | .rowb _ _ _ _ :: _, h, _, _ => by cases h
  | .map _ :: _, h, _, _ => by cases h
  | .nilm :: _, h, _, _ => by cases h
theorem R_toRows {a : Act} {w : World} {id e e' sz : Nat} {xs : List D} (hr : R cx (lk s) h a w) (hg : h.get id = some (.arr e 1 xs)) (hsz : Nat.blt 0 sz = true) (hid : isAnc id = false) (hx : allNils xs = true) :
    R cx (lk (mapS (SV.lm (gRow id)) s)) ((id, .rows e e' sz (xs.map fun _ => []) none) :: keepH (SV.lm (gRow id)) [id] h) a w := by
  obtain ⟨σ, hr⟩ := hr
  obtain ⟨hex, h0, hlt, cl, ho, hc⟩ := chunk_own hr hg
  obtain ⟨p0, hp0, hp1, hp2⟩ := hex
  have hall := allNils_get hx
  let l : Loc := ⟨(σ id).b, (σ id).cap, (σ id).nil, List.replicate xs.length (0, 0, true)⟩
  have hkb : ∀ (n k : Nat), kidBlk none k (List.replicate n ((0 : Nat), (0 : Nat), true)) = [] := by
    intro n
    induction n with
    | zero => intro k; rfl
    | succ n ih => intro k; simp only [List.replicate_succ, kidBlk]; exact ih (k + 1)
  have hblk : blk l (.rows e e' sz (xs.map fun _ => []) none) = blk (σ id) (.arr e 1 xs) := by
    simp only [blk, l, hat, hkb]
  have hsl : ∀ n, sliceAt l n = sliceAt (σ id) n := fun n => rfl
  refine ⟨setσ σ id l, ?_⟩
  rw [lk_lm rfl]
  refine hr.upd (σ' := setσ σ id l) (w' := w) [id] [(id, .rows e e' sz (xs.map fun _ => []) none)] (SV.lm (gRow id)) (by simp [memB]) (by simp) (fun j hj => setσ_ne (memB_oneF.1 hj)) rfl rfl rfl (Nat.le_refl _) (fun _ _ _ => rfl)
    (fun p hp => ?_) (fun p hp q hq _ _ _ => by simp at hp hq; subst hp hq; rfl) (fun p hp b hb => ?_) (fun p hp ha => by simp at hp; subst hp; rw [hid] at ha; cases ha) (fun hok v sv hv => RepSV.lm (fun x v hl hv => ?_) hv) (fun hok p hp => ?_)
  . simp at hp; subst hp
    simp only [setσ_self, hblk]
    have := hr.heap.nd p0 hp0
    rwa [hp1, hp2] at this
  . simp at hp; subst hp
    simp only [setσ_self, hblk] at hb
    have hb' : b ∈ blk (σ p0.1) p0.2 := by rw [hp1, hp2]; exact hb
    exact ⟨(hr.heap.mine p0 hp0 b hb').2.2, .inr ⟨p0, hp0, memB_one.2 hp1, hb', .inr (.inl hp1)⟩⟩
  . have hsk := simO_keep (f := SV.lm (gRow id)) (K := [id]) (N := [(id, .rows e e' sz (xs.map fun _ => []) none)]) (h := h) (by simp [memB])
    have other : ∀ x : SV, (∀ y, x.kill [id] = y -> y = x) -> RepSV σ h (okf cx σ h) w v x -> RepSV (setσ σ id l) ([(id, .rows e e' sz (xs.map fun _ => []) none)] ++ keepH (SV.lm (gRow id)) [id] h) (okf cx (setσ σ id l) ([(id, .rows e e' sz (xs.map fun _ => []) none)] ++ keepH (SV.lm (gRow id)) [id] h)) w v x := fun x hx hv =>
      leaf_other hok (fun j hj => setσ_ne (memB_oneF.1 hj)) hsk hv hx
    cases x with
    | junk => unfold gRow RepSV; trivial
    | und => exact hv
    | d x => exact RepD.mono hv hok
    | ref i n =>
      by_cases e : i = id
      . subst e
        simp only [gRow, RepSV, setσ_self] at hv ⊢
        exact hv
      . simp only [gRow, RepSV, setσ_ne e] at hv ⊢
        exact hv
    | own i =>
      by_cases e : i = id
      . subst e
        simp only [gRow, RepSV, hg, List.cons_append, List.nil_append, Heap.get, if_true, setσ_self, List.length_map] at hv ⊢
        exact hv
      . exact other (.own i) (by rintro y rfl; simp [SV.kill, memB_oneF.2 e]) hv
    | elt i n =>
      by_cases e : i = id
      . subst e
        simp only [gRow, RepSV, hg, List.cons_append, List.nil_append, Heap.get, if_true, setσ_self, Nat.mul_one] at hv ⊢
        exact hv
      . exact other (.elt i n) (by rintro y rfl; simp [SV.kill, memB_oneF.2 e]) hv
    | sub i n =>
      by_cases e : i = id
      . subst e
        simp [gRow, RepSV]
      . have : gRow id (.sub i n) = .sub i n := by simp only [gRow, beqF e]
        rw [this]
        exact other (.sub i n) (by rintro y rfl; simp [SV.kill, memB_oneF.2 e]) hv
    | agg => cases hl
    | tup => cases hl
    | fn => cases hl
    | cel => cases hl
  . simp at hp; subst hp
    simp only [setσ_self]
    obtain ⟨c1, vs, c2, c3, c4⟩ := hc
    refine ⟨Nat.le_of_ble_eq_true hsz, by simp [l], ⟨cl, by simpa [hsl] using ho, fun i q ys hq hy => ?_⟩, fun i q ys hq hy _ => ?_, by simp⟩
    . simp only [l, List.getElem?_replicate] at hq
      split at hq
      . rename_i hi
        cases hq
        rw [List.getElem?_map, Option.map_eq_some_iff] at hy
        obtain ⟨x, hx1, rfl⟩ := hy
        have hv : vs[i]? = some (vs[i]'(by omega)) := List.getElem?_eq_getElem (by omega)
        have hn := c3 i _ x hv hx1
        rw [hall x (List.mem_of_getElem? hx1)] at hn
        have hn := RepD.nils_inv hn
        have := (c4 i _ hv).2 0 (by omega)
        rw [hn] at this
        simp only [Nat.mul_one, Nat.add_zero] at this
        exact ⟨by rw [this]; simp [sliceAt, kidLoc, Value.cells], fun _ => rfl⟩
      . cases hq
    . simp only [l, List.getElem?_replicate] at hq
      split at hq
      . cases hq
        rw [List.getElem?_map, Option.map_eq_some_iff] at hy
        obtain ⟨x, hx1, rfl⟩ := hy
        exact ⟨Nat.le_of_ble_eq_true hsz, [], ⟨by simp, .inl ⟨by simp [sliceAt, kidLoc], rfl⟩⟩, by simp, [], rfl, by simp, by simp⟩
      . cases hq
theorem awp_toRows {c : Code} (id e' sz : Nat) {e : Nat} {xs : List D} (hg : h.get id = some (.arr e 1 xs)) (hsz : Nat.blt 0 sz = true) (hid : isAnc id = false) (hx : allNils xs = true)
    (hn : awp cx c (mapS (SV.lm (gRow id)) s) ((id, .rows e e' sz (xs.map fun _ => []) none) :: keepH (SV.lm (gRow id)) [id] h) Q) : awp cx c s h Q := fun a w hr => hn a w (R_toRows hr hg hsz hid hx)
def SV.idOf : SV -> Option Nat
  | .ref i _ => some i
  | .own i => some i
  | .elt i _ => some i
  | .sub i _ => some i
  | _ => none
theorem kill_same {K : List Nat} {x : SV} (hl : x.leaf = true) (hx : ∀ i, x.idOf = some i -> memB i K = false) : x.kill K = x := by
  cases x with
  | ref i o => unfold SV.kill; rw [hx i rfl]
  | own i => unfold SV.kill; rw [hx i rfl]
  | elt i o => unfold SV.kill; rw [hx i rfl]
  | sub i o => unfold SV.kill; rw [hx i rfl]
  | agg => cases hl
  | tup => cases hl
  | fn => cases hl
  | cel => cases hl
  | _ => rfl
theorem leaf_upd {σ σ' : Nat -> Loc} {h h' : Heap} {ok ok' : Nat -> Prop} {w w' : World} {K : List Nat} {g : SV -> SV} (hk : ∀ b, ok b -> b < w.heap.size -> ok' b /\ w'.heap[b]? = w.heap[b]?) (hσ : ∀ j, memB j K = false -> σ' j = σ j) (hs : ∀ j, memB j K = false -> simO (h.get j) (h'.get j))
    (hg : ∀ x : SV, x.leaf = true -> (∀ i, x.idOf = some i -> memB i K = false) -> g x = x)
    (hK : ∀ x v i, x.leaf = true -> x.idOf = some i -> memB i K = true -> RepSV σ h ok w v x -> RepSV σ' h' ok' w' v (g x)) : ∀ x v, x.leaf = true -> RepSV σ h ok w v x -> RepSV σ' h' ok' w' v (g x) := fun x v hl hv => by
  by_cases hx : ∀ i, x.idOf = some i -> memB i K = false
  . rw [hg x hl hx]
    have := RepSV.kill hk hσ hs hv
    rwa [kill_same hl hx] at this
  . simp only [Classical.not_forall] at hx
    obtain ⟨i, h1, h2⟩ := hx
    exact hK x v i hl h1 (by simpa using h2) hv
theorem sliceAt_inj {l l' : Loc} {n n' : Nat} (h : sliceAt l n = sliceAt l' n') : l.nil = l'.nil /\ (l.nil = false -> l.b = l'.b /\ n = n' /\ l.cap = l'.cap) := by
  unfold sliceAt at h
  cases h1 : l.nil <;> cases h2 : l'.nil <;> simp [h1, h2] at h ⊢
  exact h
theorem sliceAt_congr {l l' : Loc} (h1 : l.nil = l'.nil) (h2 : l.nil = false -> l.b = l'.b /\ l.cap = l'.cap) (n : Nat) : sliceAt l n = sliceAt l' n := by
  unfold sliceAt
  cases h : l.nil with
  | true => simp [<- h1, h]
  | false => obtain ⟨e1, e2⟩ := h2 h; simp [<- h1, h, e1, e2]
theorem kidBlk_set {hole : Option Nat} {q : Nat × Nat × Bool} : ∀ {l : List (Nat × Nat × Bool)} {k i b : Nat}, b ∈ kidBlk hole k (l.set i q) -> b ∈ kidBlk hole k l \/ (q.2.2 = false /\ b = q.1) := fun {l k i b} hb => by
  obtain ⟨j, p, h1, h2, h3, h4⟩ := mem_kidBlk.1 hb
  by_cases e : i = j
  . subst e
    rw [List.getElem?_set] at h1
    simp only [if_true] at h1
    split at h1
    . cases h1; exact .inr ⟨h2, h4.symm⟩
    . cases h1
  . rw [List.getElem?_set_ne e] at h1
    exact .inl (mem_kidBlk.2 ⟨j, p, h1, h2, h3, h4⟩)
theorem kidBlk_nodup {hole : Option Nat} : ∀ {l : List (Nat × Nat × Bool)} {k : Nat}, (kidBlk hole k l).Nodup ↔ ∀ i j p q, l[i]? = some p -> l[j]? = some q -> p.2.2 = false -> q.2.2 = false -> hole ≠ some (k + i) -> hole ≠ some (k + j) -> p.1 = q.1 -> i = j
  | [], k => by simp [kidBlk]
  | x :: l, k => by
    have ih := @kidBlk_nodup hole l (k + 1)
    have tail : (∀ i j p q, (x :: l)[i]? = some p -> (x :: l)[j]? = some q -> p.2.2 = false -> q.2.2 = false -> hole ≠ some (k + i) -> hole ≠ some (k + j) -> p.1 = q.1 -> i = j) -> ∀ i j p q, l[i]? = some p -> l[j]? = some q -> p.2.2 = false -> q.2.2 = false -> hole ≠ some (k + 1 + i) -> hole ≠ some (k + 1 + j) -> p.1 = q.1 -> i = j := fun h i j p q h1 h2 h3 h4 h5 h6 h7 => by
      have := h (i + 1) (j + 1) p q (by simpa using h1) (by simpa using h2) h3 h4 (by rwa [show k + (i + 1) = k + 1 + i by omega]) (by rwa [show k + (j + 1) = k + 1 + j by omega]) h7
      omega
    have skip : (x.2.2 = true \/ hole = some k) -> ((kidBlk hole k (x :: l)).Nodup ↔ ∀ i j p q, (x :: l)[i]? = some p -> (x :: l)[j]? = some q -> p.2.2 = false -> q.2.2 = false -> hole ≠ some (k + i) -> hole ≠ some (k + j) -> p.1 = q.1 -> i = j) := fun hx => by
      have e : kidBlk hole k (x :: l) = kidBlk hole (k + 1) l := by
        rcases hx with hx | hx
        . simp only [kidBlk, hx]
        . cases hx2 : x.2.2 with
          | true => simp only [kidBlk, hx2]
          | false => simp only [kidBlk, hx2, if_pos hx]
      rw [e, ih]
      refine ⟨fun h i j p q h1 h2 h3 h4 h5 h6 h7 => ?_, tail⟩
      cases i with
      | zero =>
        simp at h1; subst h1
        rcases hx with hx | hx
        . rw [hx] at h3; cases h3
        . exact absurd hx h5
      | succ i =>
        cases j with
        | zero =>
          simp at h2; subst h2
          rcases hx with hx | hx
          . rw [hx] at h4; cases h4
          . exact absurd hx h6
        | succ j =>
          have := h i j p q (by simpa using h1) (by simpa using h2) h3 h4 (by rwa [show k + 1 + i = k + (i + 1) by omega]) (by rwa [show k + 1 + j = k + (j + 1) by omega]) h7
          omega
    cases hx : x.2.2 with
    | true => exact skip (.inl hx)
    | false =>
      by_cases hh : hole = some k
      . exact skip (.inr hh)
      . have e : kidBlk hole k (x :: l) = x.1 :: kidBlk hole (k + 1) l := by
          simp only [kidBlk, hx, if_neg hh]
        rw [e, List.nodup_cons, ih]
        constructor
        . rintro ⟨hno, h⟩ i j p q h1 h2 h3 h4 h5 h6 h7
          cases i with
          | zero =>
            simp at h1; subst h1
            cases j with
            | zero => rfl
            | succ j =>
              exact absurd (mem_kidBlk.2 ⟨j, q, by simpa using h2, h4, by rwa [show k + 1 + j = k + (j + 1) by omega], h7.symm⟩) hno
          | succ i =>
            cases j with
            | zero =>
              simp at h2; subst h2
              exact absurd (mem_kidBlk.2 ⟨i, p, by simpa using h1, h3, by rwa [show k + 1 + i = k + (i + 1) by omega], h7⟩) hno
            | succ j =>
              have := h i j p q (by simpa using h1) (by simpa using h2) h3 h4 (by rwa [show k + 1 + i = k + (i + 1) by omega]) (by rwa [show k + 1 + j = k + (j + 1) by omega]) h7
              omega
        . intro h
          refine ⟨fun hm => ?_, tail h⟩
          obtain ⟨i, p, h1, h2, h3, h4⟩ := mem_kidBlk.1 hm
          have := h 0 (i + 1) x p rfl (by simpa using h1) hx h2 (by simpa using hh) (by rwa [show k + (i + 1) = k + 1 + i by omega]) h4.symm
          omega
theorem chunk_rows {σ : Nat -> Loc} {a : Act} {w : World} {f : Nat -> SV} (hr : RW cx σ f h a w) {id e e' sz : Nat} {xss : List (List D)} {hole : Option (Nat × SV)} (hg : h.get id = some (.rows e e' sz xss hole)) :
    (∃ p ∈ h, p.1 = id /\ p.2 = .rows e e' sz xss hole) /\ (blk (σ id) (.rows e e' sz xss hole)).Nodup /\ RepChunk σ h (okf cx σ h) w (σ id) (.rows e e' sz xss hole) := by
  obtain ⟨p, hp, rfl, hp2⟩ := get_mem hg
  have := hr.heap.rep p hp
  have h2 := hr.heap.nd p hp
  rw [hp2] at this h2
  exact ⟨⟨p, hp, rfl, hp2⟩, h2, this⟩
theorem wa_indexRows {T : Nat} {x i : Operand} {ts te : TR} {f : Nat -> SV} {id e e' sz : Nat} {xss : List (List D)} {hole : Option (Nat × SV)} {k : IntKind} {n : Int} (hx : opv f x = .own id) (hi : opv f i = .d (.int k n)) (hg : h.get id = some (.rows e e' sz xss hole))
    (ht : tget cx.T T = some ts) (hsl : ts.isSl = true) (hte : tget cx.T ts.elem = some te) (hsz : Nat.beq te.size 1 = true) (h0 : 0 <= n) (hlt : n < xss.length) :
    Qt cx h ⟨dst, .indexAddr T x i, ty, pos, af, gd⟩ f (.elt id n.toNat) := by
  intro s₁ hs σ a w hr K Q hK
  have h1 := rep_eval hr x
  have h2 := rep_eval hr i
  rw [show opv s₁ x = opv f x from by cases x <;> first | rfl | exact hs _ (by simp [Op.operands]), hx] at h1
  rw [show opv s₁ i = opv f i from by cases i <;> first | rfl | exact hs _ (by simp [Op.operands]), hi] at h2
  have h2' := RepD.int_inv h2
  simp only [RepSV, hg] at h1
  obtain ⟨d, i', hdd, hi', _, _, _, hs', _⟩ := tr_facts (tget_ok cx.tab ht)
  have := hs' hsl
  subst this
  obtain ⟨_, ie, _, hie, _, hies, _⟩ := tr_facts (tget_ok cx.tab hte)
  have hsz' := Nat.eq_of_beq_eq_true hsz
  obtain ⟨_, _, _, _, ⟨cl, ho, _⟩, _⟩ := chunk_rows hr hg
  have hnil : (σ id).nil = false := by
    cases hn : (σ id).nil with
    | false => rfl
    | true =>
      have := rows_nil ho hn
      omega
  simp only [sliceAt, hnil, Bool.false_eq_true, if_false] at h1
  unfold Oper.wp
  have run : (execOp a.eval ⟨dst, .indexAddr T x i, ty, pos, af, gd⟩).run cx.P w = .ok (.value (.pointer (some ⟨(σ id).b, n.toNat, none⟩))) w := by
    simp only [execOp, h1, h2', Instr.indexAt, asIntOf, Sem.run_bind, Sem.run_pure, Result.andThen_ok, run_underlying hdd]
    rw [if_pos ⟨h0, hlt⟩]
    simp [sizeOf, typeInfo, hie, hies, add_block, hsz']
  rw [run]
  exact hK _ _ (Below.refl _ _) (by simp only [RepSV, hg])
theorem wa_loadRow {T : Nat} {x : Operand} {tr : TR} {f : Nat -> SV} {id i e e' sz : Nat} {xss : List (List D)} {hole : Option (Nat × SV)} (hx : opv f x = .elt id i) (hg : h.get id = some (.rows e e' sz xss hole)) (ht : tget cx.T T = some tr) (ha : tr.agg = false) (hi : i < xss.length) :
    Qt cx h ⟨dst, .load T x, ty, pos, af, gd⟩ f (.sub id i) := by
  intro s₁ hs σ a w hr K Q hK
  have h1 := rep_eval hr x
  rw [show opv s₁ x = opv f x from by cases x <;> first | rfl | exact hs _ (by simp [Op.operands]), hx] at h1
  simp only [RepSV, hg] at h1
  obtain ⟨_, _, _, hkl, ⟨cl, ho, hcl⟩, _⟩ := chunk_rows hr hg
  have hq : (σ id).kids[i]? = some (σ id).kids[i] := List.getElem?_eq_getElem (by omega)
  have hxs : xss[i]? = some xss[i] := List.getElem?_eq_getElem hi
  obtain ⟨c1, _⟩ := hcl i _ _ hq hxs
  obtain ⟨d, ii, hdd, hii, e1, e2, _⟩ := tr_facts (tget_ok cx.tab ht)
  have hcell : w.cell? ⟨(σ id).b, i, none⟩ = some (sliceAt (kidLoc (σ id).kids[i]) xss[i].length) := by
    obtain ⟨o1, o2⟩ := ho
    rcases o2 with ⟨_, o2⟩ | ⟨g, cap, cur, q1, _, q3, q4, q5, q6, q7⟩
    . omega
    . have hgb : g = (σ id).b := by
        unfold sliceAt at q1
        split at q1
        . cases q1
        . cases q1; rfl
      subst hgb
      rw [cell_at q3, <- c1, <- q7, List.getElem?_take, if_pos (by omega)]
      simp
  unfold Oper.wp
  have run : (execOp a.eval ⟨dst, .load T x, ty, pos, af, gd⟩).run cx.P w = .ok (.value (sliceAt (kidLoc (σ id).kids[i]) xss[i].length)) w := by
    simp only [execOp, h1, Instr.loadAt, Instr.sureAddr, Sem.run_bind, Sem.run_pure, Result.andThen_ok, loadVar, run_isAgg hdd, e1, ha, Bool.false_eq_true, if_false, run_load, hcell]
  rw [run]
  exact hK _ _ (Below.refl _ _) (by simp only [RepSV, hg]; exact ⟨_, _, hq, hxs, rfl⟩)
def gCarve (id i j : Nat) : SV -> SV
  | .sub k n => match Nat.beq k j with
    | true => .junk
    | false => .sub k n
  | .own k => match Nat.beq k j with
    | true => .junk
    | false => .own k
  | .elt k n => match Nat.beq k j with
    | true => .junk
    | false => .elt k n
  | .ref k n => match Nat.beq k j with
    | true => .junk
    | false => .ref k n
  | x => x
theorem memB_two {i a b : Nat} : memB i [a, b] = true ↔ i = a \/ i = b := by
  rw [memB_iff]; simp
theorem memB_twoF {i a b : Nat} : memB i [a, b] = false ↔ i ≠ a /\ i ≠ b := by
  rw [<- Bool.not_eq_true, memB_two]; simp
theorem leaf_ids {x : SV} (hl : x.leaf = true) {g : SV -> SV} {K : List Nat} (h0 : g .junk = .junk) (h1 : g .und = .und) (h2 : ∀ d, g (.d d) = .d d)
    (h3 : ∀ i o, memB i K = false -> g (.ref i o) = .ref i o) (h4 : ∀ i, memB i K = false -> g (.own i) = .own i) (h5 : ∀ i o, memB i K = false -> g (.elt i o) = .elt i o) (h6 : ∀ i o, memB i K = false -> g (.sub i o) = .sub i o)
    (hx : ∀ i, x.idOf = some i -> memB i K = false) : g x = x := by
  cases x with
  | junk => exact h0
  | und => exact h1
  | d x => exact h2 x
  | ref i o => exact h3 i o (hx i rfl)
  | own i => exact h4 i (hx i rfl)
  | elt i o => exact h5 i o (hx i rfl)
  | sub i o => exact h6 i o (hx i rfl)
  | agg => cases hl
  | tup => cases hl
  | fn => cases hl
  | cel => cases hl
def gBack (id i j : Nat) : SV -> SV
  | .own k => match Nat.beq k j with
    | true => .sub id i
    | false => .own k
  | .elt k n => match Nat.beq k j with
    | true => .junk
    | false => .elt k n
  | .sub k n => match Nat.beq k j with
    | true => .junk
    | false => .sub k n
  | .ref k n => match Nat.beq k j with
    | true => .junk
    | false => .ref k n
  | x => x
theorem R_back {a : Act} {w : World} {id i j e e' sz e2 sz2 : Nat} {xss : List (List D)} {xs ys : List D} (hr : R cx (lk s) h a w) (hg : h.get id = some (.rows e e' sz xss (some (i, .own j)))) (hgj : h.get j = some (.arr e2 sz2 ys)) (he : Nat.beq e2 e' = true) (hsz : Nat.beq sz2 sz = true)
    (hne : Nat.beq j id = false) (hmv : (Nat.blt j 10000 || (!isMov j && !isMov id && Nat.ble 10000 id)) = true) (hx : xss[i]? = some xs) (hl : ys.length = xs.length) :
    R cx (lk (mapS (SV.lm (gBack id i j)) s)) ((id, .rows e e' sz (xss.set i ys) none) :: keepH (SV.lm (gBack id i j)) [id, j] h) a w := by
  obtain ⟨σ, hr⟩ := hr
  have he' := Nat.eq_of_beq_eq_true he
  have hsz' := Nat.eq_of_beq_eq_true hsz
  subst he' hsz'
  have hyl := hl
  obtain ⟨⟨p0, hp0, hp1, hp2⟩, hnd, hrep⟩ := chunk_rows hr hg
  obtain ⟨k0, k1, ⟨cl, k2, k3⟩, k4, k5⟩ := And.intro trivial hrep |>.2
  obtain ⟨pj, hpj, hpj1, hpj2⟩ := get_mem hgj
  have hcj := hr.heap.rep pj hpj
  rw [hpj1, hpj2] at hcj
  have hcj' : RepArr (okf cx σ h) w (σ j) e2 sz2 ys := hcj
  have hne' := Nat.ne_of_beq_eq_false hne
  have hil : i < xss.length := by
    rcases Nat.lt_or_ge i xss.length with hh | hh
    . exact hh
    . simp [hh] at hx
  have hq : (σ id).kids[i]? = some (σ id).kids[i] := List.getElem?_eq_getElem (by omega)
  generalize (σ id).kids[i] = q at hq
  have hnil : (σ id).nil = false := by
    cases hn : (σ id).nil with
    | false => rfl
    | true => have := rows_nil k2 hn; omega
  have hlink := k5 (i, .own j) rfl q xs hq hx
  simp only [RepSV, hgj] at hlink
  rw [hl] at hlink
  obtain ⟨l1, l2⟩ := sliceAt_inj hlink
  have hloc : ∀ n, sliceAt (kidLoc q) n = sliceAt (σ j) n := fun n => sliceAt_congr l1 (fun hn => ⟨(l2 hn).1, (l2 hn).2.2⟩) n
  have hblkj : ∀ b, b ∈ blk (kidLoc q) (.arr e2 sz2 ys) -> b ∈ blk (σ j) (.arr e2 sz2 ys) := fun b hb => by
    unfold blk at hb ⊢
    rw [<- l1]
    cases hn : (kidLoc q).nil with
    | true => simp [hn] at hb
    | false => simp [hn] at hb ⊢; rw [hb]; exact (l2 hn).1
  have hmemb : ∀ b, b ∈ blk (σ id) (.rows e e2 sz2 (xss.set i ys) none) -> b ∈ blk (σ id) (.rows e e2 sz2 xss (some (i, .own j))) \/ b ∈ blk (σ j) (.arr e2 sz2 ys) := fun b hb => by
    simp only [blk, hnil, hat] at hb
    rcases List.mem_cons.1 hb with hb | hb
    . left; simp only [blk, hnil, hat]; rw [hb]; exact List.mem_cons_self ..
    . obtain ⟨m, p, m1, m2, m3, m4⟩ := mem_kidBlk.1 hb
      by_cases hm : m = i
      . subst hm
        rw [hq] at m1
        cases m1
        right
        exact hblkj b (by unfold blk kidLoc; simp [m2, m4])
      . left
        simp only [blk, hnil, hat]
        exact List.mem_cons_of_mem _ (mem_kidBlk.2 ⟨m, p, m1, m2, by simp; omega, m4⟩)
  have hdis : ∀ b, b ∈ blk (σ id) (.rows e e2 sz2 xss (some (i, .own j))) -> b ∈ blk (σ j) (.arr e2 sz2 ys) -> False := fun b hb hb' => by
    have := hr.heap.inj p0 hp0 pj hpj b (by rw [hp1, hp2]; exact hb) (by rw [hpj1, hpj2]; exact hb')
    rw [hp1, hpj1] at this
    exact hne' this.symm
  have hkid : ∀ m p, (σ id).kids[m]? = some p -> p.2.2 = false -> (m ≠ i -> p.1 ∈ blk (σ id) (.rows e e2 sz2 xss (some (i, .own j)))) /\ (m = i -> p.1 ∈ blk (σ j) (.arr e2 sz2 ys)) := fun m p m1 m2 => by
    refine ⟨fun hm => kid_blk hnil m1 m2 (by simp [hat]; omega), fun hm => ?_⟩
    subst hm
    rw [hq] at m1
    cases m1
    exact hblkj _ (by unfold blk kidLoc; simp [m2])
  refine ⟨σ, ?_⟩
  rw [lk_lm rfl]
  let N : Heap := [(id, .rows e e2 sz2 (xss.set i ys) none)]
  have gid : ((N ++ keepH (SV.lm (gBack id i j)) [id, j] h : Heap)).get id = some (.rows e e2 sz2 (xss.set i ys) none) := by simp [N, Heap.get]
  have hlens : (xss.set i ys).length = xss.length := by simp
  have hget : ∀ (m : Nat) (zs : List D), (xss.set i ys)[m]? = some zs -> ∃ us : List D, xss[m]? = some us /\ us.length = zs.length := fun m zs hm => by
    by_cases e1 : i = m
    . subst e1
      rw [List.getElem?_set_self hil] at hm
      cases hm
      exact ⟨xs, hx, hl.symm⟩
    . rw [List.getElem?_set_ne e1] at hm
      exact ⟨zs, hm, rfl⟩
  refine hr.upd (σ' := σ) (w' := w) [id, j] N (SV.lm (gBack id i j)) (fun p hp => by simp [N] at hp; subst hp; simp [memB]) (by simp [N]) (fun _ _ => rfl) rfl rfl rfl (Nat.le_refl _) (fun _ _ _ => rfl)
    (fun p hp => ?_) (fun p hp p' hp' b hb hb' => by simp [N] at hp hp'; subst hp hp'; rfl) (fun p hp b hb => ?_) (fun p hp ha => ?_) (fun hok v sv hv => RepSV.lm (leaf_upd (K := [id, j]) hok (fun _ _ => rfl) (simO_keep (fun p hp => by simp [N] at hp; subst hp; simp [memB])) (fun x hl hx => ?_) (fun x v m hl hm hK hv => ?_)) hv) (fun hok p hp => ?_)
  . simp [N] at hp; subst hp
    simp only [blk, hnil, hat, List.nodup_cons] at hnd ⊢
    refine ⟨fun hm => ?_, ?_⟩
    . obtain ⟨m, p, m1, m2, m3, m4⟩ := mem_kidBlk.1 hm
      obtain ⟨h1, h2⟩ := hkid m p m1 m2
      by_cases hmi : m = i
      . refine hdis (σ id).b (by simp only [blk, hnil, hat]; exact List.mem_cons_self ..) ?_
        rw [<- m4]; exact h2 hmi
      . exact hnd.1 (mem_kidBlk.2 ⟨m, p, m1, m2, by simp; omega, m4⟩)
    . refine kidBlk_nodup.2 fun m n p p' m1 n1 m2 n2 _ _ me => ?_
      by_cases hmi : m = i <;> by_cases hni : n = i
      . omega
      . exact (hdis _ ((hkid n p' n1 n2).1 hni) (by rw [<- me]; exact (hkid m p m1 m2).2 hmi)).elim
      . exact (hdis _ ((hkid m p m1 m2).1 hmi) (by rw [me]; exact (hkid n p' n1 n2).2 hni)).elim
      . exact kidBlk_nodup.1 hnd.2 m n p p' m1 n1 m2 n2 (by simp; omega) (by simp; omega) me
  . simp [N] at hp; subst hp
    rcases hmemb b hb with hb | hb
    . have hb' : b ∈ blk (σ p0.1) p0.2 := by rw [hp1, hp2]; exact hb
      exact ⟨(hr.heap.mine p0 hp0 b hb').2.2, .inr ⟨p0, hp0, by rw [hp1]; simp [memB], hb', .inr (.inl hp1)⟩⟩
    . have hb' : b ∈ blk (σ pj.1) pj.2 := by rw [hpj1, hpj2]; exact hb
      refine ⟨(hr.heap.mine pj hpj b hb').2.2, .inr ⟨pj, hpj, by rw [hpj1]; exact memB_iff.2 (by simp), hb', ?_⟩⟩
      rw [hpj1]
      simp only [Bool.or_eq_true, Bool.and_eq_true, Bool.not_eq_true'] at hmv
      rcases hmv with hmv | ⟨⟨hmv1, hmv2⟩, hmv3⟩
      . exact .inl (Nat.le_of_ble_eq_true hmv)
      . exact .inr (.inr ⟨hmv1, hmv2, Nat.le_of_ble_eq_true hmv3⟩)
  . simp [N] at hp; subst hp
    have := hr.heap.anc p0 hp0 (by rw [hp1]; exact ha)
    rwa [hp1] at this
  . refine leaf_ids (K := [id, j]) hl rfl rfl (fun _ => rfl) (fun i o hi => ?_) (fun i hi => ?_) (fun i o hi => ?_) (fun i o hi => ?_) hx
    all_goals
      obtain ⟨e1, e2⟩ := memB_twoF.1 hi
      simp only [gBack, beqF e2]
  . by_cases hmj : m = j
    . subst hmj
      cases x <;> simp only [SV.idOf, Option.some.injEq, reduceCtorEq] at hm <;> (replace hm := hm.symm; subst hm)
      case own =>
        simp only [gBack, Nat.beq_refl, RepSV, hgj, gid] at hv ⊢
        exact ⟨q, ys, hq, List.getElem?_set_self hil, by rw [hv, hloc]⟩
      all_goals simp only [gBack, Nat.beq_refl, RepSV]
    . have hmi : m = id := by rcases memB_two.1 hK with h | h <;> first | exact h | exact absurd h hmj
      subst hmi
      cases x <;> simp only [SV.idOf, Option.some.injEq, reduceCtorEq] at hm <;> (replace hm := hm.symm; subst hm)
      case ref o =>
        simp only [gBack, beqF hmj, RepSV] at hv ⊢
        exact hv
      case own =>
        simp only [gBack, beqF hmj, RepSV, hg, gid, hlens] at hv ⊢
        exact hv
      case elt o =>
        simp only [gBack, beqF hmj, RepSV, hg, gid] at hv ⊢
        exact hv
      case sub o =>
        simp only [gBack, beqF hmj, RepSV, hg, gid] at hv ⊢
        obtain ⟨q', us, h1, h2, h3⟩ := hv
        by_cases ho : i = o
        . subst ho
          rw [hx] at h2
          cases h2
          exact ⟨q', ys, h1, List.getElem?_set_self hil, by rw [h3, hyl]⟩
        . exact ⟨q', us, h1, by rw [List.getElem?_set_ne ho]; exact h2, h3⟩
  . simp [N] at hp; subst hp
    refine ⟨k0, by simpa using k1, ⟨cl, by simpa using k2, fun m q' zs h1 h2 => ?_⟩, fun m q' zs h1 h2 _ => ?_, by simp⟩
    . obtain ⟨us, u1, u2⟩ := hget m zs h2
      obtain ⟨v1, v2⟩ := k3 m q' us h1 u1
      rw [<- u2]
      exact ⟨v1, fun hn => by
        have := v2 hn
        subst this
        exact List.eq_nil_of_length_eq_zero u2.symm⟩
    . by_cases e1 : i = m
      . subst e1
        rw [List.getElem?_set_self hil] at h2
        cases h2
        rw [hq] at h1
        cases h1
        obtain ⟨c0, cl', c1, c2⟩ := hcj'
        rw [<- hloc] at c1
        exact RepArr.mono ⟨c0, cl', c1, c2⟩ hok fun _ => rfl
      . rw [List.getElem?_set_ne e1] at h2
        exact (k4 m q' zs h1 h2 (by simp [hat]; omega)).mono hok fun _ => rfl
theorem awp_back {c : Code} (id j : Nat) {i e e' sz e2 sz2 : Nat} {xss : List (List D)} {xs ys : List D} (hg : h.get id = some (.rows e e' sz xss (some (i, .own j)))) (hgj : h.get j = some (.arr e2 sz2 ys)) (he : Nat.beq e2 e' = true) (hsz : Nat.beq sz2 sz = true)
    (hne : Nat.beq j id = false) (hmv : (Nat.blt j 10000 || (!isMov j && !isMov id && Nat.ble 10000 id)) = true) (hx : xss[i]? = some xs) (hl : ys.length = xs.length)
    (hn : awp cx c (mapS (SV.lm (gBack id i j)) s) ((id, .rows e e' sz (xss.set i ys) none) :: keepH (SV.lm (gBack id i j)) [id, j] h) Q) : awp cx c s h Q := fun a w hr => hn a w (R_back hr hg hgj he hsz hne hmv hx hl)
def gPut (id i j : Nat) : SV -> SV
  | .own k => match Nat.beq k j with
    | true => .sub id i
    | false => .own k
  | .elt k n => match Nat.beq k j with
    | true => .junk
    | false => .elt k n
  | .sub k n => match Nat.beq k j with
    | true => .junk
    | false => match Nat.beq k id with
      | true => .junk
      | false => .sub k n
  | .ref k n => match Nat.beq k j with
    | true => .junk
    | false => .ref k n
  | x => x
theorem wo_storeRow {T : Nat} {x y : Operand} {tr : TR} {id i j e e' sz e2 sz2 : Nat} {xss : List (List D)} {xs : List D} (hx : opv (lk s) x = .elt id i) (hg : h.get id = some (.rows e e' sz xss none)) (hy : opv (lk s) y = .own j) (hgj : h.get j = some (.arr e2 sz2 xs)) (ht : tget cx.T T = some tr)
    (hts : Nat.beq tr.size 1 = true) (he : Nat.beq e2 e' = true) (hsz : Nat.beq sz2 sz = true) (hne : Nat.beq j id = false) (hia : isAnc id = false) (hj : Nat.blt j 10000 = true) (hi : i < xss.length) :
    OpTo cx ⟨none, .store T x y, ty, pos, af, none⟩ s h (mapS (SV.lm (gPut id i j)) s) ((id, .rows e e' sz (xss.set i xs) none) :: keepH (SV.lm (gPut id i j)) [id, j] h) := by
  rintro a w ⟨σ, hr⟩ Kk Qq hK
  have he' := Nat.eq_of_beq_eq_true he
  have hsz' := Nat.eq_of_beq_eq_true hsz
  subst he' hsz'
  have hj' : j < 10000 := Nat.le_of_ble_eq_true hj
  obtain ⟨⟨p0, hp0, hp1, hp2⟩, hnd, hrep⟩ := chunk_rows hr hg
  obtain ⟨k0, k1, ⟨cl, k2, k3⟩, k4, _⟩ := And.intro trivial hrep |>.2
  obtain ⟨pj, hpj, hpj1, hpj2⟩ := get_mem hgj
  have hcj := hr.heap.rep pj hpj
  rw [hpj1, hpj2] at hcj
  have hcj' : RepArr (okf cx σ h) w (σ j) e2 sz2 xs := hcj
  have hne' := Nat.ne_of_beq_eq_false hne
  have hnil : (σ id).nil = false := by
    cases hn : (σ id).nil with
    | false => rfl
    | true => have := rows_nil k2 hn; omega
  have hu := rep_eval hr x
  rw [hx] at hu
  simp only [RepSV, hg] at hu
  have hv := rep_eval hr y
  rw [hy] at hv
  simp only [RepSV, hgj] at hv
  obtain ⟨d, ii, hdd, hii, _, hisz, _⟩ := tr_facts (tget_ok cx.tab ht)
  have hts' := Nat.eq_of_beq_eq_true hts
  let q : Nat × Nat × Bool := ((σ j).b, (σ j).cap, (σ j).nil)
  let l' : Loc := ⟨(σ id).b, (σ id).cap, (σ id).nil, (σ id).kids.set i q⟩
  have hkq : ∀ n, sliceAt (kidLoc q) n = sliceAt (σ j) n := fun n => rfl
  obtain ⟨o1, o2⟩ := k2
  rcases o2 with ⟨_, o2⟩ | ⟨g, cap, cur, q1, _, q3, q4, q5, q6, q7⟩
  . omega
  have hgb : g = (σ id).b /\ cap = (σ id).cap := by
    unfold sliceAt at q1
    rw [if_neg (by simp [hnil])] at q1
    cases q1
    exact ⟨rfl, rfl⟩
  obtain ⟨rfl, rfl⟩ := hgb
  have hic : i < cur.size := by omega
  have run : (execOp a.eval ⟨none, .store T x y, ty, pos, af, none⟩).run cx.P w = .ok .skip (w.setCell ⟨(σ id).b, i, none⟩ (a.eval y)) := by
    have hs : (storeVar T ⟨(σ id).b, i, none⟩ (a.eval y)).run cx.P w = .ok () (w.setCell ⟨(σ id).b, i, none⟩ (a.eval y)) := by
      unfold storeVar
      rw [hv, (slice_one _ _).2]
      have hcell : w.cell? ⟨(σ id).b, i, none⟩ = some cur[i] := by rw [cell_at q3, Array.getElem?_eq_getElem hic]
      have hfr : w.frozen? ⟨(σ id).b, i, none⟩ = false := by simp [World.frozen?, q3]
      simp [sizeOf, typeInfo, hii, hisz, hts', storeCells, add_block, run_store _ _ _ _ _ (slice_one _ _).1, hcell, hfr]
    simp [execOp, Instr.storeAt, Instr.sureAddr, hu, hs]
  unfold Oper.wp
  rw [run]
  refine hK _ _ ?_
  have hb0 : ∀ b, b ∉ blk (σ id) (.rows e e2 sz2 xss none) -> (w.setCell ⟨(σ id).b, i, none⟩ (a.eval y)).heap[b]? = w.heap[b]? := fun b hb =>
    Below.heap_setCell w _ _ b (fun e1 => hb (by simp only [blk, hnil]; rw [e1]; exact List.mem_cons_self ..))
  have hmemb : ∀ b, b ∈ blk l' (.rows e e2 sz2 (xss.set i xs) none) -> b ∈ blk (σ id) (.rows e e2 sz2 xss none) \/ b ∈ blk (σ j) (.arr e2 sz2 xs) := fun b hb => by
    simp only [blk, l', hnil, hat] at hb
    rcases List.mem_cons.1 hb with hb | hb
    . left; simp only [blk, hnil, hat]; rw [hb]; exact List.mem_cons_self ..
    . rcases kidBlk_set hb with hb | ⟨hq, hb⟩
      . left; simp only [blk, hnil, hat]; exact List.mem_cons_of_mem _ hb
      . right
        simp only [q] at hq hb
        simp [blk, hq, hb]
  have hdis : ∀ b, b ∈ blk (σ id) (.rows e e2 sz2 xss none) -> b ∈ blk (σ j) (.arr e2 sz2 xs) -> False := fun b hb hb' => by
    have := hr.heap.inj p0 hp0 pj hpj b (by rw [hp1, hp2]; exact hb) (by rw [hpj1, hpj2]; exact hb')
    rw [hp1, hpj1] at this
    exact hne' this.symm
  have hkid : ∀ m p, ((σ id).kids.set i q)[m]? = some p -> p.2.2 = false -> (m ≠ i -> (σ id).kids[m]? = some p /\ p.1 ∈ blk (σ id) (.rows e e2 sz2 xss none)) /\ (m = i -> p.1 ∈ blk (σ j) (.arr e2 sz2 xs)) := fun m p m1 m2 => by
    refine ⟨fun hm => ?_, fun hm => ?_⟩
    . rw [List.getElem?_set_ne (Ne.symm hm)] at m1
      exact ⟨m1, kid_blk hnil m1 m2 (by simp [hat])⟩
    . subst hm
      rw [List.getElem?_set_self (by omega)] at m1
      cases m1
      simp only [q] at m2
      simp [blk, m2, q]
  refine ⟨setσ σ id l', ?_⟩
  rw [lk_lm rfl]
  let N : Heap := [(id, .rows e e2 sz2 (xss.set i xs) none)]
  have gid : ((N ++ keepH (SV.lm (gPut id i j)) [id, j] h : Heap)).get id = some (.rows e e2 sz2 (xss.set i xs) none) := by simp [N, Heap.get]
  have hlens : (xss.set i xs).length = xss.length := by simp
  refine hr.upd (σ' := setσ σ id l') (w' := w.setCell ⟨(σ id).b, i, none⟩ (a.eval y)) [id, j] N (SV.lm (gPut id i j)) (fun p hp => by simp [N] at hp; subst hp; simp [memB]) (by simp [N]) (fun m hm => setσ_ne (memB_twoF.1 hm).1) rfl rfl rfl (by simp)
    (fun b _ hno => hb0 b (by have := hno p0 hp0 (by rw [hp1]; simp [memB]); rwa [hp1, hp2] at this))
    (fun p hp => ?_) (fun p hp p' hp' b hb hb' => by simp [N] at hp hp'; subst hp hp'; rfl) (fun p hp b hb => ?_) (fun p hp ha => by simp [N] at hp; subst hp; rw [hia] at ha; cases ha) (fun hok v sv hv => RepSV.lm (leaf_upd (K := [id, j]) hok (fun m hm => setσ_ne (memB_twoF.1 hm).1) (simO_keep (fun p hp => by simp [N] at hp; subst hp; simp [memB])) (fun x hl hx => ?_) (fun x v m hl hm hK hv => ?_)) hv) (fun hok p hp => ?_)
  . simp [N] at hp; subst hp
    simp only [setσ_self, blk, l', hnil, hat, List.nodup_cons] at hnd ⊢
    refine ⟨fun hm => ?_, ?_⟩
    . obtain ⟨m, p, m1, m2, m3, m4⟩ := mem_kidBlk.1 hm
      obtain ⟨h1, h2⟩ := hkid m p m1 m2
      by_cases hmi : m = i
      . refine hdis (σ id).b (by simp only [blk, hnil, hat]; exact List.mem_cons_self ..) ?_
        rw [<- m4]; exact h2 hmi
      . exact hnd.1 (mem_kidBlk.2 ⟨m, p, (h1 hmi).1, m2, by simp, m4⟩)
    . refine kidBlk_nodup.2 fun m n p p' m1 n1 m2 n2 _ _ me => ?_
      by_cases hmi : m = i <;> by_cases hni : n = i
      . omega
      . exact (hdis _ ((hkid n p' n1 n2).1 hni).2 (by rw [<- me]; exact (hkid m p m1 m2).2 hmi)).elim
      . exact (hdis _ ((hkid m p m1 m2).1 hmi).2 (by rw [me]; exact (hkid n p' n1 n2).2 hni)).elim
      . exact kidBlk_nodup.1 hnd.2 m n p p' ((hkid m p m1 m2).1 hmi).1 ((hkid n p' n1 n2).1 hni).1 m2 n2 (by simp) (by simp) me
  . simp [N] at hp; subst hp
    simp only [setσ_self] at hb
    have hsz0 : (w.setCell ⟨(σ p0.1).b, i, none⟩ (a.eval y)).heap.size = w.heap.size := by simp
    rw [hp1] at hsz0
    rcases hmemb b hb with hb | hb
    . have hb' : b ∈ blk (σ p0.1) p0.2 := by rw [hp1, hp2]; exact hb
      exact ⟨by rw [hsz0]; exact (hr.heap.mine p0 hp0 b hb').2.2, .inr ⟨p0, hp0, by rw [hp1]; simp [memB], hb', .inr (.inl hp1)⟩⟩
    . have hb' : b ∈ blk (σ pj.1) pj.2 := by rw [hpj1, hpj2]; exact hb
      exact ⟨by rw [hsz0]; exact (hr.heap.mine pj hpj b hb').2.2, .inr ⟨pj, hpj, by rw [hpj1]; exact memB_iff.2 (by simp), hb', .inl (by rw [hpj1]; exact hj')⟩⟩
  . refine leaf_ids (K := [id, j]) hl rfl rfl (fun _ => rfl) (fun i o hi => ?_) (fun i hi => ?_) (fun i o hi => ?_) (fun i o hi => ?_) hx
    all_goals
      obtain ⟨e1, e2⟩ := memB_twoF.1 hi
      simp only [gPut, beqF e2, beqF e1]
  . by_cases hmj : m = j
    . subst hmj
      cases x <;> simp only [SV.idOf, Option.some.injEq, reduceCtorEq] at hm <;> (replace hm := hm.symm; subst hm)
      case own =>
        simp only [gPut, Nat.beq_refl, RepSV, hgj, gid, setσ_self] at hv ⊢
        exact ⟨q, xs, List.getElem?_set_self (by omega), List.getElem?_set_self hi, by rw [hv, hkq]⟩
      all_goals simp only [gPut, Nat.beq_refl, RepSV]
    . have hmi : m = id := by rcases memB_two.1 hK with h | h <;> first | exact h | exact absurd h hmj
      subst hmi
      cases x <;> simp only [SV.idOf, Option.some.injEq, reduceCtorEq] at hm <;> (replace hm := hm.symm; subst hm)
      case ref o =>
        simp only [gPut, beqF hmj, RepSV, setσ_self] at hv ⊢
        exact hv
      case own =>
        simp only [gPut, beqF hmj, RepSV, hg, gid, hlens, setσ_self] at hv ⊢
        exact hv
      case elt o =>
        simp only [gPut, beqF hmj, RepSV, hg, gid, setσ_self] at hv ⊢
        exact hv
      case sub o => simp only [gPut, beqF hmj, Nat.beq_refl, RepSV]
  . simp [N] at hp; subst hp
    simp only [setσ_self]
    have hcl : cl.length = xss.length := by simpa using o1
    refine ⟨k0, by simp only [l']; rw [List.length_set, List.length_set]; exact k1, ⟨cl.set i (a.eval y), ⟨by simpa using o1, .inr ⟨(σ id).b, (σ id).cap, cur.setIfInBounds i (a.eval y), by simp [sliceAt, l', hnil], Nat.zero_le _, ?_, by simpa using q4, q5, by simpa using q6, ?_⟩⟩, fun m q' zs h1 h2 => ?_⟩, fun m q' zs h1 h2 _ => ?_, by simp⟩
    . simp [World.setCell, Array.getElem?_modify, q3]
    . rw [<- q7]
      apply List.ext_getElem?
      intro m
      rw [List.getElem?_take, List.getElem?_set]
      simp only [List.length_set, Nat.mul_one, Array.getElem?_toList, List.length_take, Array.length_toList]
      by_cases hm : i = m
      . subst hm
        rw [if_pos hi, Array.getElem?_setIfInBounds_self_of_lt hic, if_pos rfl, if_pos (by omega)]
      . rw [if_neg hm, List.getElem?_take, Array.getElem?_setIfInBounds_ne hm]
        simp
    . simp only [l'] at h1
      by_cases e1 : i = m
      . subst e1
        rw [List.getElem?_set_self (by omega)] at h1
        rw [List.getElem?_set_self hi] at h2
        cases h1
        cases h2
        rw [List.getElem?_set_self (by omega), hv, hkq]
        refine ⟨rfl, fun hn => ?_⟩
        obtain ⟨_, cl', ho', _⟩ := hcj'
        rcases ho'.2 with ⟨_, h⟩ | ⟨_, _, _, h, _⟩
        . exact List.eq_nil_of_length_eq_zero h
        . simp only [q] at hn
          simp [sliceAt, hn] at h
      . rw [List.getElem?_set_ne e1] at h1 h2 ⊢
        exact k3 m q' zs h1 h2
    . simp only [l'] at h1
      by_cases e1 : i = m
      . subst e1
        rw [List.getElem?_set_self (by omega)] at h1
        rw [List.getElem?_set_self hi] at h2
        cases h1
        cases h2
        exact hcj'.mono hok fun hn => hb0 _ fun hb => hdis _ hb (by have hn' : (σ j).nil = false := hn; show (σ j).b ∈ _; simp [blk, hn'])
      . rw [List.getElem?_set_ne e1] at h1 h2
        exact (k4 m q' zs h1 h2 (by simp [hat])).mono hok fun hn => by
          refine Below.heap_setCell w _ _ _ fun e2 => ?_
          simp only [blk, hnil, hat, List.nodup_cons] at hnd
          exact hnd.1 (mem_kidBlk.2 ⟨m, q', h1, hn, by simp, e2⟩)
end
end Go.Proofs.YtckpadnjldebaaaGreat
namespace Go.Proofs.YtckpadnjldebaaaGreat
open Go
open Go.RowKit (Below)
set_option linter.unusedVariables false
set_option linter.unusedSimpArgs false
theorem id_of {p : Prop} (h : p) : p := h
section
variable {cx : Cx} {ops : Array Oper} {rest : List Oper} {s : Slots} {h : Heap} {Q : Exit -> Slots -> Heap -> Prop} {K : Slots -> Prop} {dst : Option Nat} {t ty : Nat} {pos : String} {af : Array Edge} {gd : Option (Nat × Bool)}
def gLit (t j : Nat) : SV -> SV
  | .own k => match Nat.beq k j with
    | true => .sub t 0
    | false => match Nat.beq k t with
      | true => .junk
      | false => .own k
  | .elt k n => match Nat.beq k j with
    | true => .junk
    | false => match Nat.beq k t with
      | true => .junk
      | false => .elt k n
  | .sub k n => match Nat.beq k j with
    | true => .junk
    | false => match Nat.beq k t with
      | true => .junk
      | false => .sub k n
  | .ref k n => match Nat.beq k j with
    | true => .junk
    | false => match Nat.beq k t with
      | true => .junk
      | false => .ref k n
  | x => x
theorem wo_litRow {T : Nat} {y : Operand} {ts te : TR} {j e2 sz2 : Nat} {xs : List D} (hy : opv (lk s) y = .own j) (hgj : h.get j = some (.arr e2 sz2 xs)) (ht : tget cx.T T = some ts) (hsl : ts.isSl = true) (hte : tget cx.T ts.elem = some te) (hd : Nat.blt t cx.nt = true)
    (hts : Nat.beq te.size 1 = true) (hz1 : (te.agg || Nat.beq te.zero.length 1) = true) (hz2 : Nat.beq te.zero.length te.size = true) (hne : Nat.beq j t = false) (hj : Nat.blt j 10000 = true) :
    OpTo cx ⟨some t, .buildSlice T 1 #[(0, y)], ty, pos, af, none⟩ s h ((t, .own t) :: mapS (SV.lm (gLit t j)) s) ((t, .rows ts.elem e2 sz2 [xs] none) :: keepH (SV.lm (gLit t j)) [t, j] h) := by
  rintro a w ⟨σ, hr⟩ Kk Qq hK
  have hj' : j < 10000 := Nat.le_of_ble_eq_true hj
  have hne' := Nat.ne_of_beq_eq_false hne
  obtain ⟨pj, hpj, hpj1, hpj2⟩ := get_mem hgj
  have hcj := hr.heap.rep pj hpj
  rw [hpj1, hpj2] at hcj
  have hcj' : RepArr (okf cx σ h) w (σ j) e2 sz2 xs := hcj
  have hv := rep_eval hr y
  rw [hy] at hv
  simp only [RepSV, hgj] at hv
  have hts' := Nat.eq_of_beq_eq_true hts
  have hrep0 : RepD (fun _ => True) w (a.eval y) (.lst xs) := by rw [hv]; exact own_rep hcj' (fun _ _ => trivial) fun _ => trivial
  obtain ⟨out, r1, r2, r3, r4⟩ := lit_run (P := cx.P) (tget_ok cx.tab ht) hsl (tget_ok cx.tab hte) hz1 hz2 (by rw [hts']; rfl) (ok := fun _ => True) (w := w) (n := 1) (parts := [(0, a.eval y)]) (ys := [.lst xs]) rfl rfl
    (fun i p hp => by
      cases i with
      | zero => simp at hp; subst hp; exact ⟨rfl, _, rfl, hrep0⟩
      | succ i => simp at hp) (fun z hz => by simp at hz; subst hz; exact ⟨rfl, by rw [hts']; rfl⟩) (by rw [hts']; omega)
  have run : (execOp a.eval ⟨some t, .buildSlice T 1 #[(0, y)], ty, pos, af, none⟩).run cx.P w = .ok (.value (.slice (some ⟨w.heap.size, 0, none⟩) 1 1)) (w.alloc (.cells out ts.elem)) := by
    simp only [execOp, List.map_toArray, List.map_cons, List.map_nil, Sem.run_bind, r1, Result.andThen_ok, Sem.run_pure]
  have hcell : out[0]? = some (a.eval y) := by
    have := r4 0 _ rfl 0 (by omega)
    simp only [Nat.zero_mul, Nat.add_zero] at this
    rw [this, hv, (slice_one _ _).2]
    rfl
  let l' : Loc := ⟨w.heap.size, 1, false, [((σ j).b, (σ j).cap, (σ j).nil)]⟩
  have hkq : ∀ n, sliceAt (kidLoc ((σ j).b, (σ j).cap, (σ j).nil)) n = sliceAt (σ j) n := fun n => rfl
  let N : Heap := [(t, .rows ts.elem e2 sz2 [xs] none)]
  have gid : ((N ++ keepH (SV.lm (gLit t j)) [t, j] h : Heap)).get t = some (.rows ts.elem e2 sz2 [xs] none) := by simp [N, Heap.get]
  have hB : Below w.heap.size w (w.alloc (.cells out ts.elem)) := (Below.refl _ _).alloc (Nat.le_refl _) _
  have hbj : ∀ b, b ∈ blk l' (.rows ts.elem e2 sz2 [xs] none) -> b = w.heap.size \/ b ∈ blk (σ j) (.arr e2 sz2 xs) := fun b hb => by
    simp only [blk, l', hat] at hb
    rcases List.mem_cons.1 hb with hb | hb
    . exact .inl hb
    . obtain ⟨m, p, m1, m2, m3, m4⟩ := mem_kidBlk.1 hb
      cases m with
      | zero => simp at m1; subst m1; right; simp at m2 m4; simp [blk, m2, m4]
      | succ m => simp at m1
  have hRW := hr.upd (σ' := setσ σ t l') (w' := w.alloc (.cells out ts.elem)) [t, j] N (SV.lm (gLit t j)) (fun p hp => by simp [N] at hp; subst hp; simp [memB]) (by simp [N]) (fun m hm => setσ_ne (memB_twoF.1 hm).1) rfl rfl rfl (by simp)
    (fun b hb _ => hB.block b hb)
    (fun p hp => by
      simp [N] at hp; subst hp
      simp only [setσ_self, blk, l', hat, List.nodup_cons]
      refine ⟨fun hm => ?_, ?_⟩
      . obtain ⟨m, p, m1, m2, m3, m4⟩ := mem_kidBlk.1 hm
        cases m with
        | zero =>
          simp at m1; subst m1
          simp at m2 m4
          have := (hr.heap.mine pj hpj (σ j).b (by rw [hpj1, hpj2]; simp [blk, m2])).2.2
          omega
        | succ m => simp at m1
      . refine kidBlk_nodup.2 fun m n p p' m1 n1 _ _ _ _ _ => ?_
        cases m with
        | zero => cases n with
          | zero => rfl
          | succ n => simp at n1
        | succ m => simp at m1)
    (fun p hp p' hp' b hb hb' => by simp [N] at hp hp'; subst hp hp'; rfl)
    (fun p hp b hb => by
      simp [N] at hp; subst hp
      simp only [setσ_self] at hb
      rcases hbj b hb with hb | hb
      . subst hb; exact ⟨by simp, .inl (Nat.le_refl _)⟩
      . have hb' : b ∈ blk (σ pj.1) pj.2 := by rw [hpj1, hpj2]; exact hb
        exact ⟨Nat.lt_of_lt_of_le (hr.heap.mine pj hpj b hb').2.2 (by simp), .inr ⟨pj, hpj, by rw [hpj1]; exact memB_iff.2 (by simp), hb', .inl (by rw [hpj1]; exact hj')⟩⟩)
    (fun p hp ha => by simp [N] at hp; subst hp; rw [(anc_slot hd).1] at ha; cases ha)
    (fun hok v sv hv => RepSV.lm (leaf_upd (K := [t, j]) hok (fun m hm => setσ_ne (memB_twoF.1 hm).1) (simO_keep (fun p hp => by simp [N] at hp; subst hp; simp [memB]))
      (fun x hl hx => by
        refine leaf_ids (K := [t, j]) hl rfl rfl (fun _ => rfl) (fun i o hi => ?_) (fun i hi => ?_) (fun i o hi => ?_) (fun i o hi => ?_) hx
        all_goals
          obtain ⟨e1, e2⟩ := memB_twoF.1 hi
          simp only [gLit, beqF e2, beqF e1])
      (fun x v m hl hm hK hv => by
        by_cases hmj : m = j
        . subst hmj
          cases x <;> simp only [SV.idOf, Option.some.injEq, reduceCtorEq] at hm <;> (replace hm := hm.symm; subst hm)
          case own =>
            simp only [gLit, Nat.beq_refl, RepSV, hgj, gid, setσ_self] at hv ⊢
            exact ⟨_, xs, rfl, rfl, by rw [hv, hkq]⟩
          all_goals simp only [gLit, Nat.beq_refl, RepSV]
        . have hmi : m = t := by rcases memB_two.1 hK with h | h <;> first | exact h | exact absurd h hmj
          subst hmi
          cases x <;> simp only [SV.idOf, Option.some.injEq, reduceCtorEq] at hm <;> (replace hm := hm.symm; subst hm) <;> simp only [gLit, beqF hmj, Nat.beq_refl, RepSV])) hv)
    (fun hok p hp => by
      simp [N] at hp; subst hp
      simp only [setσ_self]
      obtain ⟨c0, cl', c1, c2⟩ := id hcj'
      refine ⟨c0, rfl, ⟨[a.eval y], ⟨rfl, .inr ⟨w.heap.size, 1, out, by simp [sliceAt, l'], Nat.zero_le _, heap_alloc_new w _, Nat.le_refl _, by simp [maxLen], by rw [r2, hts'], ?_⟩⟩, fun m q' zs h1 h2 => ?_⟩, fun m q' zs h1 h2 _ => ?_, by simp⟩
      . apply List.ext_getElem?
        intro m
        rw [List.getElem?_take]
        cases m with
        | zero => simp [hcell]
        | succ m => simp
      . cases m with
        | zero =>
          simp at h2
          subst h2
          have h1' : q' = ((σ j).b, (σ j).cap, (σ j).nil) := by simpa [l'] using h1.symm
          subst h1'
          refine ⟨by simp [hv, hkq], fun hn => ?_⟩
          rcases c1.2 with ⟨_, h⟩ | ⟨_, _, _, h, _⟩
          . exact List.eq_nil_of_length_eq_zero h
          . simp at hn
            simp [sliceAt, hn] at h
        | succ m => simp at h2
      . cases m with
        | zero =>
          simp at h2
          subst h2
          have h1' : q' = ((σ j).b, (σ j).cap, (σ j).nil) := by simpa [l'] using h1.symm
          subst h1'
          exact hcj'.mono hok fun hn => hB.block _ (by
            have hn' : (σ j).nil = false := hn
            exact (hr.heap.mine pj hpj (σ j).b (by rw [hpj1, hpj2]; simp [blk, hn'])).2.2)
        | succ m => simp at h2)
  unfold Oper.wp
  rw [run]
  refine hK _ _ ?_
  have e1 : lk (mapS (SV.lm (gLit t j)) s) = fun u => SV.lm (gLit t j) (lk s u) := lk_lm (g := gLit t j) rfl s
  rw [<- e1] at hRW
  exact put_lay hRW hd (by simp only [RepSV, List.cons_append, List.nil_append, N, Heap.get, if_true, setσ_self]; simp [sliceAt, l'])
theorem append_run {P : Program} {w : World} {T rt e size bytes : Nat} {i : TypeInfo} {z : Value} (hdd : P.underlying T = some (.slice e)) (hi : P.info? e = some i) (hz : i.zero = some z) (hisz : i.size = size) (hiby : i.bytes = bytes) (hcs : z.cells.size = size) (h0 : 0 < size)
    {l0 : Loc} {n : Nat} {cl : List Value} (ho : w.ownsRow 0 e size (sliceAt l0 n) n cl) {ad : Addr} {m c : Nat} {news : List Value} (hnl : news.length = m * size) (hcells : ∀ (j : Nat) u, news[j]? = some u -> w.cell? (ad.add j) = some u) (hone : ∀ u ∈ news, u.oneCell' = true)
    (h63 : n + m <= 9223372036854775807) (hb : (n + m) * bytes <= 140737488355328) :
    ∃ l w', (Builtin.append_ #[T, T] rt #[sliceAt l0 n, .slice (some ad) m c]).run P w = .ok (sliceAt l (n + m)) w' /\ w'.ownsRow 0 e size (sliceAt l (n + m)) (n + m) (cl ++ news) /\
      (l.nil = false -> w.heap.size <= l.b \/ (l0.nil = false /\ l.b = l0.b)) /\ w'.os = w.os /\ w'.tape = w.tape /\ w'.output = w.output /\ w.heap.size <= w'.heap.size /\ ∀ b, b < w.heap.size -> (l0.nil = false -> b ≠ l0.b) -> w'.heap[b]? = w.heap[b]? := by
  obtain ⟨v', w', r1, r2, r3, r4⟩ := run_append_own (P := P) w 0 T rt e i z size bytes hdd hi hz hisz hiby hcs h0 (sliceAt l0 n) n cl ho ad m c news hnl hcells hone (by simp only [maxLen]; omega) hb (Nat.zero_le _)
  have hown : ∀ b, (l0.nil = false -> b ≠ l0.b) -> some b ≠ (sliceAt l0 n).ownBlock := fun b hb e => by
    unfold sliceAt at e
    split at e
    . cases e
    . rename_i hn
      cases e
      exact hb (by simpa using hn) rfl
  have hloc : ∃ l, v' = sliceAt l (n + m) /\ (l.nil = false -> w.heap.size <= l.b \/ (l0.nil = false /\ l.b = l0.b)) := by
    rcases r2.2 with ⟨q1, q2⟩ | ⟨g, cap, cur, q1, _, q3, _⟩
    . exact ⟨⟨0, 0, true, []⟩, by simp [sliceAt, q1], fun h => by cases h⟩
    . by_cases hg1 : w.heap.size <= g
      . exact ⟨⟨g, cap, false, []⟩, by simp [sliceAt, q1], fun _ => .inl hg1⟩
      . have hroom : ∀ a', sliceAt l0 n = .slice (some a') n l0.cap -> n + m <= l0.cap -> v' = .slice (some a') (n + m) l0.cap := fun a' e1 e2 => by
          obtain ⟨_, ho2⟩ := ho
          rcases ho2 with ⟨p1, _⟩ | ⟨g0, cap0, cur0, p1, _, p3, p4, p5, p6, p7⟩
          . rw [p1] at e1; cases e1
          . rw [p1] at e1
            cases e1
            have hfit : n * i.size + news.length <= cur0.size := by
              rw [hnl, hisz, p6, <- Nat.add_mul]; exact Nat.mul_le_mul_right _ e2
            have hr := run_append_room (P := P) w T rt e i hdd hi g0 n l0.cap cur0 p3 ad m c news (by rw [hisz]; exact hnl) hcells hone e2 hfit
            rw [p1] at r1
            rw [hr] at r1
            cases r1
            rfl
        cases hnil : l0.nil with
        | true =>
          have e0 : sliceAt l0 n = .slice none 0 0 := by simp [sliceAt, hnil]
          have hn0 : n = 0 := by
            rcases ho.2 with ⟨_, p2⟩ | ⟨_, _, _, p1, _⟩
            . exact p2
            . rw [e0] at p1; cases p1
          subst hn0
          by_cases hy0 : m = 0
          . have := r4.2 ⟨e0, hy0⟩
            rw [q1] at this
            cases this
          . have hr := run_append_nil (P := P) w T rt e i z hdd hi hz ad m c news (by rw [hisz]; exact hnl) hcells (by omega) (by omega) (by rw [hiby]; simp at hb; omega)
            rw [e0, hr] at r1
            have e1 := (Result.ok.inj r1).1
            rw [q1] at e1
            simp at e1
            all_goals omega
        | false =>
          have e0 : sliceAt l0 n = .slice (some ⟨l0.b, 0, none⟩) n l0.cap := by simp [sliceAt, hnil]
          by_cases hrm : n + m <= l0.cap
          . exact ⟨⟨l0.b, l0.cap, false, []⟩, by rw [hroom _ e0 hrm]; simp [sliceAt], fun _ => .inr ⟨rfl, rfl⟩⟩
          . have hr := run_append_grow (P := P) w T rt e i z hdd hi hz ⟨l0.b, 0, none⟩ n l0.cap cl (by rw [hisz]; exact ho.1) (ho.cells (g := l0.b) (by rw [e0]; rfl)) ad m c news (by rw [hisz]; exact hnl) hcells (by omega) (by omega) (growslice_fits (by omega) (by rw [hiby]; exact hb))
            rw [e0, hr] at r1
            have e1 := (Result.ok.inj r1).1
            rw [q1] at e1
            simp at e1
            all_goals omega
  obtain ⟨l, l1, l2⟩ := hloc
  refine ⟨l, w', by rw [<- l1]; exact r1, by rw [<- l1]; exact r2, l2, r3.os, r3.tape, r3.output, r3.size, fun b hb hne => r3.block b hb (hown b hne)⟩
def gApp (id j : Nat) : SV -> SV
  | .own k => match Nat.beq k j with
    | true => .junk
    | false => match Nat.beq k id with
      | true => .junk
      | false => .own k
  | .elt k n => match Nat.beq k j with
    | true => .junk
    | false => match Nat.beq k id with
      | true => .junk
      | false => .elt k n
  | .sub k n => match Nat.beq k j with
    | true => .junk
    | false => .sub k n
  | .ref k n => match Nat.beq k j with
    | true => .junk
    | false => match Nat.beq k id with
      | true => .junk
      | false => .ref k n
  | x => x
theorem wo_appendRows {T rt : Nat} {x y : Operand} {ts te : TR} {id j e e' sz e2 e2' sz2 : Nat} {xss yss : List (List D)} (hx : opv (lk s) x = .own id) (hg : h.get id = some (.rows e e' sz xss none)) (hy : opv (lk s) y = .own j) (hgj : h.get j = some (.rows e2 e2' sz2 yss none))
    (ht : tget cx.T T = some ts) (hsl : ts.isSl = true) (hel : Nat.beq ts.elem e = true) (hte : tget cx.T e = some te) (hd : Nat.blt t cx.nt = true) (hia : isAnc id = false) (he : Nat.beq e2' e' = true) (hsz : Nat.beq sz2 sz = true) (hts : Nat.beq te.size 1 = true)
    (hz1 : (te.agg || Nat.beq te.zero.length 1) = true) (hz2 : Nat.beq te.zero.length te.size = true) (hby : Nat.ble te.bytes 64 = true) (hne : Nat.beq j id = false) (hj : Nat.blt j 10000 = true) (hy0 : Nat.blt 0 yss.length = true) (hb : xss.length + yss.length <= 1099511627776) :
    OpTo cx ⟨some t, .call { callee := .builtin .append, args := #[x, y], argTypes := #[T, T] }, rt, pos, af, none⟩ s h ((t, .own id) :: mapS (SV.lm (gApp id j)) s) ((id, .rows e e' sz (xss ++ yss) none) :: keepH (SV.lm (gApp id j)) [id, j] h) := by
  rintro a w ⟨σ, hr⟩ Kk Qq hK
  have he' := Nat.eq_of_beq_eq_true he
  have hsz' := Nat.eq_of_beq_eq_true hsz
  have hel' := Nat.eq_of_beq_eq_true hel
  have hts' := Nat.eq_of_beq_eq_true hts
  subst he' hsz' hel'
  have hj' : j < 10000 := Nat.le_of_ble_eq_true hj
  have hy0' : 0 < yss.length := Nat.le_of_ble_eq_true hy0
  have hne' := Nat.ne_of_beq_eq_false hne
  obtain ⟨⟨p0, hp0, hp1, hp2⟩, hnd, hrep⟩ := chunk_rows hr hg
  obtain ⟨k0, k1, ⟨cl, k2, k3⟩, k4, _⟩ := id_of hrep
  obtain ⟨⟨pj, hpj, hpj1, hpj2⟩, hndj, hrepj⟩ := chunk_rows hr hgj
  obtain ⟨j0, j1, ⟨clj, j2, j3⟩, j4, _⟩ := id_of hrepj
  have hnilj : (σ j).nil = false := by
    cases hn : (σ j).nil with
    | false => rfl
    | true => have := rows_nil j2 hn; omega
  have h1 := rep_eval hr x
  rw [hx] at h1
  simp only [RepSV, hg] at h1
  have h2 := rep_eval hr y
  rw [hy] at h2
  simp only [RepSV, hgj] at h2
  obtain ⟨d, i', hdd, hi', _, _, _, hs', _⟩ := tr_facts (tget_ok cx.tab ht)
  have := hs' hsl
  subst this
  obtain ⟨i, z, hi, hz, hisz, hiby, hcs, _⟩ := zero_cells (tget_ok cx.tab hte) hz1 hz2 (by rw [hts']; rfl) (ok := okf cx σ h) (w := w) 0
  rw [hts'] at hisz hcs
  obtain ⟨o1, o2⟩ := j2
  rcases o2 with ⟨_, o2⟩ | ⟨gj, capj, curj, q1, _, q3, q4, q5, q6, q7⟩
  . omega
  have hnl : clj.length = yss.length * 1 := o1
  have hcellj : ∀ (m : Nat) u, clj[m]? = some u -> w.cell? ((⟨gj, 0, none⟩ : Addr).add m) = some u := fun m u hu => by
    rw [add_block, cell_at q3, Nat.zero_add, <- hu, <- q7, List.getElem?_take]
    have : m < yss.length * 1 := by
      rw [<- hnl]
      rcases Nat.lt_or_ge m clj.length with hh | hh
      . exact hh
      . simp [hh] at hu
    rw [if_pos this]
    simp
  have hclj : ∀ m, m < yss.length -> ∃ q ys, (σ j).kids[m]? = some q /\ yss[m]? = some ys /\ clj[m]? = some (sliceAt (kidLoc q) ys.length) := fun m hm => by
    have e1 : (σ j).kids[m]? = some ((σ j).kids[m]'(by omega)) := List.getElem?_eq_getElem (by omega)
    have e2 : yss[m]? = some yss[m] := List.getElem?_eq_getElem hm
    exact ⟨_, _, e1, e2, (j3 m _ _ e1 e2).1⟩
  have honej : ∀ u ∈ clj, u.oneCell' = true := fun u hu => by
    obtain ⟨m, hm⟩ := List.getElem?_of_mem hu
    have hml : m < yss.length := by
      rcases Nat.lt_or_ge m clj.length with hh | hh
      . omega
      . simp [hh] at hm
    obtain ⟨q, ys, _, _, e3⟩ := hclj m hml
    rw [hm] at e3
    cases e3
    exact (slice_one _ _).1
  have hby' := Nat.le_of_ble_eq_true hby
  obtain ⟨l, w', r1, r2, r3, r4, r5, r6, r7, r8⟩ := append_run (P := cx.P) (rt := rt) hdd hi hz hisz hiby hcs Nat.one_pos k2 (ad := ⟨gj, 0, none⟩) (c := capj) hnl hcellj honej (by omega) (by
    have : (xss.length + yss.length) * te.bytes <= (xss.length + yss.length) * 64 := Nat.mul_le_mul_left _ hby'
    omega)
  let l' : Loc := ⟨l.b, l.cap, l.nil, (σ id).kids ++ (σ j).kids⟩
  have hsl' : ∀ n, sliceAt l' n = sliceAt l n := fun n => rfl
  have hlnil : l.nil = false := by
    cases hn : l.nil with
    | false => rfl
    | true =>
      rcases r2.2 with ⟨_, p2⟩ | ⟨_, _, _, p1, _⟩
      . omega
      . simp [sliceAt, hn] at p1
  let N : Heap := [(id, .rows ts.elem e2' sz2 (xss ++ yss) none)]
  have gid : ((N ++ keepH (SV.lm (gApp id j)) [id, j] h : Heap)).get id = some (.rows ts.elem e2' sz2 (xss ++ yss) none) := by simp [N, Heap.get]
  have kidsI : ∀ (m : Nat) (q : Nat × Nat × Bool), (σ id).kids[m]? = some q -> q.2.2 = false -> q.1 ∈ blk (σ id) (.rows ts.elem e2' sz2 xss none) := fun m q m1 m2 => by
    cases hn : (σ id).nil with
    | true =>
      have := rows_nil k2 hn
      have hm : m < (σ id).kids.length := by
        rcases Nat.lt_or_ge m (σ id).kids.length with hh | hh
        . exact hh
        . simp [hh] at m1
      omega
    | false => exact kid_blk hn m1 m2 (by simp [hat])
  have kidsJ : ∀ (m : Nat) (q : Nat × Nat × Bool), (σ j).kids[m]? = some q -> q.2.2 = false -> q.1 ∈ blk (σ j) (.rows e2 e2' sz2 yss none) := fun m q m1 m2 => kid_blk hnilj m1 m2 (by simp [hat])
  have hdis : ∀ b, b ∈ blk (σ id) (.rows ts.elem e2' sz2 xss none) -> b ∈ blk (σ j) (.rows e2 e2' sz2 yss none) -> False := fun b hb hb' => by
    have := hr.heap.inj p0 hp0 pj hpj b (by rw [hp1, hp2]; exact hb) (by rw [hpj1, hpj2]; exact hb')
    rw [hp1, hpj1] at this
    exact hne' this.symm
  have ltI : ∀ b, b ∈ blk (σ id) (.rows ts.elem e2' sz2 xss none) -> b < w.heap.size := fun b hb => (hr.heap.mine p0 hp0 b (by rw [hp1, hp2]; exact hb)).2.2
  have ltJ : ∀ b, b ∈ blk (σ j) (.rows e2 e2' sz2 yss none) -> b < w.heap.size := fun b hb => (hr.heap.mine pj hpj b (by rw [hpj1, hpj2]; exact hb)).2.2
  have hroot : (σ id).nil = false -> (σ id).b ∈ blk (σ id) (.rows ts.elem e2' sz2 xss none) := fun hn => by simp only [blk, hn]; exact List.mem_cons_self ..
  have hkid : ∀ (m : Nat) (q : Nat × Nat × Bool), ((σ id).kids ++ (σ j).kids)[m]? = some q -> q.2.2 = false -> (m < xss.length /\ (σ id).kids[m]? = some q /\ q.1 ∈ blk (σ id) (.rows ts.elem e2' sz2 xss none)) \/ (xss.length <= m /\ (σ j).kids[m - xss.length]? = some q /\ q.1 ∈ blk (σ j) (.rows e2 e2' sz2 yss none)) := fun m q m1 m2 => by
    rw [List.getElem?_append, k1] at m1
    split at m1
    . rename_i hm; exact .inl ⟨hm, m1, kidsI m q m1 m2⟩
    . rename_i hm; exact .inr ⟨by omega, m1, kidsJ _ q m1 m2⟩
  have hrootne : ∀ (m : Nat) (q : Nat × Nat × Bool), ((σ id).kids ++ (σ j).kids)[m]? = some q -> q.2.2 = false -> q.1 ≠ l.b := fun m q m1 m2 e1 => by
    rcases r3 hlnil with h | ⟨hn, h⟩
    . rcases hkid m q m1 m2 with ⟨_, _, h3⟩ | ⟨_, _, h3⟩
      . have := ltI _ h3; omega
      . have := ltJ _ h3; omega
    . rcases hkid m q m1 m2 with ⟨_, h2', h3⟩ | ⟨_, _, h3⟩
      . rw [h] at e1
        simp only [blk, hn, hat, List.nodup_cons] at hnd
        exact hnd.1 (mem_kidBlk.2 ⟨m, q, h2', m2, by simp, e1⟩)
      . rw [h] at e1
        exact hdis _ (hroot hn) (by rw [<- e1]; exact h3)
  have hframe : ∀ b, b < w.heap.size -> b ∉ blk (σ id) (.rows ts.elem e2' sz2 xss none) -> w'.heap[b]? = w.heap[b]? := fun b hb hno => r8 b hb fun hn e1 => hno (by rw [e1]; exact hroot hn)
  have hRW := hr.upd (σ' := setσ σ id l') (w' := w') [id, j] N (SV.lm (gApp id j)) (fun p hp => by simp [N] at hp; subst hp; simp [memB]) (by simp [N]) (fun m hm => setσ_ne (memB_twoF.1 hm).1) r4 r5 r6 r7
    (fun b hb hno => hframe b hb (by have := hno p0 hp0 (by rw [hp1]; simp [memB]); rwa [hp1, hp2] at this))
    (fun p hp => by
      simp [N] at hp; subst hp
      simp only [setσ_self, blk, l', hlnil, hat, List.nodup_cons]
      refine ⟨fun hm => ?_, ?_⟩
      . obtain ⟨m, q, m1, m2, m3, m4⟩ := mem_kidBlk.1 hm
        exact hrootne m q m1 m2 m4
      . refine kidBlk_nodup.2 fun m n q q' m1 n1 m2 n2 _ _ me => ?_
        rcases hkid m q m1 m2 with ⟨a1, a2, a3⟩ | ⟨a1, a2, a3⟩ <;> rcases hkid n q' n1 n2 with ⟨b1, b2, b3⟩ | ⟨b1, b2, b3⟩
        . cases hn : (σ id).nil with
          | true => have := rows_nil k2 hn; omega
          | false =>
            simp only [blk, hn, hat, List.nodup_cons] at hnd
            exact kidBlk_nodup.1 hnd.2 m n q q' a2 b2 m2 n2 (by simp) (by simp) me
        . exact (hdis _ a3 (by rw [me]; exact b3)).elim
        . exact (hdis _ (by rw [me]; exact b3) a3).elim
        . simp only [blk, hnilj, hat, List.nodup_cons] at hndj
          have := kidBlk_nodup.1 hndj.2 _ _ q q' a2 b2 m2 n2 (by simp) (by simp) me
          omega)
    (fun p hp p' hp' b hb hb' => by simp [N] at hp hp'; subst hp hp'; rfl)
    (fun p hp b hb => by
      simp [N] at hp; subst hp
      simp only [setσ_self, blk, l', hlnil, hat] at hb
      have inI : b ∈ blk (σ id) (.rows ts.elem e2' sz2 xss none) -> b < w'.heap.size /\ (w.heap.size <= b \/ ∃ q ∈ h, memB q.1 [id, j] = true /\ b ∈ blk (σ q.1) q.2 /\ (q.1 < 10000 \/ q.1 = id \/ (isMov q.1 = false /\ isMov id = false /\ 10000 <= id))) := fun hb =>
        ⟨Nat.lt_of_lt_of_le (ltI b hb) r7, .inr ⟨p0, hp0, by rw [hp1]; simp [memB], by rw [hp1, hp2]; exact hb, .inr (.inl hp1)⟩⟩
      rcases List.mem_cons.1 hb with hb | hb
      . rcases r3 hlnil with h | ⟨hn, h⟩
        . exact ⟨by rw [hb]; exact ownsRow_lt r2 hlnil, .inl (by rw [hb]; exact h)⟩
        . exact inI (by rw [hb, h]; exact hroot hn)
      . obtain ⟨m, q, m1, m2, m3, m4⟩ := mem_kidBlk.1 hb
        rcases hkid m q m1 m2 with ⟨_, _, a3⟩ | ⟨_, _, a3⟩
        . exact inI (by rw [<- m4]; exact a3)
        . rw [m4] at a3
          exact ⟨Nat.lt_of_lt_of_le (ltJ b a3) r7, .inr ⟨pj, hpj, by rw [hpj1]; exact memB_iff.2 (by simp), by rw [hpj1, hpj2]; exact a3, .inl (by rw [hpj1]; exact hj')⟩⟩)
    (fun p hp ha => by simp [N] at hp; subst hp; rw [hia] at ha; cases ha)
    (fun hok v sv hv => RepSV.lm (leaf_upd (K := [id, j]) hok (fun m hm => setσ_ne (memB_twoF.1 hm).1) (simO_keep (fun p hp => by simp [N] at hp; subst hp; simp [memB]))
      (fun x hl hx => by
        refine leaf_ids (K := [id, j]) hl rfl rfl (fun _ => rfl) (fun i o hi => ?_) (fun i hi => ?_) (fun i o hi => ?_) (fun i o hi => ?_) hx
        all_goals
          obtain ⟨e1, e2⟩ := memB_twoF.1 hi
          simp only [gApp, beqF e2, beqF e1])
      (fun x v m hl hm hK hv => by
        by_cases hmj : m = j
        . subst hmj
          cases x <;> simp only [SV.idOf, Option.some.injEq, reduceCtorEq] at hm <;> (replace hm := hm.symm; subst hm) <;> simp only [gApp, Nat.beq_refl, RepSV]
        . have hmi : m = id := by rcases memB_two.1 hK with h | h <;> first | exact h | exact absurd h hmj
          subst hmi
          cases x <;> simp only [SV.idOf, Option.some.injEq, reduceCtorEq] at hm <;> (replace hm := hm.symm; subst hm)
          case sub o =>
            simp only [gApp, beqF hmj, RepSV, hg, gid, setσ_self] at hv ⊢
            obtain ⟨q', us, h1, h2, h3⟩ := hv
            have ho : o < xss.length := by
              rcases Nat.lt_or_ge o xss.length with hh | hh
              . exact hh
              . simp [hh] at h2
            exact ⟨q', us, by simp only [l']; rw [List.getElem?_append_left (by omega)]; exact h1, by rw [List.getElem?_append_left ho]; exact h2, h3⟩
          all_goals simp only [gApp, beqF hmj, Nat.beq_refl, RepSV])) hv)
    (fun hok p hp => by
      simp [N] at hp; subst hp
      simp only [setσ_self]
      have each : ∀ (m : Nat) q zs, ((σ id).kids ++ (σ j).kids)[m]? = some q -> (xss ++ yss)[m]? = some zs -> ((σ id).kids[m]? = some q /\ xss[m]? = some zs) \/ (xss.length <= m /\ (σ j).kids[m - xss.length]? = some q /\ yss[m - xss.length]? = some zs) := fun m q zs m1 m2 => by
        rw [List.getElem?_append, k1] at m1
        rw [List.getElem?_append] at m2
        split at m1
        . rename_i hm; rw [if_pos hm] at m2; exact .inl ⟨m1, m2⟩
        . rename_i hm; rw [if_neg hm] at m2; exact .inr ⟨by omega, m1, m2⟩
      refine ⟨k0, by simp [l', k1, j1], ⟨cl ++ clj, by simpa [hsl'] using r2, fun m q zs m1 m2 => ?_⟩, fun m q zs m1 m2 _ => ?_, by simp⟩
      . rcases each m q zs m1 m2 with ⟨e1, e2⟩ | ⟨e0, e1, e2⟩
        . obtain ⟨c1, c2⟩ := k3 m q zs e1 e2
          have hm : m < xss.length := by
            rcases Nat.lt_or_ge m xss.length with hh | hh
            . exact hh
            . simp [hh] at e2
          exact ⟨by rw [List.getElem?_append_left (by rw [k2.1]; omega)]; exact c1, c2⟩
        . obtain ⟨c1, c2⟩ := j3 _ q zs e1 e2
          exact ⟨by rw [List.getElem?_append_right (by rw [k2.1]; omega), k2.1, Nat.mul_one]; exact c1, c2⟩
      . rcases each m q zs m1 m2 with ⟨e1, e2⟩ | ⟨e0, e1, e2⟩
        . refine (k4 m q zs e1 e2 (by simp [hat])).mono hok fun hn => r8 _ (ltI _ (kidsI m q e1 hn)) fun hn2 e3 => ?_
          simp only [blk, hn2, hat, List.nodup_cons] at hnd
          exact hnd.1 (mem_kidBlk.2 ⟨m, q, e1, hn, by simp, e3⟩)
        . exact (j4 _ q zs e1 e2 (by simp [hat])).mono hok fun hn => r8 _ (ltJ _ (kidsJ _ q e1 hn)) fun hn2 e3 => hdis _ (hroot hn2) (by rw [<- e3]; exact kidsJ _ q e1 hn))
  unfold Oper.wp execOp
  rw [q1] at h2
  simp only [resolve, invoke, builtin, Sem.run_bind, Sem.run_pure, Result.andThen_ok, List.map_toArray, List.map_cons, List.map_nil, h1, h2, r1]
  refine hK _ _ ?_
  have e1 : lk (mapS (SV.lm (gApp id j)) s) = fun u => SV.lm (gApp id j) (lk s u) := lk_lm (g := gApp id j) rfl s
  rw [<- e1] at hRW
  exact put_lay hRW hd (by simp only [RepSV, List.cons_append, List.nil_append, N, Heap.get, if_true, setσ_self, List.length_append, hsl'])
theorem wa_loadAgg {T : Nat} {x : Operand} {tr : TR} {f : Nat -> SV} {id off : Nat} {cells : List SV} (hx : opv f x = .ref id off) (hg : h.get id = some (.box cells)) (ht : tget cx.T T = some tr) (ha : tr.agg = true) (hle : Nat.ble (off + tr.size) cells.length = true) :
    Qt cx h ⟨dst, .load T x, ty, pos, af, gd⟩ f (.agg ((cells.drop off).take tr.size)) := by
  intro s₁ hs σ a w hr K Q hK
  have h1 := rep_eval hr x
  rw [show opv s₁ x = opv f x from by cases x <;> first | rfl | exact hs _ (by simp [Op.operands]), hx] at h1
  have h1' : a.eval x = .pointer (some ⟨(σ id).b, off, none⟩) := h1
  obtain ⟨p, hp, rfl, hp2⟩ := get_mem hg
  have hc := hr.heap.rep p hp
  rw [hp2] at hc
  obtain ⟨cs, z1, z2⟩ := load_boxS (P := cx.P) (tget_ok cx.tab ht) ha hc (Nat.le_of_ble_eq_true hle)
  unfold Oper.wp
  rw [show (execOp a.eval ⟨dst, .load T x, ty, pos, af, gd⟩).run cx.P w = .ok (.value (.agg cs)) w from by simp [execOp, h1', Instr.loadAt, Instr.sureAddr, z1]]
  exact hK _ _ (Below.refl _ _) z2
def putS : List SV -> Nat -> List SV -> List SV
  | l, _, [] => l
  | l, off, x :: xs => putS (l.set off x) (off + 1) xs
theorem putS_length : ∀ (xs : List SV) (l : List SV) (off : Nat), (putS l off xs).length = l.length
  | [], _, _ => rfl
  | x :: xs, l, off => by simp [putS, putS_length xs]
theorem putS_get : ∀ (xs : List SV) (l : List SV) (off j : Nat), off + xs.length <= l.length -> (putS l off xs)[j]? = if off <= j /\ j < off + xs.length then xs[j - off]? else l[j]?
  | [], l, off, j, _ => by simp [putS]; omega
  | x :: xs, l, off, j, hl => by
    simp only [List.length_cons] at hl
    rw [putS, putS_get xs _ (off + 1) j (by simp; omega)]
    by_cases h1 : j = off
    . subst h1
      rw [if_neg (by omega), if_pos (by simp), List.getElem?_set_self (by omega)]
      simp
    . by_cases h2 : off + 1 <= j /\ j < off + 1 + xs.length
      . rw [if_pos h2, if_pos (by simp; omega)]
        rw [show j - off = (j - (off + 1)) + 1 by omega]
        simp
      . rw [if_neg h2, if_neg (by simp; omega), List.getElem?_set_ne (by omega)]
theorem wo_storeAggS {T : Nat} {tr : TR} {x y : Operand} {id off : Nat} {cells l : List SV} (hx : opv (lk s) x = .ref id off) (hg : h.get id = some (.box cells)) (hy : opv (lk s) y = .agg l) (ht : tget cx.T T = some tr)
    (hsz : Nat.beq l.length tr.size = true) (hoff : Nat.ble (off + l.length) cells.length = true) :
    OpTo cx ⟨none, .store T x y, ty, pos, af, none⟩ s h s (setH id (.box (putS cells off l)) h) := by
  rintro a w ⟨σ, hr⟩ K Q hK
  have hu' : a.eval x = .pointer (some ⟨(σ id).b, off, none⟩) := by
    have hu := rep_eval hr x
    rw [hx] at hu
    exact hu
  have hv := rep_eval hr y
  rw [hy] at hv
  simp only [RepSV] at hv
  obtain ⟨us, eu, hl⟩ := hv
  obtain ⟨u1, u3⟩ := RepSVs.get hl
  have u1' : us.size = l.length := u1
  obtain ⟨d, i, hdd, hi, _, hisz, _⟩ := tr_facts (tget_ok cx.tab ht)
  have hsz' := Nat.eq_of_beq_eq_true hsz
  have hoff' := Nat.le_of_ble_eq_true hoff
  obtain ⟨p0, hp0, rfl, hp2⟩ := get_mem hg
  have hc := hr.heap.rep p0 hp0
  rw [hp2] at hc
  obtain ⟨c0, cs, T', c1, c2, c3⟩ := hc
  have hone : ∀ u ∈ us.toList, u.oneCell' = true := fun u hu => by
    obtain ⟨k, hk⟩ := List.getElem?_of_mem hu
    have hkl : k < l.length := by
      rw [<- u1]
      exact (List.getElem?_eq_some_iff.1 hk).1
    exact (u3 k u _ hk (List.getElem?_eq_getElem hkl)).2 rfl
  have hst := run_storeCells_at cx.P (σ p0.1).b off T' us.toList 0 cs w c1 (by simp [u1']; omega) hone
  simp only [Nat.add_zero] at hst
  let row : Array Value := (cs.toList.take off ++ us.toList ++ cs.toList.drop (off + us.toList.length)).toArray
  have run : (execOp a.eval ⟨none, .store T x y, ty, pos, af, none⟩).run cx.P w = .ok .skip (w.setRow (σ p0.1).b row) := by
    have hs : (storeVar T ⟨(σ p0.1).b, off, none⟩ (a.eval y)).run cx.P w = .ok () (w.setRow (σ p0.1).b row) := by
      unfold storeVar
      have hne : ¬ ((a.eval y).cells.size ≠ i.size) := by rw [eu, hisz, <- hsz', <- u1']; simp [Value.cells]
      simp only [sizeOf, typeInfo, Sem.run_bind, run_program, Result.andThen_ok, hi, Sem.run_pure]
      rw [if_neg hne, eu]
      exact hst
    simp [execOp, Instr.storeAt, Instr.sureAddr, hu', hs]
  have rowget : ∀ m, row[m]? = if off <= m /\ m < off + l.length then us[m - off]? else cs[m]? := fun m => by
    have e0 : row[m]? = (cs.toList.take off ++ (us.toList ++ cs.toList.drop (off + l.length)))[m]? := by
      simp only [row, List.append_assoc, Array.length_toList, u1']
      rw [List.getElem?_toArray]
    rw [e0]
    have hl : (cs.toList.take off).length = off := by simp; omega
    by_cases g1 : m < off
    . rw [List.getElem?_append_left (by rw [hl]; exact g1), List.getElem?_take, if_pos g1, if_neg (by omega)]
      simp
    . rw [List.getElem?_append_right (by rw [hl]; omega), hl]
      by_cases g2 : m < off + l.length
      . rw [List.getElem?_append_left (by simp [u1']; omega), if_pos ⟨by omega, g2⟩]
        simp
      . rw [List.getElem?_append_right (by simp [u1']; omega), if_neg (by omega), List.getElem?_drop]
        simp only [Array.length_toList, u1', Array.getElem?_toList]
        congr 1
        omega
  have rowsize : row.size = cs.size := by
    simp only [row, List.size_toArray, List.length_append, List.length_take, List.length_drop, Array.length_toList, u1']
    omega
  have hlike : (Chunk.box cells).like (.box (putS cells off l)) := (putS_length l cells off).symm
  have hr' := hr.set (w' := w.setRow (σ p0.1).b row) (c' := .box (putS cells off l)) hg hlike rfl rfl rfl (by simp) (fun b hb => setRow_other w _ b _ (by simpa [blk] using hb)) fun hok => by
    refine ⟨c0, row, T', setRow_heap w _ cs _ T' (0, 0) c1, by rw [rowsize, c2, putS_length], fun j v u hv hu => ?_⟩
    rw [rowget] at hv
    rw [putS_get l cells off j hoff'] at hu
    split at hv
    . rename_i hj
      rw [if_pos hj] at hu
      obtain ⟨g1, g2⟩ := u3 _ v u (by simpa using hv) hu
      exact ⟨g1.set hg hlike hok, g2 rfl⟩
    . rename_i hj
      rw [if_neg hj] at hu
      exact ⟨(c3 j v u hv hu).1.set hg hlike hok, (c3 j v u hv hu).2⟩
  unfold Oper.wp
  rw [run]
  exact hK _ _ ⟨σ, hr'⟩
theorem wo_boxS {T : Nat} {x : Operand} {l : List SV} (hx : opv (lk s) x = .agg l) (hd : Nat.blt t cx.nt = true) :
    OpTo cx ⟨some t, .box T x, ty, pos, af, none⟩ s h ((t, .ref t 0) :: killS t s) ((t, .box (l.map (SV.kill [t]))) :: killH t h) := by
  rintro a w ⟨σ, hr⟩ K Q hK
  have hv := rep_eval hr x
  rw [hx] at hv
  simp only [RepSV] at hv
  obtain ⟨us, eu, hl⟩ := hv
  obtain ⟨u1, u3⟩ := RepSVs.get hl
  have run : (execOp a.eval ⟨some t, .box T x, ty, pos, af, none⟩).run cx.P w = .ok (.value (.pointer (some ⟨w.heap.size, 0, none⟩))) (w.alloc (.cells us T)) := by
    simp [execOp, Instr.box, newVar, newRow, eu, Value.cells]
  obtain ⟨σ', e1, hr'⟩ := hr.lay (w' := w.alloc (.cells us T)) t (anc_slot hd).1 ⟨w.heap.size, 0, false, []⟩ (.box (l.map (SV.kill [t]))) rfl rfl rfl (by simp) (fun b hb _ => Below.heap_alloc w _ b hb) (by simp [blk]) (by simp [blk]) fun σ' ok' hok hσ1 hσ2 => by
    refine ⟨rfl, us, T, heap_alloc_new w _, by simpa using u1, fun i v u hv hu => ?_⟩
    rw [List.getElem?_map, Option.map_eq_some_iff] at hu
    obtain ⟨y, hy, rfl⟩ := hu
    obtain ⟨g1, g2⟩ := u3 i v y (by simpa using hv) hy
    exact ⟨RepSV.kill hok (fun j hj => hσ2 j (memB_oneF.1 hj)) (simO_keep (N := [(t, .box (l.map (SV.kill [t])))]) (by simp [memB])) g1, g2 rfl⟩
  unfold Oper.wp
  rw [run]
  exact hK _ _ (put_lay hr' hd (by simp only [RepSV, e1]))
theorem R_nilSlot {a : Act} {w : World} {u : Nat} (id e sz : Nat) (hr : R cx (lk s) h a w) (hu : lk s u = .d .nils) (hsz : Nat.blt 0 sz = true) (hid : isAnc id = false) : R cx (lk ((u, .own id) :: killS id s)) ((id, .arr e sz []) :: killH id h) a w := by
  obtain ⟨σ, hr⟩ := hr
  have hv := hr.slots u
  rw [hu] at hv
  have hv' := RepD.nils_inv hv
  obtain ⟨σ', e1, hr'⟩ := hr.lay (w' := w) id hid ⟨0, 0, true, []⟩ (.arr e sz []) rfl rfl rfl (Nat.le_refl _) (fun _ _ _ => rfl) (by simp [blk]) (by simp [blk]) fun σ' ok' hok _ _ =>
    ⟨Nat.le_of_ble_eq_true hsz, [], ⟨by simp, .inl ⟨by simp [sliceAt], rfl⟩⟩, by simp, [], rfl, by simp, by simp⟩
  refine ⟨σ', hr'.evo, hr'.defers, hr'.size, hr'.heap, fun t => ?_⟩
  simp only [lk]
  split
  . rename_i e2
    subst e2
    simp only [RepSV, Heap.get, if_true, e1, hv']
    simp [sliceAt]
  . exact hr'.slots t
theorem awp_nilSlot {c : Code} (u id e sz : Nat) (hu : lk s u = .d .nils) (hsz : Nat.blt 0 sz = true) (hid : isAnc id = false) (hn : awp cx c ((u, .own id) :: killS id s) ((id, .arr e sz []) :: killH id h) Q) : awp cx c s h Q := fun a w hr => hn a w (R_nilSlot id e sz hr hu hsz hid)
end
end Go.Proofs.YtckpadnjldebaaaGreat
