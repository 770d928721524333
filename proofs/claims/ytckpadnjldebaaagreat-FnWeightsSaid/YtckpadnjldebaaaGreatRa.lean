/- Rows that are sorted in place, and of equal neighbours one: plain facts. No condition. -/
import Derived.Test.YtckpadnjldebaaaGreatSb
import Derived.Test.YtckpadnjldebaaaGreatNa
import Derived.Test.YtckpadnjldebaaaGreatFwW
import Derived.Test.YtckpadnjldebaaaGreatKa
namespace Go.Proofs.YtckpadnjldebaaaGreat
open Go
attribute [local irreducible] awp awpL awpQL awpQ awpM pWalk Qt AC thenQ blockQ loopQ OpTo
set_option linter.unusedVariables false
set_option linter.unusedSimpArgs false
set_option maxHeartbeats 2000000
attribute [local irreducible] HC
theorem srt_one : ∀ {a b : List Int}, a.Perm b -> a.Pairwise (· <= ·) -> b.Pairwise (· <= ·) -> a = b
  | [], b, h, _, _ => by have := h.length_eq; simp at this; exact (List.eq_nil_of_length_eq_zero this.symm).symm
  | x :: a, [], h, _, _ => by have := h.length_eq; simp at this
  | x :: a, y :: b, h, ha, hb => by
    have ha' := List.pairwise_cons.1 ha
    have hb' := List.pairwise_cons.1 hb
    have e : x = y := by
      have h1 : x ∈ y :: b := h.subset (List.mem_cons_self ..)
      have h2 : y ∈ x :: a := h.symm.subset (List.mem_cons_self ..)
      have k1 : y <= x := by
        rcases List.mem_cons.1 h1 with e | h1
        . omega
        . exact hb'.1 x h1
      have k2 : x <= y := by
        rcases List.mem_cons.1 h2 with e | h2
        . omega
        . exact ha'.1 y h2
      omega
    subst e
    rw [srt_one (List.Perm.cons_inv h) ha'.2 hb'.2]
def insS (n : Int) : List Int -> List Int
  | [] => [n]
  | x :: l => if n <= x then n :: x :: l else x :: insS n l
theorem insS_perm (n : Int) : ∀ l : List Int, (insS n l).Perm (n :: l)
  | [] => List.Perm.refl _
  | x :: l => by
    unfold insS
    split
    . exact List.Perm.refl _
    . exact ((insS_perm n l).cons x).trans (List.Perm.swap n x l)
theorem insS_sorted (n : Int) : ∀ l : List Int, l.Pairwise (· <= ·) -> (insS n l).Pairwise (· <= ·)
  | [], _ => by simp [insS]
  | x :: l, h => by
    have h' := List.pairwise_cons.1 h
    unfold insS
    split
    . rename_i hx
      refine List.pairwise_cons.2 ⟨fun y hy => ?_, h⟩
      rcases List.mem_cons.1 hy with rfl | hy
      . exact hx
      . have := h'.1 y hy; omega
    . rename_i hx
      refine List.pairwise_cons.2 ⟨fun y hy => ?_, insS_sorted n l h'.2⟩
      rcases List.mem_cons.1 ((insS_perm n l).subset hy) with rfl | hy
      . omega
      . exact h'.1 y hy
def srt (l : List Int) : List Int := l.foldr insS []
theorem srt_perm : ∀ l : List Int, (srt l).Perm l
  | [] => List.Perm.refl _
  | x :: l => (insS_perm x (srt l)).trans ((srt_perm l).cons x)
theorem srt_sorted : ∀ l : List Int, (srt l).Pairwise (· <= ·)
  | [] => List.Pairwise.nil
  | x :: l => insS_sorted x _ (srt_sorted l)
theorem srt_of {l r : List Int} (h1 : r.Perm l) (h2 : r.Pairwise (· <= ·)) : r = srt l := srt_one (h1.trans (srt_perm l).symm) h2 (srt_sorted l)
theorem srt_length (l : List Int) : (srt l).length = l.length := (srt_perm l).length_eq
def swp (l : List Int) (j : Nat) : List Int := (l.set j (l.getD (j - 1) 0)).set (j - 1) (l.getD j 0)
theorem swp_get (l : List Int) {j : Nat} (h0 : 0 < j) (hj : j < l.length) (p : Nat) : (swp l j).getD p 0 = if p = j then l.getD (j - 1) 0 else if p = j - 1 then l.getD j 0 else l.getD p 0 := by
  unfold swp
  by_cases e1 : p = j
  . subst e1
    rw [if_pos rfl, List.getD_eq_getElem?_getD, List.getElem?_set_ne (by omega), List.getElem?_set_self hj]
    rfl
  . rw [if_neg e1]
    by_cases e2 : p = j - 1
    . subst e2
      rw [if_pos rfl, List.getD_eq_getElem?_getD, List.getElem?_set_self (by simp; omega)]
      rfl
    . rw [if_neg e2, List.getD_eq_getElem?_getD, List.getElem?_set_ne (by omega), List.getElem?_set_ne (by omega), <- List.getD_eq_getElem?_getD]
theorem swp_split {a b : List Int} {x y : Int} : swp (a ++ x :: y :: b) (a.length + 1) = a ++ y :: x :: b := by
  unfold swp
  simp [List.getD_eq_getElem?_getD, List.set_append]
theorem split_at {l : List Int} {j : Nat} (h0 : 0 < j) (hj : j < l.length) : ∃ a x y b, l = a ++ x :: y :: b /\ j = a.length + 1 := by
  refine ⟨l.take (j - 1), l[j - 1], l[j], l.drop (j + 1), ?_, by rw [List.length_take]; omega⟩
  have e1 : l.drop j = l[j] :: l.drop (j + 1) := List.drop_eq_getElem_cons hj
  have e2 : l.drop (j - 1) = l[j - 1] :: l.drop j := by
    have := List.drop_eq_getElem_cons (l := l) (i := j - 1) (by omega)
    rw [show j - 1 + 1 = j by omega] at this
    exact this
  rw [<- e1, <- e2, List.take_append_drop]
theorem swp_perm {l : List Int} {j : Nat} (h0 : 0 < j) (hj : j < l.length) : (swp l j).Perm l := by
  obtain ⟨a, x, y, b, rfl, rfl⟩ := split_at h0 hj
  rw [swp_split]
  exact (List.Perm.swap x y b).append_left a
def ordIns (l : List Int) (i : Nat) : Prop := ∀ p q, p < q -> q < i -> l.getD p 0 <= l.getD q 0
def ordJ (l : List Int) (i j : Nat) : Prop := ∀ p q, p < q -> q < i -> q ≠ j -> l.getD p 0 <= l.getD q 0
theorem ordJ_of {l : List Int} {i : Nat} (h : ordIns l i) : ordJ l (i + 1) i := fun p q h1 h2 h3 => h p q h1 (by omega)
theorem ordJ_swp {l : List Int} {i j : Nat} (h : ordJ l i j) (h0 : 0 < j) (hj : j < l.length) (hi : j < i) (hlt : l.getD j 0 < l.getD (j - 1) 0) : ordJ (swp l j) i (j - 1) := by
  intro p q h1 h2 h3
  rw [swp_get l h0 hj, swp_get l h0 hj]
  by_cases e1 : q = j
  . subst e1
    rw [if_pos rfl, if_neg (by omega)]
    by_cases e2 : p = q - 1
    . rw [if_pos e2]; omega
    . rw [if_neg e2]
      exact h p (q - 1) (by omega) (by omega) (by omega)
  . rw [if_neg e1, if_neg h3]
    by_cases e2 : p = j
    . rw [if_pos e2]
      exact h (j - 1) q (by omega) h2 e1
    . rw [if_neg e2]
      by_cases e3 : p = j - 1
      . rw [if_pos e3]
        exact h j q (by omega) h2 e1
      . rw [if_neg e3]
        exact h p q h1 h2 e1
theorem ordIns_end {l : List Int} {i j : Nat} (h : ordJ l i j) (he : j = 0 \/ l.getD (j - 1) 0 <= l.getD j 0) : ordIns l i := by
  intro p q h1 h2
  by_cases e : q = j
  . subst e
    rcases he with he | he
    . omega
    . by_cases e2 : p = q - 1
      . subst e2; exact he
      . have := h p (q - 1) (by omega) (by omega) (by omega)
        omega
  . exact h p q h1 h2 e
theorem sorted_of_ordI {l : List Int} (h : ordIns l l.length) : l.Pairwise (· <= ·) := by
  rw [List.pairwise_iff_getElem]
  intro p q hp hq hpq
  have := h p q hpq hq
  simpa [List.getD_eq_getElem?_getD, hp, hq] using this
def ddA {α : Type} (eq : α -> α -> Bool) : List α -> α -> List α -> List α
  | out, _, [] => out
  | out, x, y :: l => if eq y x then ddA eq out y l else ddA eq (out ++ [y]) y l
theorem ddA_mem {α : Type} {eq : α -> α -> Bool} : ∀ (l out : List α) (x z : α), z ∈ ddA eq out x l -> z ∈ out \/ z ∈ l
  | [], out, x, z, h => .inl h
  | y :: l, out, x, z, h => by
    unfold ddA at h
    split at h
    . rcases ddA_mem l out y z h with h | h
      . exact .inl h
      . exact .inr (List.mem_cons_of_mem _ h)
    . rcases ddA_mem l (out ++ [y]) y z h with h | h
      . rcases List.mem_append.1 h with h | h
        . exact .inl h
        . simp at h; subst h; exact .inr (List.mem_cons_self ..)
      . exact .inr (List.mem_cons_of_mem _ h)
theorem ddA_out {α : Type} {eq : α -> α -> Bool} : ∀ (l out : List α) (x z : α), z ∈ out -> z ∈ ddA eq out x l
  | [], out, x, z, h => h
  | y :: l, out, x, z, h => by
    unfold ddA
    split
    . exact ddA_out l out y z h
    . exact ddA_out l _ y z (List.mem_append_left _ h)
theorem ddA_len {α : Type} {eq : α -> α -> Bool} : ∀ (l out : List α) (x : α), (ddA eq out x l).length <= out.length + l.length
  | [], out, x => Nat.le_refl _
  | y :: l, out, x => by
    unfold ddA
    split
    . have := ddA_len (eq := eq) l out y; simp; omega
    . have := ddA_len (eq := eq) l (out ++ [y]) y; simp at this ⊢; omega
theorem ddA_snoc {α : Type} {eq : α -> α -> Bool} : ∀ (l out : List α) (x y : α), ddA eq out x (l ++ [y]) = ddA eq out x l ++ if eq y ((x :: l).getLast (by simp)) then [] else [y]
  | [], out, x, y => by
    simp only [List.nil_append, ddA, List.getLast_singleton]
    split <;> (rename_i h; simp [h])
  | z :: l, out, x, y => by
    simp only [List.cons_append, ddA]
    have e : (x :: z :: l).getLast (by simp) = (z :: l).getLast (by simp) := by simp
    rw [e]
    split
    . exact ddA_snoc l out z y
    . exact ddA_snoc l (out ++ [z]) z y
def ddF {α : Type} (eq : α -> α -> Bool) : List α -> List α
  | [] => []
  | x :: l => ddA eq [x] x l
theorem ddF_len {α : Type} {eq : α -> α -> Bool} (l : List α) : (ddF eq l).length <= l.length := by
  cases l with
  | nil => simp [ddF]
  | cons x l => have := ddA_len (eq := eq) l [x] x; simp [ddF] at this ⊢; omega
theorem ddF_take {α : Type} {eq : α -> α -> Bool} {l : List α} {m : Nat} (h0 : 0 < m) (hm : m < l.length) : ddF eq (l.take (m + 1)) = ddF eq (l.take m) ++ if eq l[m] (l[m - 1]'(by omega)) then [] else [l[m]] := by
  rw [List.take_succ_eq_append_getElem hm]
  cases l with
  | nil => simp at hm
  | cons x l =>
    obtain ⟨m, rfl⟩ : ∃ k, m = k + 1 := ⟨m - 1, by omega⟩
    simp only [List.take_succ_cons, List.cons_append, ddF]
    rw [ddA_snoc]
    congr 2
    have : (x :: l.take m).getLast (by simp) = (x :: l)[m + 1 - 1]'(by omega) := by
      rw [List.getLast_eq_getElem]
      simp only [List.length_cons, List.length_take, Nat.add_sub_cancel]
      have hl : m <= l.length := by simp at hm; omega
      have e : x :: l.take m = (x :: l).take (m + 1) := by simp
      simp only [e, List.getElem_take, Nat.min_eq_left hl]
    rw [this]
theorem ddF_all {α : Type} {eq : α -> α -> Bool} {l : List α} : ∀ {m : Nat}, 0 < m -> m <= l.length -> (∀ k, 0 < k -> (hk : k < m) -> (hl : k < l.length) -> eq l[k] (l[k - 1]'(by omega)) = false) -> ddF eq (l.take m) = l.take m
  | 1, _, hm, _ => by
    cases l with
    | nil => simp at hm
    | cons x l => simp [ddF, ddA]
  | m + 2, _, hm, h => by
    rw [ddF_take (by omega) (by omega), ddF_all (by omega) (by omega) (fun k h0 hk hl => h k h0 (by omega) hl), h (m + 1) (by omega) (by omega) (by omega), List.take_succ_eq_append_getElem (show m + 1 < l.length by omega)]
    rfl
def eqI (a b : Int) : Bool := decide (a = b)
theorem ddA_sorted : ∀ (l out : List Int) (x : Int), (x :: l).Pairwise (· <= ·) -> out.Pairwise (· < ·) -> (∀ y ∈ out, y <= x) -> x ∈ out -> (ddA eqI out x l).Pairwise (· < ·) /\ ∀ z, z ∈ l -> z ∈ ddA eqI out x l
  | [], out, x, _, h2, _, _ => ⟨h2, fun z hz => by cases hz⟩
  | y :: l, out, x, h1, h2, h3, h4 => by
    have h1' := List.pairwise_cons.1 h1
    have hxy := h1'.1 y (List.mem_cons_self ..)
    unfold ddA
    by_cases e : y = x
    . subst e
      rw [if_pos (by simp [eqI])]
      obtain ⟨k1, k2⟩ := ddA_sorted l out y h1'.2 h2 h3 h4
      refine ⟨k1, fun z hz => ?_⟩
      rcases List.mem_cons.1 hz with rfl | hz
      . exact ddA_out l out z z h4
      . exact k2 z hz
    . rw [if_neg (by simp [eqI, e])]
      have hq : ∀ q ∈ out, q < y := fun q hq => by have := h3 q hq; omega
      obtain ⟨k1, k2⟩ := ddA_sorted l (out ++ [y]) y h1'.2 (List.pairwise_append.2 ⟨h2, by simp, fun a ha b hb => by simp at hb; subst hb; exact hq a ha⟩)
        (fun q hq' => by
          rcases List.mem_append.1 hq' with hq' | hq'
          . have := hq q hq'; omega
          . simp at hq'; omega) (by simp)
      refine ⟨k1, fun z hz => ?_⟩
      rcases List.mem_cons.1 hz with rfl | hz
      . exact ddA_out l _ z z (by simp)
      . exact k2 z hz
def srtd (l : List Int) : List Int := ddF eqI (srt l)
theorem srtd_spec (l : List Int) : (srtd l).Pairwise (· < ·) /\ ∀ x, x ∈ srtd l ↔ x ∈ l := by
  unfold srtd
  have h1 := srt_sorted l
  have h2 := srt_perm l
  have h3 : ∀ x, x ∈ srt l ↔ x ∈ l := fun x => h2.mem_iff
  generalize srt l = r at *
  cases r with
  | nil => exact ⟨List.Pairwise.nil, fun x => by rw [<- h3]; rfl⟩
  | cons x r =>
    obtain ⟨k1, k2⟩ := ddA_sorted r [x] x h1 (by simp) (by simp) (by simp)
    refine ⟨k1, fun z => ?_⟩
    rw [<- h3]
    constructor
    . intro hz
      rcases ddA_mem r [x] x z hz with hz | hz
      . simp at hz; subst hz; exact List.mem_cons_self ..
      . exact List.mem_cons_of_mem _ hz
    . intro hz
      rcases List.mem_cons.1 hz with rfl | hz
      . exact ddA_out r [z] z z (by simp)
      . exact k2 z hz
theorem srtd_of {l r : List Int} (h1 : r.Pairwise (· < ·)) (h2 : ∀ x, x ∈ r ↔ x ∈ l) : srtd l = r := ris_ext (srtd_spec l).1 h1 fun x => ((srtd_spec l).2 x).trans (h2 x).symm
def cmpR {α : Type} (eq : α -> α -> Bool) (xs : List α) (m : Nat) : List α := ddF eq (xs.take m) ++ xs.drop (ddF eq (xs.take m)).length
theorem ddT_len {α : Type} {eq : α -> α -> Bool} {xs : List α} {m : Nat} : (ddF eq (xs.take m)).length <= m /\ (ddF eq (xs.take m)).length <= xs.length := by
  have := ddF_len (eq := eq) (xs.take m)
  rw [List.length_take] at this
  omega
theorem cmpR_len {α : Type} {eq : α -> α -> Bool} {xs : List α} {m : Nat} : (cmpR eq xs m).length = xs.length := by
  have := ddT_len (eq := eq) (xs := xs) (m := m)
  unfold cmpR
  rw [List.length_append, List.length_drop]
  omega
theorem cmpR_get {α : Type} {eq : α -> α -> Bool} {xs : List α} {m i : Nat} (h : (ddF eq (xs.take m)).length <= i) : (cmpR eq xs m)[i]? = xs[i]? := by
  unfold cmpR
  rw [List.getElem?_append_right h, List.getElem?_drop]
  congr 1
  omega
theorem cmpR_same {α : Type} {eq : α -> α -> Bool} {xs : List α} {m : Nat} (h0 : 0 < m) (hm : m < xs.length) (he : eq xs[m] (xs[m - 1]'(by omega)) = true) : ddF eq (xs.take (m + 1)) = ddF eq (xs.take m) /\ cmpR eq xs (m + 1) = cmpR eq xs m := by
  have := ddF_take (eq := eq) h0 hm
  rw [he, if_pos rfl, List.append_nil] at this
  exact ⟨this, by unfold cmpR; rw [this]⟩
theorem cmpR_new {α : Type} {eq : α -> α -> Bool} {xs : List α} {m : Nat} (h0 : 0 < m) (hm : m < xs.length) (he : eq xs[m] (xs[m - 1]'(by omega)) = false) :
    (ddF eq (xs.take (m + 1))).length = (ddF eq (xs.take m)).length + 1 /\ (cmpR eq xs m).set (ddF eq (xs.take m)).length xs[m] = cmpR eq xs (m + 1) := by
  have h1 := ddF_take (eq := eq) h0 hm
  have hl := (ddT_len (eq := eq) (xs := xs) (m := m)).1
  rw [he] at h1
  have h1 : ddF eq (xs.take (m + 1)) = ddF eq (xs.take m) ++ [xs[m]] := h1
  refine ⟨by rw [h1]; simp, ?_⟩
  unfold cmpR
  rw [h1]
  generalize ddF eq (xs.take m) = P at *
  have e : xs.drop P.length = xs[P.length]'(by omega) :: xs.drop (P.length + 1) := List.drop_eq_getElem_cons (by omega)
  rw [List.set_append_right _ _ (Nat.le_refl _), Nat.sub_self, List.length_append, List.length_singleton, List.append_assoc]
  congr 1
  rw [e]
  rfl
theorem cmpR_first {α : Type} {eq : α -> α -> Bool} {xs : List α} {k : Nat} (h0 : 0 < k) (hk : k < xs.length) (hno : ∀ j, 0 < j -> (hj : j < k) -> eq (xs[j]'(by omega)) (xs[j - 1]'(by omega)) = false) (he : eq xs[k] (xs[k - 1]'(by omega)) = true) :
    (ddF eq (xs.take (k + 1))).length = k /\ cmpR eq xs (k + 1) = xs := by
  have h1 := ddF_all (eq := eq) (l := xs) (m := k) h0 (by omega) fun j h1 h2 h3 => hno j h1 h2
  have h2 := (cmpR_same h0 hk he).1
  rw [h1] at h2
  have hl : (xs.take k).length = k := by rw [List.length_take]; omega
  refine ⟨by rw [h2, hl], ?_⟩
  unfold cmpR
  rw [h2, hl, List.take_append_drop]
theorem cmpR_end {α : Type} {eq : α -> α -> Bool} {xs : List α} : (cmpR eq xs xs.length).take (ddF eq xs).length = ddF eq xs := by
  unfold cmpR
  rw [List.take_length, List.take_left]
theorem ddF_none {α : Type} {eq : α -> α -> Bool} {xs : List α} (hno : ∀ j, 0 < j -> (hj : j < xs.length) -> eq xs[j] (xs[j - 1]'(by omega)) = false) : ddF eq xs = xs := by
  rcases Nat.eq_zero_or_pos xs.length with h | h
  . rw [List.eq_nil_of_length_eq_zero h]; rfl
  . have := ddF_all (eq := eq) (l := xs) h (Nat.le_refl _) fun j h1 h2 h3 => hno j h1 h2
    rwa [List.take_length] at this
end Go.Proofs.YtckpadnjldebaaaGreat
namespace Go.Proofs.YtckpadnjldebaaaGreat
open Go
attribute [local irreducible] awp awpL awpQL awpQ awpM pWalk Qt AC thenQ blockQ loopQ OpTo
set_option linter.unusedVariables false
set_option linter.unusedSimpArgs false
set_option maxHeartbeats 2000000
attribute [local irreducible] HC
theorem impl_isNaN {a : Int} : AC Tryz.prog 288 [.int .i64 a] (.bool false) := by
  refine ac_intro tabIs _ Tryz.func288 rfl rfl Tryz.ntmps288 rfl rfl fun w0 ok0 he0 => ?_
  repeat (first | refine zc ?_ | refine zv ?_)
  refine zt ?_
  simp
theorem impl_less {a b : Int} : AC Tryz.prog 296 [.int .i64 a, .int .i64 b] (.bool (decide (a < b))) := by
  have e := impl_isNaN (a := a)
  have e2 := impl_isNaN (a := b)
  refine ac_intro tabIs _ Tryz.func296 rfl rfl Tryz.ntmps296 rfl rfl fun w0 ok0 he0 => ?_
  repeat (first | refine zc ?_ | refine zk (e := by exact e) (n := ?_) | refine zk (e := by exact e2) (n := ?_) | refine zv ?_)
  refine zt ?_
  rfl
theorem el_L {L : List Int} {j : Nat} (h : j < L.length) : (L.map (D.int .i64))[j]? = some (.int .i64 (L.getD j 0)) := by simp [List.getD_eq_getElem?_getD, h]
theorem map_set (L : List Int) (j : Nat) (x : Int) : (L.map (D.int .i64)).set j (.int .i64 x) = (L.set j x).map (.int .i64) := by simp
theorem impl_insertionH {xs : List Int} (hn : xs.length <= 1048576) :
    HC Tryz.prog 311 [.own 10000, .d (.int .i64 0), .d (.int .i64 xs.length)] [(10000, .arr 2 1 (xs.map (.int .i64)))] (.d (.tup [])) [(10000, .arr 2 1 ((srt xs).map (.int .i64)))] := by
  have hsl := srt_length xs
  refine hc_intro tabIs _ Tryz.func311 rfl rfl Tryz.ntmps311 rfl rfl rfl ?_ fun w0 ok0 XM XA anc he0 hX0 => ?_
  . exact likeIn_cons rfl ⟨rfl, rfl, by simp [hsl]⟩ likeIn_nil
  repeat (first | refine zc ?_ | refine zv ?_)
  refine awp_loop (fun p : List Int × Nat => p.1.Perm xs /\ ordIns p.1 p.2 /\ 1 <= p.2 /\ (p.2 <= xs.length \/ p.2 = 1)) (fun p => [(0, .own 10000), (1, .d (.int .i64 0)), (2, .d (.int .i64 xs.length)), (6, .d (.int .i64 p.2))])
    (fun p => [(10000, .arr 2 1 (p.1.map (.int .i64)))]) (fun p => xs.length - p.2) (xs, 1) ⟨List.Perm.refl _, fun p q h1 h2 => by omega, Nat.le_refl _, .inr rfl⟩ ?_ rfl ?_
  . exact zs
  . rintro ⟨L, i⟩ ⟨hP, hO, hi1, hi2⟩
    dsimp only at hP hO hi1 hi2
    have hL := hP.length_eq
    by_cases hlt : i < xs.length
    . repeat (first | refine zc ?_ | refine zv ?_)
      refine awp_loop (fun p : List Int × Nat => p.1.Perm xs /\ ordJ p.1 (i + 1) p.2 /\ p.2 <= i) (fun p => [(0, .own 10000), (1, .d (.int .i64 0)), (2, .d (.int .i64 xs.length)), (6, .d (.int .i64 i)), (7, .d (.int .i64 p.2))])
        (fun p => [(10000, .arr 2 1 (p.1.map (.int .i64)))]) (fun p => p.2) (L, i) ⟨hP, ordJ_of hO, Nat.le_refl _⟩ ?_ rfl ?_
      . exact zs
      . rintro ⟨L, j⟩ ⟨hP, hO, hj⟩
        dsimp only at hP hO hj
        have hL := hP.length_eq
        have done : ∀ he : j = 0 \/ L.getD (j - 1) 0 <= L.getD j 0, (L, i + 1).1.Perm xs /\ ordIns (L, i + 1).1 (L, i + 1).2 /\ 1 <= (L, i + 1).2 /\ ((L, i + 1).2 <= xs.length \/ (L, i + 1).2 = 1) := fun he => ⟨hP, ordIns_end hO he, by dsimp only; omega, .inl (by dsimp only; omega)⟩
        by_cases h0 : j = 0
        . subst h0
          repeat (first | refine zc ?_ | refine zk (e := by exact impl_less) (n := ?_) | refine zv ?_ | refine zg ?_)
          refine loop_n (L, i + 1) (by exact done (.inl rfl)) ?_ rfl (by first | omega | (dsimp only; omega) | (simp; omega))
          exact zs
        . have x1 : (L.map (D.int .i64))[(j : Int).toNat]? = some (.int .i64 (L.getD j 0)) := el_L (by omega)
          have x2 : (L.map (D.int .i64))[((j : Int) - 1).toNat]? = some (.int .i64 (L.getD (j - 1) 0)) := by
            rw [show ((j : Int) - 1).toNat = j - 1 by omega]
            exact el_L (by omega)
          have hle : (L.map (D.int .i64)).length = L.length := by simp
          obtain ⟨va, hva⟩ : ∃ v, L.getD j 0 = v := ⟨_, rfl⟩
          obtain ⟨vb, hvb⟩ : ∃ v, L.getD (j - 1) 0 = v := ⟨_, rfl⟩
          rw [hva] at x1
          rw [hvb] at x2
          have hsw : ((L.map (D.int .i64)).set (j : Int).toNat (.int .i64 vb)).set ((j : Int) - 1).toNat (.int .i64 va) = (swp L j).map (.int .i64) := by
            unfold swp
            rw [hva, hvb, show ((j : Int) - 1).toNat = j - 1 by omega]
            simp
          by_cases hc : va < vb
          . repeat (first | refine zcn ?_ | refine zv ?_)
            refine u_d ?_
            repeat (first | refine zcn ?_ | refine zk (e := by exact impl_less) (n := ?_) | refine zv ?_ | refine zg ?_)
            refine u_m [(2, []), (15, [10000]), (17, [10000])] (.tk [] [0, 1, 5, 6, 7, 8, 9, 10, 11, 12, 13, 14] (.tk [10000] [3, 4] (.fork 2 15 (.tk [] [15, 16, 17] .done) (.tk [] [2, 16, 17] .done)))) ?_
            repeat (first | refine zc ?_ | refine zv ?_)
            refine m_fork ?_ ?_
            . repeat (first | refine zc ?_ | refine zv ?_)
              refine loop_n (swp L j, j - 1) ⟨(swp_perm (by omega) (by omega)).trans hP, ordJ_swp hO (by omega) (by omega) (by omega) (by rw [hva, hvb]; exact hc), by dsimp only; omega⟩ ?_ (by exact congrArg (fun l => [(10000, Chunk.arr 2 1 l)]) hsw.symm) (by dsimp only; omega)
              exact zs
            . repeat (first | refine zc ?_ | refine zv ?_)
              refine loop_n (swp L j, j - 1) ⟨(swp_perm (by omega) (by omega)).trans hP, ordJ_swp hO (by omega) (by omega) (by omega) (by rw [hva, hvb]; exact hc), by dsimp only; omega⟩ ?_ (by exact congrArg (fun l => [(10000, Chunk.arr 2 1 l)]) hsw.symm) (by dsimp only; omega)
              exact zs
          . repeat (first | refine zc ?_ | refine zk (e := by exact impl_less) (n := ?_) | refine zv ?_ | refine zg ?_)
            refine loop_n (L, i + 1) (by exact done (.inr (by rw [hva, hvb]; omega))) ?_ rfl (by first | omega | (dsimp only; omega) | (simp; omega))
            exact zs
    . have e : L = srt xs := srt_of hP (sorted_of_ordI fun p q h1 h2 => hO p q h1 (by omega))
      repeat (first | refine zc ?_ | refine zv ?_)
      (refine u_eH [(10000, 10000)] ?_ ?_)
      . rfl
      . rw [<- e]; rfl
def lenS (n : Nat) : Int := [0, 1, 2, 2, 3, 3, 3, 3, 4, 4, 4, 4, 4].getD n 0
theorem impl_len64 {n : Nat} (h : n <= 12) : AC Tryz.prog 287 [.int .u64 n] (.int .i64 (lenS n)) := by
  have hc : n = 0 \/ n = 1 \/ n = 2 \/ n = 3 \/ n = 4 \/ n = 5 \/ n = 6 \/ n = 7 \/ n = 8 \/ n = 9 \/ n = 10 \/ n = 11 \/ n = 12 := by omega
  rcases hc with rfl | rfl | rfl | rfl | rfl | rfl | rfl | rfl | rfl | rfl | rfl | rfl | rfl
  all_goals refine ac_intro tabIs _ Tryz.func287 rfl rfl Tryz.ntmps287 rfl rfl fun w0 ok0 he0 => ?_
  all_goals (repeat (first | refine zc ?_ | refine zv ?_))
  all_goals (apply lq; exact rfl; (focus (apply qa_strIndex; exact rfl; exact rfl; exact (by decide); exact rfl; exact rfl; exact rfl)))
  all_goals (repeat (first | refine zc ?_ | refine zv ?_))
  all_goals (refine zt ?_)
  all_goals rfl
theorem impl_len {n : Nat} (h : n <= 12) : AC Tryz.prog 210 [.int .u64 n] (.int .i64 (lenS n)) := by
  have e := impl_len64 h
  refine ac_intro tabIs _ Tryz.func210 rfl rfl Tryz.ntmps210 rfl rfl fun w0 ok0 he0 => ?_
  repeat (first | refine zc ?_ | refine zk (e := by exact e) (n := ?_) | refine zv ?_)
  refine zt ?_
  rfl
theorem impl_pdqH {xs : List Int} {k : Int} (hn : xs.length <= 12) :
    HC Tryz.prog 264 [.own 10000, .d (.int .i64 0), .d (.int .i64 xs.length), .d (.int .i64 k)] [(10000, .arr 2 1 (xs.map (.int .i64)))] (.d (.tup [])) [(10000, .arr 2 1 ((srt xs).map (.int .i64)))] := by
  have hsl := srt_length xs
  have e := impl_insertionH (xs := xs) (by omega)
  refine hc_intro tabIs _ Tryz.func264 rfl rfl Tryz.ntmps264 rfl rfl rfl ?_ fun w0 ok0 XM XA anc he0 hX0 => ?_
  . exact likeIn_cons rfl ⟨rfl, rfl, by simp [hsl]⟩ likeIn_nil
  repeat (first | refine zc ?_ | refine zv ?_)
  refine awp_loop (fun _ : Unit => True) (fun _ => [(0, .own 10000), (1, .d (.int .i64 0)), (2, .d (.int .i64 xs.length)), (3, .d (.int .i64 k))]) (fun _ => [(10000, .arr 2 1 (xs.map (.int .i64)))]) (fun _ => 0) () trivial ?_ rfl ?_
  . exact zs
  . intro _ _
    repeat (first | refine zc ?_ | refine zv ?_)
    refine hcl [(10000, 10000)] [(10000, 10000)] e ?_
    repeat (first | refine zc ?_ | refine zv ?_)
    (refine zb ?_; refine u_rH [(10000, 10000)] ?_ ?_)
    . rfl
    . rfl
theorem impl_sortH {xs : List Int} (hn : xs.length <= 12) :
    HC Tryz.prog 171 [.own 10000] [(10000, .arr 2 1 (xs.map (.int .i64)))] (.d (.tup [])) [(10000, .arr 2 1 ((srt xs).map (.int .i64)))] := by
  have hsl := srt_length xs
  have hle : (xs.map (D.int .i64)).length = xs.length := by simp
  have e1 := impl_len hn
  have e2 := impl_pdqH (xs := xs) (k := lenS xs.length) hn
  have hku : IntKind.u64 = .u64 \/ IntKind.u64 = .i64 := .inl rfl
  refine hc_intro tabIs _ Tryz.func171 rfl rfl Tryz.ntmps171 rfl rfl rfl ?_ fun w0 ok0 XM XA anc he0 hX0 => ?_
  . exact likeIn_cons rfl ⟨rfl, rfl, by simp [hsl]⟩ likeIn_nil
  rw [<- hle] at e1 e2
  repeat (first | refine zc ?_ | ((first | apply x_l | apply x_q | apply x_lr | apply x_qr); (focus (first | (apply qk_conv; (iterate 6 (focus (first | exact rfl | (first | assumption | omega | (simp; omega) | (simp; done) | rfl))))))); exact rfl) | refine zk (e := by exact e1) (n := ?_) | (apply v_x; (iterate 2 exact rfl); (focus (intro ok0 nw hle; (first | (apply qk_conv; (iterate 6 (focus (first | exact rfl | (first | assumption | omega | (simp; omega) | (simp; done) | rfl)))))))); (iterate 2 exact rfl)) | refine zv ?_)
  refine hcl [(10000, 10000)] [(10000, 10000)] e2 ?_
  repeat (first | refine zc ?_ | refine zv ?_)
  (refine u_eH [(10000, 10000)] ?_ ?_)
  . rfl
  . rfl
theorem impl_compactH {xs : List Int} (hn : xs.length <= 1048576) :
    HC Tryz.prog 172 [.own 20000] [(20000, .arr 2 1 (xs.map (.int .i64)))] (.own 20000) [(20000, .arr 2 1 ((ddF eqI xs).map (.int .i64)))] := by
  have hle : (xs.map (D.int .i64)).length = xs.length := by simp
  by_cases h2 : xs.length < 2
  . have e : ddF eqI xs = xs := ddF_none fun j h0 hj => by omega
    rw [e]
    refine hc_intro tabIs _ Tryz.func172 rfl rfl Tryz.ntmps172 rfl rfl rfl ?_ fun w0 ok0 XM XA anc he0 hX0 => ?_
    . exact likeIn_cons rfl ⟨rfl, rfl, rfl⟩ likeIn_nil
    repeat (first | refine zc ?_ | refine zv ?_)
    (refine zb ?_; refine u_rH [(20000, 20000)] ?_ ?_)
    . rfl
    . rfl
  . refine hc_intro tabIs _ Tryz.func172 rfl rfl Tryz.ntmps172 rfl rfl rfl ?_ fun w0 ok0 XM XA anc he0 hX0 => ?_
    . exact fun p hp ha => by simp at hp; subst hp; cases ha
    repeat (first | refine zc ?_ | refine zv ?_)
    refine awp_loop (fun k : Nat => 1 <= k /\ k <= xs.length /\ ∀ j, 0 < j -> (hj : j < k) -> (hj2 : j < xs.length) -> eqI xs[j] (xs[j - 1]'(by omega)) = false) (fun k => [(0, .own 20000), (3, .d (.int .i64 k))])
      (fun k => [(20000, .arr 2 1 (xs.map (.int .i64)))]) (fun k => xs.length - k) 1 ⟨Nat.le_refl _, by omega, fun j h0 h1 => by omega⟩ ?_ rfl ?_
    . exact zs
    . rintro k ⟨hk1, hk2, hno⟩
      by_cases hlt : k < xs.length
      . have x1 : (xs.map (D.int .i64))[(k : Int).toNat]? = some (.int .i64 xs[k]) := by simp [hlt]
        have x2 : (xs.map (D.int .i64))[((k : Int) - 1).toNat]? = some (.int .i64 (xs[k - 1]'(by omega))) := by
          rw [show ((k : Int) - 1).toNat = k - 1 by omega]
          simp [show k - 1 < xs.length by omega]
        by_cases hc : xs[k] = xs[k - 1]
        . obtain ⟨f1, f2⟩ := cmpR_first (eq := eqI) (by omega) hlt (fun j h0 hj => hno j h0 hj (by omega)) (by simp [eqI, hc])
          repeat (first | refine zc ?_ | ((first | apply x_l | apply x_q | apply x_lr | apply x_qr); (focus (first | (apply wv_view; (iterate 9 (focus (first | exact rfl | (first | assumption | omega | (simp; omega) | (simp; done) | rfl))))))); exact rfl) | (apply v_x; (iterate 2 exact rfl); (focus (intro ok0 nw hle; (first | (apply wv_view; (iterate 9 (focus (first | exact rfl | (first | assumption | omega | (simp; omega) | (simp; done) | rfl)))))))); (iterate 2 exact rfl)) | refine zv ?_)
          refine awp_loop (fun q : Nat => 1 <= q /\ k + q <= xs.length /\ (ddF eqI (xs.take (k + q))).length < k + q) (fun q => [(0, .own 20000), (3, .d (.int .i64 (ddF eqI (xs.take (k + q))).length)), (4, .sub 20000 (2 * (k : Int).toNat)), (5, .d (.int .i64 q))])
            (fun q => [(20000, .arr 2 1 ((cmpR eqI xs (k + q)).map (.int .i64)))]) (fun q => xs.length - q) 1 ⟨Nat.le_refl _, by omega, by omega⟩ ?_ ?_ ?_
          . refine ⟨rfl, ?_, rfl, rfl, trivial⟩
            rw [f1]
            rfl
          . rw [f2]
          . rintro q ⟨hq1, hq2, hq3⟩
            have hcl := cmpR_len (eq := eqI) (xs := xs) (m := k + q)
            have hlm : ((cmpR eqI xs (k + q)).map (D.int .i64)).length = xs.length := by simp [hcl]
            have hdl := (ddT_len (eq := eqI) (xs := xs) (m := k + q)).2
            by_cases hlq : k + q < xs.length
            . have y1 : ((cmpR eqI xs (k + q)).map (D.int .i64))[(k : Int).toNat + (q : Int).toNat]? = some (.int .i64 xs[k + q]) := by
                rw [List.getElem?_map, show (k : Int).toNat + (q : Int).toNat = k + q by omega, cmpR_get (by omega), List.getElem?_eq_getElem hlq]
                rfl
              have y2 : ((cmpR eqI xs (k + q)).map (D.int .i64))[(k : Int).toNat + ((q : Int) - 1).toNat]? = some (.int .i64 (xs[k + q - 1]'(by omega))) := by
                rw [List.getElem?_map, show (k : Int).toNat + ((q : Int) - 1).toNat = k + q - 1 by omega, cmpR_get (by omega), List.getElem?_eq_getElem (by omega)]
                rfl
              by_cases hd : xs[k + q] = xs[k + q - 1]
              . obtain ⟨g1, g2⟩ := cmpR_same (eq := eqI) (m := k + q) (by omega) hlq (by simp [eqI, hd])
                generalize xs[k + q] = va at *
                generalize xs[k + q - 1] = vb at *
                repeat (first | refine zc ?_ | ((first | apply x_l | apply x_q | apply x_lr | apply x_qr); (focus (first | (apply wv_index; (iterate 9 (focus (first | exact rfl | (first | assumption | omega | (simp; omega) | (simp; done) | rfl))))) | (apply wv_len; (iterate 4 (focus (first | exact rfl | (first | assumption | omega | (simp; omega) | (simp; done) | rfl))))))); exact rfl) | (apply v_x; (iterate 2 exact rfl); (focus (intro ok0 nw hle; (first | (apply wv_index; (iterate 9 (focus (first | exact rfl | (first | assumption | omega | (simp; omega) | (simp; done) | rfl))))) | (apply wv_len; (iterate 4 (focus (first | exact rfl | (first | assumption | omega | (simp; omega) | (simp; done) | rfl)))))))); (iterate 2 exact rfl)) | refine zv ?_)
                refine loop_n (q + 1) ⟨by omega, by omega, ?_⟩ ?_ ?_ (by omega)
                . rw [show k + (q + 1) = k + q + 1 by omega, g1]; omega
                . refine ⟨rfl, ?_, rfl, rfl, trivial⟩
                  rw [show k + (q + 1) = k + q + 1 by omega, g1]
                  rfl
                . rw [show k + (q + 1) = k + q + 1 by omega, g2]
              . obtain ⟨g1, g2⟩ := cmpR_new (eq := eqI) (m := k + q) (by omega) hlq (by simp [eqI, hd])
                generalize hva : xs[k + q] = va at *
                generalize xs[k + q - 1] = vb at *
                repeat (first | refine zc ?_ | ((first | apply x_l | apply x_q | apply x_lr | apply x_qr); (focus (first | (apply wv_index; (iterate 9 (focus (first | exact rfl | (first | assumption | omega | (simp; omega) | (simp; done) | rfl))))) | (apply wv_len; (iterate 4 (focus (first | exact rfl | (first | assumption | omega | (simp; omega) | (simp; done) | rfl))))))); exact rfl) | (apply v_x; (iterate 2 exact rfl); (focus (intro ok0 nw hle; (first | (apply wv_index; (iterate 9 (focus (first | exact rfl | (first | assumption | omega | (simp; omega) | (simp; done) | rfl))))) | (apply wv_len; (iterate 4 (focus (first | exact rfl | (first | assumption | omega | (simp; omega) | (simp; done) | rfl)))))))); (iterate 2 exact rfl)) | refine zv ?_)
                refine loop_n (q + 1) ⟨by omega, by omega, ?_⟩ ?_ ?_ (by omega)
                . rw [show k + (q + 1) = k + q + 1 by omega, g1]; omega
                . refine ⟨rfl, ?_, rfl, rfl, trivial⟩
                  rw [show k + (q + 1) = k + q + 1 by omega, g1]
                  simp [lk]
                . rw [show k + (q + 1) = k + q + 1 by omega, <- g2]
                  simp [setH]
            . have hm : k + q = xs.length := by omega
              have hce := cmpR_end (eq := eqI) (xs := xs)
              rw [hm] at hdl hcl hlm hq3 ⊢
              rw [List.take_length] at hdl hq3 ⊢
              generalize hP : ddF eqI xs = P at *
              generalize cmpR eqI xs xs.length = R at *
              have hR : R.take P.length = P := hce
              repeat (first | refine zc ?_ | ((first | apply x_l | apply x_q | apply x_lr | apply x_qr); (focus (first | (apply wv_len; (iterate 4 (focus (first | exact rfl | (first | assumption | omega | (simp; omega) | (simp; done) | rfl))))))); exact rfl) | (apply v_x; (iterate 2 exact rfl); (focus (intro ok0 nw hle; (first | (apply wv_len; (iterate 4 (focus (first | exact rfl | (first | assumption | omega | (simp; omega) | (simp; done) | rfl)))))))); (iterate 2 exact rfl)) | refine zv ?_)
              refine awpL_clear ?_ rfl rfl rfl rfl rfl rfl rfl rfl rfl rfl rfl rfl rfl (by omega) (by omega)
              repeat (first | refine zc ?_ | refine zv ?_)
              (apply lto; (focus (apply wo_cut; (iterate 8 exact rfl); omega; (simp [setH, hlm]; omega))))
              repeat (first | refine zc ?_ | refine zv ?_)
              (refine zb ?_; refine u_rH [(20000, 20000)] ?_ ?_)
              . rfl
              . have hfin : List.take ((P.length : Nat) : Int).toNat (List.take ((P.length : Nat) : Int).toNat (List.map (D.int .i64) R) ++ List.replicate ((List.map (D.int .i64) R).length - ((P.length : Nat) : Int).toNat) (D.int .i64 0)) = P.map (D.int .i64) := by
                  rw [Int.toNat_natCast, <- List.map_take, hR, List.take_left' (by simp)]
                exact congrArg (fun l => some [(20000, Chunk.arr 2 1 l)]) hfin
        . repeat (first | refine zc ?_ | refine zv ?_)
          refine loop_n (k + 1) ⟨by omega, by omega, fun j h0 h1 h2 => ?_⟩ ?_ rfl (by omega)
          . by_cases e : j = k
            . subst e
              simp [eqI, hc]
            . exact hno j h0 (by omega) h2
          . exact zs
      . have e : ddF eqI xs = xs := ddF_none fun j h0 hj => hno j h0 (by omega) hj
        rw [e]
        repeat (first | refine zc ?_ | refine zv ?_)
        (refine zb ?_; refine u_rH [(20000, 20000)] ?_ ?_)
        . rfl
        . rfl
theorem impl_sorted {xs : List Int} (hn : xs.length <= 12) : AC Tryz.prog 63 [ints xs] (ints (srtd xs)) := by
  have c1 := impl_cloneH (ns := xs) (by omega)
  have c2 := impl_sortH hn
  have c3 := impl_compactH (xs := srt xs) (by rw [srt_length]; omega)
  unfold srtd
  refine ac_intro tabIs _ Tryz.func63 rfl rfl Tryz.ntmps63 rfl rfl fun w0 ok0 he0 => ?_
  repeat (first | refine zc ?_ | refine zv ?_)
  refine hcl [] [(30000, 500)] c1 ?_
  repeat (first | refine zc ?_ | refine zv ?_)
  refine hcl [(500, 10000)] [(10000, 500)] c2 ?_
  repeat (first | refine zc ?_ | refine zv ?_)
  refine hcl [(500, 20000)] [(20000, 500)] c3 ?_
  repeat (first | refine zc ?_ | refine zv ?_)
  refine zt ?_
  rfl
theorem impl_atW {s q0 : Int} {nx : List (List Int)} {lp w : List Int} (v : LV s nx lp) (hq0 : 0 <= q0 /\ q0 < s) (hwl : w.length <= 400) (hwa : ∀ l ∈ w, 0 <= l /\ l < nx.length) :
    AC Tryz.prog 205 [.agg [.int .i64 s, rows nx], .int .i64 q0, ints w] (.int .i64 (runS nx q0 w)) := by
  have hle : (List.map (D.int IntKind.i64) w).length = w.length := by simp
  refine ac_intro tabIs _ Tryz.func205 rfl rfl Tryz.ntmps205 rfl rfl fun w0 ok0 he0 => ?_
  repeat (first | refine zc ?_ | refine zv ?_)
  refine awp_loop (fun p : Nat × Int => p.1 <= w.length /\ (0 <= p.2 /\ p.2 < s) /\ runS nx p.2 (w.drop p.1) = runS nx q0 w)
    (fun p => [(1, .d (.int .i64 p.2)), (3, .d (.ptr (.agg [.int .i64 s, rows nx]))), (9, .d (ints w)), (10, .d (.int .i64 (List.map (D.int IntKind.i64) w).length)), (11, .d (.int .i64 p.1))]) (fun _ => []) (fun p => w.length - p.1) (0, q0) ⟨by simp, hq0, rfl⟩ ?_ rfl ?_
  . exact zs
  . rintro ⟨k, q⟩ ⟨hk, hq, hg⟩
    dsimp only at hk hq hg
    by_cases hlt : k < w.length
    . have hx := el_int hlt
      have hl := hwa _ (List.getElem_mem hlt)
      have r1 := el_row2 hl
      have l1 := tbl_row v.nx hl
      have q1 : (List.map (D.int .i64) (row nx w[k]))[q.toNat]? = some (.int .i64 (at2 nx w[k] q)) := el_int2 (ns := row nx w[k]) (q := q) (by omega)
      have p1 := tbl_at v.nx hl hq
      rw [List.drop_eq_getElem_cons hlt] at hg
      simp only [runS] at hg
      repeat (first | refine zc ?_ | refine zv ?_)
      refine loop_n (k + 1, at2 nx w[k] q) ⟨by omega, p1, hg⟩ ?_ rfl (by dsimp only; omega)
      exact zs
    . have : k = w.length := by omega
      subst this
      simp only [List.drop_length, runS] at hg
      subst hg
      repeat (first | refine zc ?_ | refine zv ?_)
      refine zt ?_
      rfl
end Go.Proofs.YtckpadnjldebaaaGreat
