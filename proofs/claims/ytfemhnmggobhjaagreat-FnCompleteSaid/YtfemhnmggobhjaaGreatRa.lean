/- Rows that are sorted in place, and of equal neighbours one: plain facts. No condition. -/
import Derived.Test.YtfemhnmggobhjaaGreatSb
import Derived.Test.YtfemhnmggobhjaaGreatFy
import Derived.Test.YtfemhnmggobhjaaGreatFwW
import Derived.Test.YtfemhnmggobhjaaGreatKa
namespace Go.Proofs.YtfemhnmggobhjaaGreat
open Go
attribute [local irreducible] awp awpL awpQL awpQ awpM pWalk Qt AC thenQ blockQ loopQ OpTo
set_option linter.unusedVariables false
set_option linter.unusedSimpArgs false
set_option maxHeartbeats 2000000
attribute [local irreducible] HC
def ddA {α : Type} (eq : α -> α -> Bool) : List α -> α -> List α -> List α
  | out, _, [] => out
  | out, x, y :: l => if eq y x then ddA eq out y l else ddA eq (out ++ [y]) y l
theorem ddA_mem {α : Type} {eq : α -> α -> Bool} : ∀ (l out : List α) (x z : α), z ∈ ddA eq out x l -> z ∈ out \/ z ∈ l
  | [], out, x, z, h => .inl h
  | y :: l, out, x, z, h => by
    unfold ddA at h
    split at h
    . rcases ddA_mem l out y z h with h | h
      . exact .inl h
      . exact .inr (List.mem_cons_of_mem _ h)
    . rcases ddA_mem l (out ++ [y]) y z h with h | h
      . rcases List.mem_append.1 h with h | h
        . exact .inl h
        . simp at h; subst h; exact .inr (List.mem_cons_self ..)
      . exact .inr (List.mem_cons_of_mem _ h)
theorem ddA_out {α : Type} {eq : α -> α -> Bool} : ∀ (l out : List α) (x z : α), z ∈ out -> z ∈ ddA eq out x l
  | [], out, x, z, h => h
  | y :: l, out, x, z, h => by
    unfold ddA
    split
    . exact ddA_out l out y z h
    . exact ddA_out l _ y z (List.mem_append_left _ h)
theorem ddA_len {α : Type} {eq : α -> α -> Bool} : ∀ (l out : List α) (x : α), (ddA eq out x l).length <= out.length + l.length
  | [], out, x => Nat.le_refl _
  | y :: l, out, x => by
    unfold ddA
    split
    . have := ddA_len (eq := eq) l out y; simp; omega
    . have := ddA_len (eq := eq) l (out ++ [y]) y; simp at this ⊢; omega
theorem ddA_snoc {α : Type} {eq : α -> α -> Bool} : ∀ (l out : List α) (x y : α), ddA eq out x (l ++ [y]) = ddA eq out x l ++ if eq y ((x :: l).getLast (by simp)) then [] else [y]
  | [], out, x, y => by
    simp only [List.nil_append, ddA, List.getLast_singleton]
    split <;> (rename_i h; simp [h])
  | z :: l, out, x, y => by
    simp only [List.cons_append, ddA]
    have e : (x :: z :: l).getLast (by simp) = (z :: l).getLast (by simp) := by simp
    rw [e]
    split
    . exact ddA_snoc l out z y
    . exact ddA_snoc l (out ++ [z]) z y
def ddF {α : Type} (eq : α -> α -> Bool) : List α -> List α
  | [] => []
  | x :: l => ddA eq [x] x l
theorem ddF_len {α : Type} {eq : α -> α -> Bool} (l : List α) : (ddF eq l).length <= l.length := by
  cases l with
  | nil => simp [ddF]
  | cons x l => have := ddA_len (eq := eq) l [x] x; simp [ddF] at this ⊢; omega
theorem ddF_take {α : Type} {eq : α -> α -> Bool} {l : List α} {m : Nat} (h0 : 0 < m) (hm : m < l.length) : ddF eq (l.take (m + 1)) = ddF eq (l.take m) ++ if eq l[m] (l[m - 1]'(by omega)) then [] else [l[m]] := by
  rw [List.take_succ_eq_append_getElem hm]
  cases l with
  | nil => simp at hm
  | cons x l =>
    obtain ⟨m, rfl⟩ : ∃ k, m = k + 1 := ⟨m - 1, by omega⟩
    simp only [List.take_succ_cons, List.cons_append, ddF]
    rw [ddA_snoc]
    congr 2
    have : (x :: l.take m).getLast (by simp) = (x :: l)[m + 1 - 1]'(by omega) := by
      rw [List.getLast_eq_getElem]
      simp only [List.length_cons, List.length_take, Nat.add_sub_cancel]
      have hl : m <= l.length := by simp at hm; omega
      have e : x :: l.take m = (x :: l).take (m + 1) := by simp
      simp only [e, List.getElem_take, Nat.min_eq_left hl]
    rw [this]
theorem ddF_all {α : Type} {eq : α -> α -> Bool} {l : List α} : ∀ {m : Nat}, 0 < m -> m <= l.length -> (∀ k, 0 < k -> (hk : k < m) -> (hl : k < l.length) -> eq l[k] (l[k - 1]'(by omega)) = false) -> ddF eq (l.take m) = l.take m
  | 1, _, hm, _ => by
    cases l with
    | nil => simp at hm
    | cons x l => simp [ddF, ddA]
  | m + 2, _, hm, h => by
    rw [ddF_take (by omega) (by omega), ddF_all (by omega) (by omega) (fun k h0 hk hl => h k h0 (by omega) hl), h (m + 1) (by omega) (by omega) (by omega), List.take_succ_eq_append_getElem (show m + 1 < l.length by omega)]
    rfl
def cmpR {α : Type} (eq : α -> α -> Bool) (xs : List α) (m : Nat) : List α := ddF eq (xs.take m) ++ xs.drop (ddF eq (xs.take m)).length
theorem ddT_len {α : Type} {eq : α -> α -> Bool} {xs : List α} {m : Nat} : (ddF eq (xs.take m)).length <= m /\ (ddF eq (xs.take m)).length <= xs.length := by
  have := ddF_len (eq := eq) (xs.take m)
  rw [List.length_take] at this
  omega
theorem cmpR_len {α : Type} {eq : α -> α -> Bool} {xs : List α} {m : Nat} : (cmpR eq xs m).length = xs.length := by
  have := ddT_len (eq := eq) (xs := xs) (m := m)
  unfold cmpR
  rw [List.length_append, List.length_drop]
  omega
theorem cmpR_get {α : Type} {eq : α -> α -> Bool} {xs : List α} {m i : Nat} (h : (ddF eq (xs.take m)).length <= i) : (cmpR eq xs m)[i]? = xs[i]? := by
  unfold cmpR
  rw [List.getElem?_append_right h, List.getElem?_drop]
  congr 1
  omega
theorem cmpR_same {α : Type} {eq : α -> α -> Bool} {xs : List α} {m : Nat} (h0 : 0 < m) (hm : m < xs.length) (he : eq xs[m] (xs[m - 1]'(by omega)) = true) : ddF eq (xs.take (m + 1)) = ddF eq (xs.take m) /\ cmpR eq xs (m + 1) = cmpR eq xs m := by
  have := ddF_take (eq := eq) h0 hm
  rw [he, if_pos rfl, List.append_nil] at this
  exact ⟨this, by unfold cmpR; rw [this]⟩
theorem cmpR_new {α : Type} {eq : α -> α -> Bool} {xs : List α} {m : Nat} (h0 : 0 < m) (hm : m < xs.length) (he : eq xs[m] (xs[m - 1]'(by omega)) = false) :
    (ddF eq (xs.take (m + 1))).length = (ddF eq (xs.take m)).length + 1 /\ (cmpR eq xs m).set (ddF eq (xs.take m)).length xs[m] = cmpR eq xs (m + 1) := by
  have h1 := ddF_take (eq := eq) h0 hm
  have hl := (ddT_len (eq := eq) (xs := xs) (m := m)).1
  rw [he] at h1
  have h1 : ddF eq (xs.take (m + 1)) = ddF eq (xs.take m) ++ [xs[m]] := h1
  refine ⟨by rw [h1]; simp, ?_⟩
  unfold cmpR
  rw [h1]
  generalize ddF eq (xs.take m) = P at *
  have e : xs.drop P.length = xs[P.length]'(by omega) :: xs.drop (P.length + 1) := List.drop_eq_getElem_cons (by omega)
  rw [List.set_append_right _ _ (Nat.le_refl _), Nat.sub_self, List.length_append, List.length_singleton, List.append_assoc]
  congr 1
  rw [e]
  rfl
theorem cmpR_first {α : Type} {eq : α -> α -> Bool} {xs : List α} {k : Nat} (h0 : 0 < k) (hk : k < xs.length) (hno : ∀ j, 0 < j -> (hj : j < k) -> eq (xs[j]'(by omega)) (xs[j - 1]'(by omega)) = false) (he : eq xs[k] (xs[k - 1]'(by omega)) = true) :
    (ddF eq (xs.take (k + 1))).length = k /\ cmpR eq xs (k + 1) = xs := by
  have h1 := ddF_all (eq := eq) (l := xs) (m := k) h0 (by omega) fun j h1 h2 h3 => hno j h1 h2
  have h2 := (cmpR_same h0 hk he).1
  rw [h1] at h2
  have hl : (xs.take k).length = k := by rw [List.length_take]; omega
  refine ⟨by rw [h2, hl], ?_⟩
  unfold cmpR
  rw [h2, hl, List.take_append_drop]
theorem cmpR_end {α : Type} {eq : α -> α -> Bool} {xs : List α} : (cmpR eq xs xs.length).take (ddF eq xs).length = ddF eq xs := by
  unfold cmpR
  rw [List.take_length, List.take_left]
theorem ddF_none {α : Type} {eq : α -> α -> Bool} {xs : List α} (hno : ∀ j, 0 < j -> (hj : j < xs.length) -> eq xs[j] (xs[j - 1]'(by omega)) = false) : ddF eq xs = xs := by
  rcases Nat.eq_zero_or_pos xs.length with h | h
  . rw [List.eq_nil_of_length_eq_zero h]; rfl
  . have := ddF_all (eq := eq) (l := xs) h (Nat.le_refl _) fun j h1 h2 h3 => hno j h1 h2
    rwa [List.take_length] at this
end Go.Proofs.YtfemhnmggobhjaaGreat
namespace Go.Proofs.YtfemhnmggobhjaaGreat
open Go
attribute [local irreducible] awp awpL awpQL awpQ awpM pWalk Qt AC thenQ blockQ loopQ OpTo
set_option linter.unusedVariables false
set_option linter.unusedSimpArgs false
set_option maxHeartbeats 2000000
attribute [local irreducible] HC
theorem impl_isNaN {a : Int} : AC Tryz.prog 172 [.int .i64 a] (.bool false) := by
  refine ac_intro tabIs _ Tryz.func172 rfl rfl Tryz.ntmps172 rfl rfl fun w0 ok0 he0 => ?_
  repeat (first | refine zc ?_ | refine zv ?_)
  refine zt ?_
  simp
theorem map_set (L : List Int) (j : Nat) (x : Int) : (L.map (D.int .i64)).set j (.int .i64 x) = (L.set j x).map (.int .i64) := by simp
end Go.Proofs.YtfemhnmggobhjaaGreat
