/- strings.Split at a new line: its contract over data, and its pieces in plain words. Condition: the text is no longer than a million. -/
import Derived.Test.YtffmlijngfhhaaaGreatDoorWa
import Derived.Test.YtffmlijngfhhaaaGreatDoorSl
namespace Go.Proofs.YtffmlijngfhhaaaGreatDoor
open Go Go.Proofs Go.RowKit Go.Lib
set_option linter.unusedVariables false
set_option linter.unusedSimpArgs false

/-! ### Plain -/
def lns : List UInt8 → List (List UInt8)
  | [] => [[]]
  | c :: r => if c = 10 then [] :: lns r else match lns r with
    | [] => [[c]]
    | h :: t => (c :: h) :: t
theorem lns_ne (l : List UInt8) : lns l ≠ [] := by
  cases l with
  | nil => simp [lns]
  | cons c r =>
    unfold lns
    split
    · simp
    · split <;> simp
theorem lns_at {a b : List UInt8} (h : ∀ c ∈ a, c ≠ 10) : lns (a ++ 10 :: b) = a :: lns b := by
  induction a with
  | nil => simp [lns]
  | cons c r ih =>
    rw [List.cons_append, lns, if_neg (h c (by simp)), ih fun x hx => h x (by simp [hx])]
/-- The pieces, joined, are the text. -/
theorem lns_join (l : List UInt8) : ∀ init last, lns l = init ++ [last] → (init.flatMap fun p => p ++ [10]) ++ last = l := by
  induction l with
  | nil =>
    intro init last h
    cases init with
    | nil => simp [lns] at h; simp [h]
    | cons p q => cases q <;> simp [lns] at h
  | cons c r ih =>
    intro init last h
    rw [lns] at h
    by_cases hc : c = 10
    · rw [if_pos hc] at h
      cases init with
      | nil =>
        simp only [List.nil_append, List.cons.injEq] at h
        exact absurd h.2 (lns_ne r)
      | cons p q =>
        simp only [List.cons_append, List.cons.injEq] at h
        have := ih q last h.2
        rw [← h.1]
        simp only [List.flatMap_cons, List.nil_append, List.cons_append, List.append_assoc]
        rw [this, hc]
    · rw [if_neg hc] at h
      cases hr : lns r with
      | nil => exact absurd hr (lns_ne r)
      | cons p q =>
        rw [hr] at h
        simp only at h
        cases init with
        | nil =>
          simp only [List.nil_append, List.cons.injEq] at h
          have := ih [] p (by rw [hr, h.2]; rfl)
          rw [← h.1]
          simpa using this
        | cons x y =>
          simp only [List.cons_append, List.cons.injEq] at h
          have := ih (p :: y) last (by rw [hr, h.2]; rfl)
          rw [← h.1]
          simp only [List.flatMap_cons, List.cons_append, List.append_assoc] at this ⊢
          rw [this]

theorem splitK_lns (s : List UInt8) : ∀ k, s.count 10 = k → splitK [10] 0 k s = lns s := by
  induction s with
  | nil =>
    intro k h
    simp at h
    subst h
    rfl
  | cons c r ih =>
    intro k h
    by_cases hc : c = 10
    · subst hc
      rw [List.count_cons_self] at h
      subst h
      rw [splitK, index_one]
      simp only [indexByte]
      simp [lns, ih _ rfl]
    · have hb : (c == 10) = false := by simpa using hc
      rw [List.count_cons_of_ne hc] at h
      cases k with
      | zero =>
        have := ih 0 h
        rw [splitK] at this ⊢
        rw [lns, if_neg hc, ← this]
      | succ j =>
        have := ih (j + 1) h
        rw [lns, if_neg hc, ← this]
        have hx : indexByte r 10 ≠ -1 := fun e => by
          have hm : (10 : UInt8) ∈ r := List.count_pos_iff.1 (by omega)
          obtain ⟨q, hq, e2⟩ := List.getElem_of_mem hm
          exact indexByte_none e q (by rw [List.getElem?_eq_getElem hq, e2])
        have hge := indexByte_ge r 10
        obtain ⟨i, hi⟩ := Int.eq_ofNat_of_zero_le (show 0 ≤ indexByte r 10 by omega)
        have h1 : (((i : Nat) : Int) == -1) = false := by simp
        have h2 : ((((i : Nat) : Int) + 1) == -1) = false := by simp; omega
        have h3 : (((i : Nat) : Int) + 1).toNat = i + 1 := by omega
        have hi2 : indexByte (c :: r) 10 = (i : Int) + 1 := by
          rw [indexByte, if_neg (by simpa using hc), hi, if_neg (by rw [h1]; simp)]
        have e1 : splitK [10] 0 (j + 1) r = r.take i :: splitK [10] 0 j (r.drop (i + 1)) := by
          rw [splitK, index_one, hi, if_neg (by rw [h1]; simp)]
          simp
        have e2 : splitK [10] 0 (j + 1) (c :: r) = (c :: r.take i) :: splitK [10] 0 j (r.drop (i + 1)) := by
          rw [splitK, index_one, hi2, if_neg (by rw [h2]; simp), h3]
          simp
        rw [e1, e2]

/-! ### The contract -/
theorem c_split (s : ByteArray) (w : World) (hs : s.size < 4294967281) : Calls Tryz.prog 96 #[.string s, .string ⟨#[10]⟩] w fun e w' =>
    e = .returned (.slice (some ⟨w.heap.size, 0, none⟩) (countB s ⟨#[10]⟩ + 1) (countB s ⟨#[10]⟩ + 1)) ∧ w' = w.alloc (.cells ((splitB ⟨#[10]⟩ 0 (countB s ⟨#[10]⟩) s).map Value.string).toArray (spl_ren.t 9)) := by
  have hle := countB_le ⟨#[10]⟩ (by decide) s.size s (Nat.le_refl _)
  have hlen := splitB_all ⟨#[10]⟩ (by decide) 0 _ s rfl
  have c := Any.strings_genSplit_core (P := Tryz.prog) (ρ := spl_ren) { spl with } (by kernel_rfl) s ⟨#[10]⟩ 0 (-1) (countB s ⟨#[10]⟩ + 1) w hs (by decide) (by decide)
    (fun x cs hx => (Any.strings_Index_one { spl with } x 10 _).mono fun e w' ⟨he, hw⟩ => ⟨by rw [he]; show _ = Ending.returned (Value.int .i64 (index x.data.toList [10])); rw [index_one], hw⟩)
    ((Any.strings_Count_one { spl with } s 10 w).mono fun e w' ⟨he, hw⟩ => ⟨by rw [he]; show _ = Ending.returned (Value.int .i64 ((count s.data.toList [10] : Nat) : Int)); rw [count_one]; rfl, hw⟩)
    (by decide) (by decide) (by rw [if_pos (by decide)]; omega)
  rw [Nat.add_sub_cancel, hlen] at c
  have e2 : cellsOf (splitB ⟨#[10]⟩ 0 (countB s ⟨#[10]⟩) s) (countB s ⟨#[10]⟩ + 1) = ((splitB ⟨#[10]⟩ 0 (countB s ⟨#[10]⟩) s).map Value.string).toArray := by rw [← hlen]; exact cellsOf_full _
  rw [e2] at c
  go_enter Tryz.func96, Tryz.ntmps96
  go_wp2_with (go_at_call 145; refine c.mono ?_; rintro e w' ⟨rfl, hw⟩; rw [hw])
  go_ret
  exact ⟨rfl, rfl⟩

theorem lns_len (l : List UInt8) : (lns l).length ≤ l.length + 1 := by
  induction l with
  | nil => simp [lns]
  | cons c r ih =>
    rw [lns]
    split
    · simp; exact ih
    · split
      · simp
      · rename_i h t e
        rw [e] at ih
        simp at ih ⊢
        omega

theorem strings_Split {l : List UInt8} (hl : l.length ≤ 1048576) : AC Tryz.prog 96 [.str l, .str [10]] (.lst ((lns l).map .str)) := by
  refine ⟨⟨_, Tryz.func96, by kernel_rfl, by kernel_rfl⟩, fun w ok vs _ hok hr => ?_⟩
  obtain ⟨hs, hr⟩ := hr
  obtain ⟨v0, v1, rfl⟩ : ∃ v0 v1, vs = #[v0, v1] := by
    obtain ⟨x⟩ := vs
    match x, hs with
    | [a, b], _ => exact ⟨a, b, rfl⟩
  have h0 := (hr 0 v0 _ rfl rfl).str_inv
  have h1 := (hr 1 v1 _ rfl rfl).str_inv
  subst h0 h1
  refine (c_split ⟨l.toArray⟩ w (by rw [ByteArray.size]; simp; omega)).mono ?_
  rintro e w' ⟨rfl, rfl⟩
  have hk : (splitB ⟨#[10]⟩ 0 (countB ⟨l.toArray⟩ ⟨#[10]⟩) ⟨l.toArray⟩).map (·.data.toList) = lns l := by
    rw [splitB_data]
    exact splitK_lns l _ (count_one 10 l).symm
  have hlen := splitB_all ⟨#[10]⟩ (by decide) 0 _ (⟨l.toArray⟩ : ByteArray) rfl
  generalize splitB ⟨#[10]⟩ 0 (countB ⟨l.toArray⟩ ⟨#[10]⟩) ⟨l.toArray⟩ = ps at *
  have hle := lns_len l
  have hpl : ps.length = (lns l).length := by rw [← hk]; simp
  rw [← hlen]
  refine ⟨_, rfl, ?_, (Below.refl _ w).alloc (Nat.le_refl _) _⟩
  refine .lst w.heap.size 0 ps.length ps.length _ (spl_ren.t 9) (0, 0) _ (ps.map Value.string) 1 (.inr (Nat.le_refl _)) (heap_alloc_new w _) (by simp [hpl]) (by simp [hpl]) (Nat.le_refl _) (by omega) ?_ ?_
  · intro i v x hv hx
    rw [← hk] at hx
    simp only [List.getElem?_map, Option.map_eq_some_iff] at hv hx
    obtain ⟨p, hp, rfl⟩ := hv
    obtain ⟨_, ⟨q, hq, rfl⟩, rfl⟩ := hx
    rw [hp] at hq
    cases hq
    exact .str _ _ (by cases p; simp)
  · intro i v hv
    simp only [List.getElem?_map, Option.map_eq_some_iff] at hv
    obtain ⟨p, hp, rfl⟩ := hv
    refine ⟨rfl, fun j hj => ?_⟩
    have : j = 0 := by omega
    subst this
    simp [hp, Value.cells]
end Go.Proofs.YtffmlijngfhhaaaGreatDoor
