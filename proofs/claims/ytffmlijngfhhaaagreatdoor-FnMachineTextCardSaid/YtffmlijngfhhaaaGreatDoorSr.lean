/- strings.Split at a blank: its contract over data. Condition: the text is no longer than a million. -/
import Derived.Test.YtffmlijngfhhaaaGreatDoorRw
import Derived.Test.YtffmlijngfhhaaaGreatDoorSl
namespace Go.Proofs.YtffmlijngfhhaaaGreatDoor
open Go Go.Proofs Go.RowKit Go.Lib
set_option linter.unusedVariables false
set_option linter.unusedSimpArgs false

theorem splitK_bls (s : List UInt8) : ∀ k, s.count 32 = k → splitK [32] 0 k s = bls s := by
  induction s with
  | nil =>
    intro k h
    simp at h
    subst h
    rfl
  | cons c r ih =>
    intro k h
    by_cases hc : c = 32
    · subst hc
      rw [List.count_cons_self] at h
      subst h
      rw [splitK, index_one]
      simp only [indexByte]
      simp [bls, ih _ rfl]
    · have hb : (c == 32) = false := by simpa using hc
      rw [List.count_cons_of_ne hc] at h
      cases k with
      | zero =>
        have := ih 0 h
        rw [splitK] at this ⊢
        rw [bls, if_neg hc, ← this]
      | succ j =>
        have := ih (j + 1) h
        rw [bls, if_neg hc, ← this]
        have hx : indexByte r 32 ≠ -1 := fun e => by
          have hm : (32 : UInt8) ∈ r := List.count_pos_iff.1 (by omega)
          obtain ⟨q, hq, e2⟩ := List.getElem_of_mem hm
          exact indexByte_none e q (by rw [List.getElem?_eq_getElem hq, e2])
        have hge := indexByte_ge r 32
        obtain ⟨i, hi⟩ := Int.eq_ofNat_of_zero_le (show 0 ≤ indexByte r 32 by omega)
        have h1 : (((i : Nat) : Int) == -1) = false := by simp
        have h2 : ((((i : Nat) : Int) + 1) == -1) = false := by simp; omega
        have h3 : (((i : Nat) : Int) + 1).toNat = i + 1 := by omega
        have hi2 : indexByte (c :: r) 32 = (i : Int) + 1 := by
          rw [indexByte, if_neg (by simpa using hc), hi, if_neg (by rw [h1]; simp)]
        have e1 : splitK [32] 0 (j + 1) r = r.take i :: splitK [32] 0 j (r.drop (i + 1)) := by
          rw [splitK, index_one, hi, if_neg (by rw [h1]; simp)]
          simp
        have e2 : splitK [32] 0 (j + 1) (c :: r) = (c :: r.take i) :: splitK [32] 0 j (r.drop (i + 1)) := by
          rw [splitK, index_one, hi2, if_neg (by rw [h2]; simp), h3]
          simp
        rw [e1, e2]

/-! ### The contract -/
theorem c_splitB (s : ByteArray) (w : World) (hs : s.size < 4294967281) : Calls Tryz.prog 96 #[.string s, .string ⟨#[32]⟩] w fun e w' =>
    e = .returned (.slice (some ⟨w.heap.size, 0, none⟩) (countB s ⟨#[32]⟩ + 1) (countB s ⟨#[32]⟩ + 1)) ∧ w' = w.alloc (.cells ((splitB ⟨#[32]⟩ 0 (countB s ⟨#[32]⟩) s).map Value.string).toArray (spl_ren.t 9)) := by
  have hle := countB_le ⟨#[32]⟩ (by decide) s.size s (Nat.le_refl _)
  have hlen := splitB_all ⟨#[32]⟩ (by decide) 0 _ s rfl
  have c := Any.strings_genSplit_core (P := Tryz.prog) (ρ := spl_ren) { spl with } (by kernel_rfl) s ⟨#[32]⟩ 0 (-1) (countB s ⟨#[32]⟩ + 1) w hs (by decide) (by decide)
    (fun x cs hx => (Any.strings_Index_one { spl with } x 32 _).mono fun e w' ⟨he, hw⟩ => ⟨by rw [he]; show _ = Ending.returned (Value.int .i64 (index x.data.toList [32])); rw [index_one], hw⟩)
    ((Any.strings_Count_one { spl with } s 32 w).mono fun e w' ⟨he, hw⟩ => ⟨by rw [he]; show _ = Ending.returned (Value.int .i64 ((count s.data.toList [32] : Nat) : Int)); rw [count_one]; rfl, hw⟩)
    (by decide) (by decide) (by rw [if_pos (by decide)]; omega)
  rw [Nat.add_sub_cancel, hlen] at c
  have e2 : cellsOf (splitB ⟨#[32]⟩ 0 (countB s ⟨#[32]⟩) s) (countB s ⟨#[32]⟩ + 1) = ((splitB ⟨#[32]⟩ 0 (countB s ⟨#[32]⟩) s).map Value.string).toArray := by rw [← hlen]; exact cellsOf_full _
  rw [e2] at c
  go_enter Tryz.func96, Tryz.ntmps96
  go_wp2_with (go_at_call 145; refine c.mono ?_; rintro e w' ⟨rfl, hw⟩; rw [hw])
  go_ret
  exact ⟨rfl, rfl⟩

theorem strings_SplitB {l : List UInt8} (hl : l.length ≤ 1048576) : AC Tryz.prog 96 [.str l, .str [32]] (.lst ((bls l).map .str)) := by
  refine ⟨⟨_, Tryz.func96, by kernel_rfl, by kernel_rfl⟩, fun w ok vs _ hok hr => ?_⟩
  obtain ⟨hs, hr⟩ := hr
  obtain ⟨v0, v1, rfl⟩ : ∃ v0 v1, vs = #[v0, v1] := by
    obtain ⟨x⟩ := vs
    match x, hs with
    | [a, b], _ => exact ⟨a, b, rfl⟩
  have h0 := (hr 0 v0 _ rfl rfl).str_inv
  have h1 := (hr 1 v1 _ rfl rfl).str_inv
  subst h0 h1
  refine (c_splitB ⟨l.toArray⟩ w (by rw [ByteArray.size]; simp; omega)).mono ?_
  rintro e w' ⟨rfl, rfl⟩
  have hk : (splitB ⟨#[32]⟩ 0 (countB ⟨l.toArray⟩ ⟨#[32]⟩) ⟨l.toArray⟩).map (·.data.toList) = bls l := by
    rw [splitB_data]
    exact splitK_bls l _ (count_one 32 l).symm
  have hlen := splitB_all ⟨#[32]⟩ (by decide) 0 _ (⟨l.toArray⟩ : ByteArray) rfl
  generalize splitB ⟨#[32]⟩ 0 (countB ⟨l.toArray⟩ ⟨#[32]⟩) ⟨l.toArray⟩ = ps at *
  have hle := bls_len l
  have hpl : ps.length = (bls l).length := by rw [← hk]; simp
  rw [← hlen]
  refine ⟨_, rfl, ?_, (Below.refl _ w).alloc (Nat.le_refl _) _⟩
  refine .lst w.heap.size 0 ps.length ps.length _ (spl_ren.t 9) (0, 0) _ (ps.map Value.string) 1 (.inr (Nat.le_refl _)) (heap_alloc_new w _) (by simp [hpl]) (by simp [hpl]) (Nat.le_refl _) (by omega) ?_ ?_
  · intro i v x hv hx
    rw [← hk] at hx
    simp only [List.getElem?_map, Option.map_eq_some_iff] at hv hx
    obtain ⟨p, hp, rfl⟩ := hv
    obtain ⟨_, ⟨q, hq, rfl⟩, rfl⟩ := hx
    rw [hp] at hq
    cases hq
    exact .str _ _ (by cases p; simp)
  · intro i v hv
    simp only [List.getElem?_map, Option.map_eq_some_iff] at hv
    obtain ⟨p, hp, rfl⟩ := hv
    refine ⟨rfl, fun j hj => ?_⟩
    have : j = 0 := by omega
    subst this
    simp [hp, Value.cells]
end Go.Proofs.YtffmlijngfhhaaaGreatDoor
