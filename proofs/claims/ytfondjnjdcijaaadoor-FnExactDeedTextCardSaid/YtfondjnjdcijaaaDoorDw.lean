/- The program's texts of deeds: walks of the functions on the road to strconv.FormatInt, and the law of DeedText. Condition: the table of FormatInt reads as its initialiser lays it. -/
import Derived.Test.YtfondjnjdcijaaaDoorDt
import Derived.Test.YtfondjnjdcijaaaDoorFi
namespace Go.Proofs.YtfondjnjdcijaaaDoor
open Go Go.Proofs Go.RowKit Go.Lib
set_option linter.unusedVariables false
set_option linter.unusedSimpArgs false

theorem dd_grow (w : World) (k : Nat) (os : Array Obj) : Below w.heap.size w (Sort.grow (w.drewN k) os) :=
  ⟨rfl, rfl, rfl, by show w.heap.size ≤ (w.heap ++ os).size; rw [Array.size_append]; omega, fun j hj => by rw [Sort.heap_grow_old _ _ (by simpa using hj)]; rfl⟩
def Tb (w : World) : Prop := Go.Lib.TabIs Tryd.prog w "internal/strconv.uint64pow10" .u64 Go.Lib.pow10Tab
theorem tb_below {w w' : World} (h : Tb w) (hb : Below w.heap.size w w') : Tb w' := by
  have hg : Tryd.prog.globalNamed "internal/strconv.uint64pow10" = some (fmi_ren.g 17) := by kernel_rfl
  unfold Tb Go.Lib.TabIs World.var? at h ⊢
  rw [hg] at h ⊢
  simp only [Option.bind_some] at h ⊢
  have hlt : fmi_ren.g 17 < w.heap.size := by
    rcases Nat.lt_or_ge (fmi_ren.g 17) w.heap.size with h' | h'
    · exact h'
    · rw [Array.getElem?_eq_none h'] at h; cases h
  rw [hb.block _ hlt]
  exact h

theorem rep_deed {ok : Nat → Prop} {w : World} {k a : Int} : RepD ok w (.agg #[.int .i64 k, .int .i64 a]) (.agg [.int .i64 k, .int .i64 a]) := by
  refine .agg _ _ rfl (by simp [D.one]) fun i v x h1 h2 => ?_
  match i with
  | 0 => simp at h1 h2; subst h1 h2; exact .int _ _
  | 1 => simp at h1 h2; subst h1 h2; exact .int _ _
  | i + 2 => simp at h1
theorem rep_deed_inv {ok : Nat → Prop} {w : World} {v : Value} {k a : Int} (h : RepD ok w v (.agg [.int .i64 k, .int .i64 a])) : v = .agg #[.int .i64 k, .int .i64 a] := by
  obtain ⟨cs, rfl, h1, h2, h3⟩ := RepD.agg_inv h
  obtain ⟨l⟩ := cs
  match l, h1 with
  | [u, v], _ =>
    rw [(h3 0 u _ rfl rfl).int_inv, (h3 1 v _ rfl rfl).int_inv]
theorem rep_one {ok : Nat → Prop} {w : World} {v : Value} {x : D} (h : RepD ok w v x) : RepAll ok w #[v] [x] := ⟨rfl, fun i u y h1 h2 => by
  match i with
  | 0 => simp at h1 h2; subst h1 h2; exact h
  | i + 1 => simp at h1⟩

theorem c_toDeed (w : World) (k a : Int) : Calls Tryd.prog 20 #[.agg #[.int .i64 k, .int .i64 a]] w fun e w' => e = .returned (.agg #[.int .i64 k, .int .i64 a]) ∧ Below w.heap.size w w' :=
  (laws_toDeed.2 w (fun b => b < w.heap.size) _ (fun b h => h) (rep_one rep_deed)).mono fun e w' ⟨v, he, hv, hb⟩ => ⟨by rw [he, rep_deed_inv hv], hb⟩
theorem c_valid (w : World) (k a : Int) : Calls Tryd.prog 46 #[.agg #[.int .i64 k, .int .i64 a]] w fun e w' => e = .returned (.bool (vdeed k a)) ∧ Below w.heap.size w w' :=
  (impl_ValidDeed.2 w (fun b => b < w.heap.size) _ (fun b h => h) (rep_one rep_deed)).mono fun e w' ⟨v, he, hv, hb⟩ => ⟨by rw [he, hv.bool_inv], hb⟩
theorem c_specText (w : World) (k a : Int) : Calls Tryd.prog 19 #[.agg #[.int .i64 k, .int .i64 a]] w fun e w' => e = .returned (.string ⟨(dtxt k a).toArray⟩) ∧ Below w.heap.size w w' :=
  (spec_DeedText.2 w (fun b => b < w.heap.size) _ (fun b h => h) (rep_one rep_deed)).mono fun e w' ⟨v, he, hv, hb⟩ => ⟨by rw [he, hv.str_inv], hb⟩
theorem c_word (w : World) (k : Int) : Calls Tryd.prog 47 #[.int .i64 k] w fun e w' => e = .returned (.tuple #[.string ⟨(dword k).toArray⟩, .bool (dtell k)]) ∧ Below w.heap.size w w' :=
  (impl_deedWord.2 w (fun b => b < w.heap.size) _ (fun b h => h) (rep_one (.int _ _))).mono fun e w' ⟨v, he, hv, hb⟩ => ⟨by
    rw [he]
    cases hv with
    | tup cs _ h1 h2 =>
      obtain ⟨l⟩ := cs
      match l, h1 with
      | [x, y], _ => rw [(h2 0 x _ rfl rfl).str_inv, (h2 1 y _ rfl rfl).bool_inv], hb⟩

set_option maxRecDepth 100000 in
theorem c_decimal (w : World) (n : Int) (h : 0 ≤ n ∧ n ≤ 999) (ht : Tb w) : Calls Tryd.prog 48 #[.int .i64 n] w fun e w' => e = .returned (.string ⟨(itoa n).toArray⟩) ∧ Below w.heap.size w w' := by
  have hf := Any.strconv_FormatInt_10 fmiM n (by omega) (by omega) w ht
  go_enter Tryd.func48, Tryd.ntmps48
  go_wp2_with (go_at_call 63; refine hf.mono ?_; rintro e W1 ⟨rfl, k, os, rfl⟩)
  go_ret
  exact ⟨rfl, dd_grow w k os⟩

theorem dword_len (k : Int) : (dword k).length ≤ 7 := by
  unfold dword
  split
  · rw [List.getD_eq_getElem?_getD]
    cases h : dwords[k.toNat]? with
    | none => simp
    | some l =>
      have : ∀ l ∈ dwords, l.length ≤ 7 := by decide
      exact this l (List.mem_of_getElem? h)
  · simp
set_option maxRecDepth 100000 in
theorem c_implText (w : World) (k a : Int) (ht : Tb w) : Calls Tryd.prog 21 #[.agg #[.int .i64 k, .int .i64 a]] w fun e w' => e = .returned (.string ⟨(dtxt k a).toArray⟩) ∧ Below w.heap.size w w' := by
  go_enter Tryd.func21, Tryd.ntmps21
  have b0 : Below w.heap.size w (w.alloc (.cells #[.int .i64 k, .int .i64 a] 43)) := (Below.refl _ w).alloc (Nat.le_refl _) _
  have hk0 : (w.alloc (.cells #[.int .i64 k, .int .i64 a] 43)).cell? ⟨w.heap.size, 0, none⟩ = some (.int .i64 k) := by
    have := heap_alloc_new w (.cells #[.int .i64 k, .int .i64 a] 43)
    unfold World.cell?
    rw [this]
    rfl
  have ha0 : (w.alloc (.cells #[.int .i64 k, .int .i64 a] 43)).cell? ⟨w.heap.size, 1, none⟩ = some (.int .i64 a) := by
    have := heap_alloc_new w (.cells #[.int .i64 k, .int .i64 a] 43)
    unfold World.cell?
    rw [this]
    rfl
  have ht0 := tb_below ht b0
  obtain ⟨wk, hwk⟩ : ∃ l, l = dword k := ⟨_, rfl⟩
  obtain ⟨tk, htk⟩ : ∃ l, l = dtell k := ⟨_, rfl⟩
  obtain ⟨vk, hvk⟩ : ∃ l, l = vdeed k a := ⟨_, rfl⟩
  obtain ⟨it, hit⟩ : ∃ l, l = itoa a := ⟨_, rfl⟩
  have ra : vk = true → 0 ≤ a ∧ a ≤ 999 := fun h => by
    rw [h] at hvk
    have := hvk.symm
    simp only [vdeed, inB, Bool.and_eq_true, decide_eq_true_eq] at this
    omega
  have hwl : wk.length ≤ 7 := hwk ▸ dword_len k
  have hil : vk = true → it.length ≤ 3 := fun h => hit ▸ itoa_len (ra h)
  have c1 := fun W => c_valid W k a
  have c2 := fun W => c_word W k
  have c3 := fun W => c_decimal W a
  rw [← hvk] at c1
  rw [← hwk, ← htk] at c2
  rw [← hit] at c3
  unfold dtxt
  rw [← hwk, ← htk, ← hvk, ← hit]
  clear hwk htk hvk hit
  go_wp2_with fail
  refine (c1 _).mono ?_
  rintro e W1 ⟨rfl, b1⟩
  have hk1 := (b1.cell (World.block_lt_of_cell? _ _ hk0)).trans hk0
  have ha1 := (b1.cell (World.block_lt_of_cell? _ _ ha0)).trans ha0
  have ht1 := tb_below ht0 b1
  have bb1 := b0.trans (b1.mono b0.size)
  clear b0 b1 hk0 ha0 ht0 ht
  cases vk with
  | false =>
    go_wp2
    go_ret
    exact ⟨rfl, bb1⟩
  | true =>
    go_wp2_with fail
    refine (c2 _).mono ?_
    rintro e W2 ⟨rfl, b2⟩
    have ha2 := (b2.cell (World.block_lt_of_cell? _ _ ha1)).trans ha1
    have ht2 := tb_below ht1 b2
    have bb2 := bb1.trans (b2.mono bb1.size)
    clear b2 ha1 hk1 ht1 bb1
    cases tk with
    | false =>
      go_wp2
      go_ret
      exact ⟨rfl, bb2⟩
    | true =>
      go_wp2_with fail
      refine (c3 _ (by first | exact ra rfl | exact ra trivial) ht2).mono ?_
      rintro e W3 ⟨rfl, b3⟩
      have bb3 := bb2.trans (b3.mono bb2.size)
      have hil' : it.length ≤ 3 := by first | exact hil rfl | exact hil trivial | exact hil
      go_wp2
      go_ret
      refine ⟨?_, bb3⟩
      have : (({ data := wk.toArray } : ByteArray) ++ ({ data := #[32] } ++ { data := it.toArray })) = ⟨(wk ++ 32 :: it).toArray⟩ := by
        apply ByteArray.ext
        simp [ByteArray.data_append]
      rw [← this]
      rfl

set_option maxRecDepth 100000 in
theorem law_ExactDeedText (w : World) {k a : Int} (hk : I64 k) (ha : I64 a) (ht : Tb w) : Calls Tryd.prog 5 #[.agg #[.int .i64 k, .int .i64 a]] w fun e w' => e = .returned (.bool true) ∧ Below w.heap.size w w' := by
  go_enter Tryd.func5, Tryd.ntmps5
  have b0 : Below w.heap.size w (w.alloc (.cells #[.int .i64 k, .int .i64 a] 41)) := (Below.refl _ w).alloc (Nat.le_refl _) _
  have hk0 : (w.alloc (.cells #[.int .i64 k, .int .i64 a] 41)).cell? ⟨w.heap.size, 0, none⟩ = some (.int .i64 k) := by
    have := heap_alloc_new w (.cells #[.int .i64 k, .int .i64 a] 41)
    unfold World.cell?
    rw [this]
    rfl
  have ha0 : (w.alloc (.cells #[.int .i64 k, .int .i64 a] 41)).cell? ⟨w.heap.size, 1, none⟩ = some (.int .i64 a) := by
    have := heap_alloc_new w (.cells #[.int .i64 k, .int .i64 a] 41)
    unfold World.cell?
    rw [this]
    rfl
  have ht0 := tb_below ht b0
  have c1 := fun W => c_toDeed W k a
  have c2 := fun W => c_specText W k a
  have c3 := fun W => c_implText W k a
  generalize dtxt k a = tx at c2 c3
  go_wp2_with fail
  refine (c1 _).mono ?_
  rintro e W1 ⟨rfl, b1⟩
  have hk1 := (b1.cell (World.block_lt_of_cell? _ _ hk0)).trans hk0
  have ha1 := (b1.cell (World.block_lt_of_cell? _ _ ha0)).trans ha0
  have ht1 := tb_below ht0 b1
  have bb1 := b0.trans (b1.mono b0.size)
  clear b0 b1 hk0 ha0 ht0 ht
  go_wp2_with fail
  refine (c2 _).mono ?_
  rintro e W2 ⟨rfl, b2⟩
  have hk2 := (b2.cell (World.block_lt_of_cell? _ _ hk1)).trans hk1
  have ha2 := (b2.cell (World.block_lt_of_cell? _ _ ha1)).trans ha1
  have ht2 := tb_below ht1 b2
  have bb2 := bb1.trans (b2.mono bb1.size)
  clear b2 ha1 hk1 ht1 bb1
  go_wp2_with fail
  refine (c1 _).mono ?_
  rintro e W3 ⟨rfl, b3⟩
  have ht3 := tb_below ht2 b3
  have bb3 := bb2.trans (b3.mono bb2.size)
  clear b3 ha2 hk2 ht2 bb2
  go_wp2_with fail
  refine (c3 _ ht3).mono ?_
  rintro e W4 ⟨rfl, b4⟩
  have bb4 := bb3.trans (b4.mono bb3.size)
  go_wp2
  go_ret
  exact ⟨rfl, bb4⟩
end Go.Proofs.YtfondjnjdcijaaaDoor
