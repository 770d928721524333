/- The program's SuiteText: a walk of the one function that uses strings.Builder, upon the kit's contracts. No condition but bounds. -/
import Derived.Test.YtfondjnjdcijaaaDoorTy
import Derived.Test.YtfondjnjdcijaaaDoorBd
namespace Go.Proofs.YtfondjnjdcijaaaDoor
open Go Go.Proofs Go.RowKit Go.Lib
set_option linter.unusedVariables false
set_option linter.unusedSimpArgs false

/-! ### Plain -/
def stx (ws : List (List Int)) : List UInt8 := if (∀ w ∈ ws, wtx w ≠ []) ∧ ws.length ≤ 400 then ws.flatMap fun w => wtx w ++ [10] else []

theorem stx_bad {ws : List (List Int)} {w : List Int} (h : w ∈ ws) (hn : wtx w = []) : stx ws = [] := if_neg fun e => e.1 w h hn
theorem stx_len (ws : List (List Int)) (k : Nat) (h : ws.length ≤ k) : (ws.flatMap fun w => wtx w ++ [10]).length ≤ 402 * k := by
  induction ws generalizing k with
  | nil => simp
  | cons w ws ih =>
    simp only [List.length_cons] at h
    have := ih (k - 1) (by omega)
    have hl := wtx_len w
    simp only [List.flatMap_cons, List.length_append, List.length_cons, List.length_nil] at *
    omega

theorem builder_below {T e : TypeId} {B b : Nat} {bs : List Value} {W W' : World} (h : IsBuilderF T e B b bs W) (hb : Below W.heap.size W W') : IsBuilderF T e B b bs W' := by
  rcases h with h | h
  · have hlt := h.lt
    obtain ⟨h1, v, h2, h3, h4⟩ := h
    exact .inl ⟨h1, v, (hb.block b hlt).trans h2, h3.kept (row := none) ⟨hb.os, hb.tape, hb.output, hb.size, fun k hk _ => hb.block k hk⟩ (Classical.em _), h4⟩
  · have hlt := h.lt
    obtain ⟨h1, v, h2, h3, h4⟩ := h
    exact .inr ⟨h1, v, (hb.block b hlt).trans h2, h3.kept (row := none) ⟨hb.os, hb.tape, hb.output, hb.size, fun k hk _ => hb.block k hk⟩ (Classical.em _), h4⟩

theorem lst_inv {ok : Nat → Prop} {w : World} {v : Value} {xs : List D} (h : RepD ok w v (.lst xs)) (h1 : ∀ x ∈ xs, x.one = true) :
    ∃ a cap, v = .slice a xs.length cap ∧ ∀ i x, xs[i]? = some x → ∃ b off u, a = some ⟨b, off, none⟩ ∧ w.cell? ⟨b, off + i, none⟩ = some u ∧ RepD ok w u x := by
  cases h with
  | nil0 => exact ⟨_, _, rfl, fun i x h => by simp at h⟩
  | emp a cap => exact ⟨_, _, rfl, fun i x h => by simp at h⟩
  | lst b off cap n cells e fr _ vs sz g1 g2 g3 g4 g5 g5b g6 g7 =>
    subst g4
    refine ⟨_, _, rfl, fun i x hx => ?_⟩
    have hi : i < vs.length := by
      rw [g3]
      exact (List.getElem?_eq_some_iff.1 hx).1
    have hv : vs[i]? = some vs[i] := List.getElem?_eq_getElem hi
    have hr := g6 i _ x hv hx
    have hc := hr.oneCell (h1 x (List.mem_of_getElem? hx))
    obtain ⟨k1, k2⟩ := g7 i _ hv
    rw [hc] at k1 k2
    have k3 := k2 0 (by rw [← k1]; simp)
    simp at k1
    subst k1
    refine ⟨b, off, vs[i], rfl, ?_, hr⟩
    simp at k3
    simp [World.cell?, g2, k3]

theorem impl_SuiteText {ws : List (List Int)} (hl : ws.length ≤ 1048576) (hw : ∀ w ∈ ws, w.length ≤ 1048576) : AC Tryd.prog 14 [rows ws] (.str (stx ws)) := by
  refine ⟨⟨_, Tryd.func14, by kernel_rfl, by kernel_rfl⟩, fun w ok vs hok hr => ?_⟩
  obtain ⟨hs, hr⟩ := hr
  obtain ⟨v, rfl⟩ : ∃ v, vs = #[v] := Array.size_eq_one_iff.1 (by simpa using hs)
  have hv := hr 0 v _ rfl rfl
  clear hr hs
  obtain ⟨a, cap, rfl, hcell⟩ := lst_inv hv (by simp [ints, D.one])
  simp only [List.length_map] at hcell ⊢
  have h0 : IsBuilderF (bldRen.t 72) (bldRen.t 5) w.heap.size w.heap.size [] (w.alloc (.cells #[.pointer none, .slice none 0 0] (bldRen.t 72))) := .of (fresh_isBuilder _ _ w)
  have b0 : Below w.heap.size w (w.alloc (.cells #[.pointer none, .slice none 0 0] (bldRen.t 72))) := (Below.refl _ w).alloc (Nat.le_refl _) _
  go_enter Tryd.func14, Tryd.ntmps14
  go_wp2
  go_loopw [10] (fun i wr => ∃ k : Nat, k ≤ ws.length ∧ i = .int .i64 k ∧ (∀ j x, j < k → ws[j]? = some x → wtx x ≠ []) ∧ IsBuilderF (bldRen.t 72) (bldRen.t 5) w.heap.size w.heap.size (byteCells ((ws.take k).flatMap fun w => wtx w ++ [10])) wr ∧ Below w.heap.size w wr)
    (fun i _ => ws.length - (RowKit.intOf i).toNat)
  case atStart => exact ⟨0, Nat.zero_le _, rfl, fun j x h => by omega, h0, b0⟩
  case round =>
    obtain ⟨k, hk, rfl, hne, hbd, hbel⟩ := hrel
    by_cases hkn : k < ws.length
    · have hx : ws[k]? = some ws[k] := List.getElem?_eq_getElem hkn
      obtain ⟨b, off, u, rfl, hc, hu⟩ := hcell k (ints ws[k]) (by simp [hx])
      have hcw : wr.cell? ⟨b, off + k, none⟩ = some u := (hbel.cell (World.block_lt_of_cell? _ _ hc)).trans hc
      have hu' : RepD (fun b => b < wr.heap.size) wr u (ints ws[k]) := hu.mono fun b hb _ => ⟨Nat.lt_of_lt_of_le (hok b hb) hbel.size, hbel.block b (hok b hb)⟩
      have hwt := (impl_WordText (hw _ (List.getElem_mem hkn))).2 wr _ #[u] (fun b h => h) ⟨rfl, fun i v x h1 h2 => by
        match i with
        | 0 => simp at h1 h2; subst h1 h2; exact hu'
        | i + 1 => simp at h1⟩
      have hlw := wtx_len ws[k]
      by_cases hnw : wtx ws[k] = []
      · rw [hnw] at hwt
        go_wp2_with (go_at_call 34; refine hwt.mono ?_; rintro e W1 ⟨v, rfl, hv1, b1⟩; obtain rfl := hv1.str_inv)
        go_ret
        exact ⟨_, rfl, by rw [stx_bad (List.getElem_mem hkn) hnw]; exact .str [] _ rfl, hbel.trans (b1.mono hbel.size)⟩
      · have hst : (ws.take (k + 1)).flatMap (fun w => wtx w ++ [10]) = ((ws.take k).flatMap fun w => wtx w ++ [10]) ++ (wtx ws[k] ++ [10]) := by
          rw [List.take_succ_eq_append_getElem hkn, List.flatMap_append]
          simp
        have hlen : ((ws.take k).flatMap fun w => wtx w ++ [10]).length ≤ 402 * k := stx_len (ws.take k) k (by simp; omega)
        have hne' : ∀ j x, j < k + 1 → ws[j]? = some x → wtx x ≠ [] := fun j x hj hx' => by
          by_cases e : j = k
          · subst e
            rw [hx] at hx'
            cases hx'
            exact hnw
          · exact hne j x (by omega) hx'
        generalize wtx ws[k] = tw at hwt hlw hnw hst
        have hem : tw.isEmpty = false := by cases tw <;> simp_all
        generalize (ws.take k).flatMap (fun w => wtx w ++ [10]) = bs at hbd hlen hst
        go_wp2_with (go_at_call 34; refine hwt.mono ?_; rintro e W1 ⟨v, rfl, hv1, b1⟩; obtain rfl := hv1.str_inv; have hbd1 := builder_below hbd b1; have hbel1 := hbel.trans (b1.mono hbel.size))
        have hbz : (({ data := tw.toArray } : ByteArray) ++ { data := #[10] }) = ⟨(tw ++ [10]).toArray⟩ := by
          apply ByteArray.ext
          simp [ByteArray.data_append]
        have hws := Any.Builder_WriteString_f bld166 bldX w.heap.size w.heap.size _ (({ data := tw.toArray } : ByteArray) ++ { data := #[10] }) W1 hbd1 (by rw [hbz, byteCells_length, ByteArray.size]; simp; omega) hbel1.size
        go_wp2_with (go_at_call 35; refine hws.mono ?_; rintro e W2 ⟨rfl, hbd2, b2⟩)
        go_roundw
        case rel => exact ⟨k + 1, by omega, by simp, hne', by rw [hst]; rw [hbz, strCells_eq] at hbd2; exact .inr (by simpa [byteCells] using hbd2), hbel1.trans b2⟩
        case measure => simp [RowKit.intOf]; omega
    · have hke : k = ws.length := by omega
      subst hke
      rw [List.take_length] at hbd
      by_cases h4 : ws.length ≤ 400
      · go_wp2_with (go_at_call 36; refine (Any.Builder_String_any_f bld169 bldX w.heap.size w.heap.size _ wr hbd hbel.size).mono ?_; rintro e W2 ⟨rfl, _, b2⟩)
        go_ret
        refine ⟨_, rfl, ?_, hbel.trans b2⟩
        have hall : ∀ x ∈ ws, wtx x ≠ [] := fun x hx => by
          obtain ⟨j, hj, e⟩ := List.getElem_of_mem hx
          exact hne j x hj (by rw [List.getElem?_eq_getElem hj, e])
        rw [stx, if_pos ⟨hall, h4⟩]
        exact .str _ _ rfl
      · go_wp2
        all_goals go_ret
        refine ⟨_, rfl, ?_, hbel⟩
        rw [stx, if_neg (fun h => h4 h.2)]
        exact .str _ _ rfl
end Go.Proofs.YtfondjnjdcijaaaDoor
