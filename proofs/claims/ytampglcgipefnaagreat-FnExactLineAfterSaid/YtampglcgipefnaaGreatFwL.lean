/- From the memory of a row to data and back: what the arguments of a law say as data, and that a law which returns true over its data meets its row. No condition. -/
import Derived.Test.YtampglcgipefnaaGreatFwJ
import Derived.Carry
import Derived.ChangeSame
import Derived.ChangeSlices
import Derived.JoinedOf
import Derived.JoinedAt
import Derived.OpenShut
namespace Go.Proofs.YtampglcgipefnaaGreat
open Go
open Go.RowKit (Below)
set_option linter.unusedVariables false
set_option linter.unusedSimpArgs false

section
variable {H : Type} {enc : TypeId × Value → H} {P : Program} {w : World}

/-- What the cells of a type's value say. -/
def Reads (enc : TypeId × Value → H) (P : Program) (w : World) (t : Nat) (Q : List Value → Prop) : Prop :=
  ∀ (fuel : Nat) (cs : List Value) x, DataW.trod enc P w 0 (fun _ => true) true fuel t cs = some x → Q cs

def old (w : World) (b : Nat) : Prop := b < w.heap.size

theorem reads_int {t : Nat} {k : IntKind} (ht : P.underlying t = some (.int k)) : Reads enc P w t fun cs => ∃ n, cs = [.int k n] ∧ k.min ≤ n ∧ n ≤ k.max := by
  intro fuel cs x h
  obtain ⟨n, h1, _, hw⟩ := DataW.trod_int ht h
  refine ⟨n, h1, ?_⟩
  simpa [Lit.wf] using hw

theorem cells?_spec {a : Addr} {n : Nat} {cs : List Value} (h : w.cells? 0 a n = some cs) : cs.length = n ∧ ∀ (j : Nat), j < n → w.cell? (a.add j) = cs[j]? := by
  unfold World.cells? at h
  rw [if_pos (Nat.zero_le _)] at h
  refine ⟨by simpa using mapM_some_length h, fun j hj => ?_⟩
  exact mapM_some_get h j j (by simp [hj])

theorem lists_of {α β : Type} (p : Nat → α → β → Prop) : ∀ n : Nat, (∀ i, i < n → ∃ a b, p i a b) → ∃ (as : List α) (bs : List β), as.length = n ∧ bs.length = n ∧ ∀ (i : Nat) a b, as[i]? = some a → bs[i]? = some b → p i a b
  | 0, _ => ⟨[], [], rfl, rfl, by simp⟩
  | n + 1, h => by
    obtain ⟨as, bs, h1, h2, h3⟩ := lists_of p n fun i hi => h i (by omega)
    obtain ⟨a, b, hab⟩ := h n (by omega)
    refine ⟨as ++ [a], bs ++ [b], by simp [h1], by simp [h2], fun i a' b' ha hb => ?_⟩
    by_cases hi : i < n
    · rw [List.getElem?_append_left (by omega)] at ha hb
      exact h3 i a' b' ha hb
    · by_cases hi2 : i = n
      · subst hi2
        rw [List.getElem?_append_right (by omega)] at ha hb
        simp [h1, h2] at ha hb
        subst ha hb
        exact hab
      · rw [List.getElem?_append_right (by omega)] at ha
        have : i - as.length ≠ 0 := by omega
        simp [this] at ha

/-- A slice of what can be read. -/
theorem reads_slice {α : Type} (conv : α → D) (inv : α → Prop) {t e sz : Nat} (ht : P.underlying t = some (.slice e)) (hsz : P.cellsOf e = sz) (h1 : 1 ≤ sz)
    (hE : Reads enc P w e fun cs => ∃ a, inv a ∧ ∃ u : Value, u.cells.toList = cs ∧ RepD (old w) w u (conv a)) :
    Reads enc P w t fun cs => ∃ as : List α, (∀ a ∈ as, inv a) ∧ as.length ≤ 9223372036854775807 ∧ ∃ v, cs = [v] ∧ v.cells = #[v] ∧ RepD (old w) w v (.lst (as.map conv)) := by
  intro fuel cs x h
  rcases DataW.trod_slice ht h with ⟨rfl, _⟩ | ⟨a, len, cap, elems, rest, n, _, rfl, rfl, hb, hl, hm, hlen, hel, hsp, hns⟩
  · exact ⟨[], by simp, by simp, _, rfl, rfl, .nil0⟩
  · by_cases h0 : len = 0
    · subst h0
      exact ⟨[], by simp, by simp, _, rfl, rfl, .emp a cap⟩
    · have each : ∀ i, i < len → ∃ (α' : α) (u : Value), inv α' ∧ RepD (old w) w u (conv α') ∧ u.cells.size = sz ∧ ∀ j, j < sz → w.cell? (a.add (i * sz + j)) = u.cells[j]? := fun i hi => by
        have h2 := hel i hi
        rw [List.getElem?_eq_getElem (by omega)] at h2
        rw [Option.bind_eq_some_iff] at h2
        obtain ⟨cs, h3, h4⟩ := h2
        obtain ⟨q, hq, u, hu1, hu2⟩ := hE n cs _ h4
        obtain ⟨h5, h6⟩ := cells?_spec h3
        rw [hsz] at h5 h6
        refine ⟨q, u, hq, hu2, by rw [← Array.length_toList, hu1, h5], fun j hj => ?_⟩
        have h7 := h6 j hj
        rw [← hu1] at h7
        have hadd : (a.add (i * sz)).add j = a.add (i * sz + j) ∨ w.cell? ((a.add (i * sz)).add j) = w.cell? (a.add (i * sz + j)) := by
          left
          unfold Addr.add
          by_cases e1 : i * sz = 0 <;> by_cases e2 : j = 0 <;> simp [e1, e2] <;> omega
        rcases hadd with e | e
        · rw [← e, h7]; simp
        · rw [← e, h7]; simp
      obtain ⟨as, us, l1, l2, l3⟩ := lists_of _ len each
      obtain ⟨q0, u0, _, _, hs0, hc0⟩ := each 0 (by omega)
      have hfirst := hc0 0 (by omega)
      rw [Nat.zero_mul, Nat.zero_add] at hfirst
      have ha0 : a.add 0 = a := by unfold Addr.add; simp
      rw [ha0, Array.getElem?_eq_getElem (by omega)] at hfirst
      have hblk : ∃ cells e' fr, w.heap[a.block]? = some (.cells cells e' fr) ∧ a.spot = none := by
        unfold World.cell? at hfirst
        split at hfirst
        · rename_i c e' fr hh
          refine ⟨c, e', fr, hh, ?_⟩
          cases hsp' : a.spot with
          | none => rfl
          | some _ => rw [hsp'] at hfirst; simp at hfirst
        · cases hfirst
      obtain ⟨cells, e', fr, hh, hspot⟩ := hblk
      have haddr : a = ⟨a.block, a.off, none⟩ := by cases a; simp at hspot; subst hspot; rfl
      have hlt : a.block < w.heap.size := by
        rcases Nat.lt_or_ge a.block w.heap.size with h' | h'
        · exact h'
        · simp [Array.getElem?_eq_none h'] at hh
      refine ⟨as, fun q hq => ?_, by simp only [maxLen] at hm; omega, _, rfl, rfl, ?_⟩
      · obtain ⟨i, hi⟩ := List.getElem?_of_mem hq
        have hil : i < len := by
          rcases Nat.lt_or_ge i as.length with h' | h'
          · omega
          · simp [h'] at hi
        exact (l3 i q us[i] hi (List.getElem?_eq_getElem (by omega))).1
      · rw [haddr]
        refine .lst a.block a.off cap len cells e' fr _ us sz hlt hh (by simp [l1, l2]) (by simp [l1]) hl (by simp only [maxLen] at hm; omega) (fun i v x hv hx => ?_) fun i v hv => ?_
        · rw [List.getElem?_map, Option.map_eq_some_iff] at hx
          obtain ⟨q, hq, rfl⟩ := hx
          exact (l3 i q v hq hv).2.1
        · have hil : i < len := by
            rcases Nat.lt_or_ge i us.length with h' | h'
            · omega
            · simp [h'] at hv
          obtain ⟨_, _, g1, g2⟩ := l3 i as[i] v (List.getElem?_eq_getElem (by omega)) hv
          refine ⟨g1, fun j hj => ?_⟩
          have := g2 j hj
          rw [haddr, add_block, cell_at hh] at this
          rw [← this]
          congr 1
          omega

theorem reads_ints {t e : Nat} {k : IntKind} (ht : P.underlying t = some (.slice e)) (he : P.underlying e = some (.int k)) (hc : P.cellsOf e = 1) :
    Reads enc P w t fun cs => ∃ ns : List Int, (∀ n ∈ ns, k.min ≤ n ∧ n ≤ k.max) ∧ ns.length ≤ 9223372036854775807 ∧ ∃ v, cs = [v] ∧ v.cells = #[v] ∧ RepD (old w) w v (.lst (ns.map (.int k))) :=
  reads_slice (.int k) (fun n => k.min ≤ n ∧ n ≤ k.max) ht hc (Nat.le_refl _) fun fuel cs x h => by
    obtain ⟨n, rfl, hn⟩ := reads_int he fuel cs x h
    exact ⟨n, hn, .int k n, rfl, .int k n⟩

/-- A list of numbers; a list of such lists. -/
def ints (ns : List Int) : D := .lst (ns.map (.int .i64))
def rows (nss : List (List Int)) : D := .lst (nss.map ints)
def I64 (n : Int) : Prop := -9223372036854775808 ≤ n ∧ n ≤ 9223372036854775807

theorem reads_rows {t e i : Nat} (ht : P.underlying t = some (.slice e)) (he : P.underlying e = some (.slice i)) (hi : P.underlying i = some (.int .i64)) (hc : P.cellsOf e = 1) (hci : P.cellsOf i = 1) :
    Reads enc P w t fun cs => ∃ nss : List (List Int), (∀ ns ∈ nss, (∀ n ∈ ns, I64 n) ∧ ns.length ≤ 9223372036854775807) ∧ nss.length ≤ 9223372036854775807 ∧ ∃ v, cs = [v] ∧ v.cells = #[v] ∧ RepD (old w) w v (rows nss) :=
  reads_slice ints (fun ns => (∀ n ∈ ns, I64 n) ∧ ns.length ≤ 9223372036854775807) ht hc (Nat.le_refl _) fun fuel cs x h => by
    obtain ⟨ns, h1, h2, v, rfl, h3, h4⟩ := reads_ints he hi hci fuel cs x h
    exact ⟨ns, ⟨fun n hn => by simpa [IntKind.min, IntKind.max, IntKind.signed, IntKind.bits, I64] using h1 n hn, h2⟩, v, by rw [h3], h4⟩

/-- A struct's fields. -/
theorem reads_struct {t n : Nat} {fs : Array Field} (ht : P.underlying t = some (.struct fs)) (hn : P.cellsOf t = n) (Qs : List (List Value → Prop)) (hq : ∀ (i : Nat) (f : Field) Q, fs[i]? = some f → Qs[i]? = some Q → Reads enc P w f.type Q) :
    Reads enc P w t fun cs => cs.length = n ∧ ∀ (i : Nat) (f : Field) Q, fs[i]? = some f → Qs[i]? = some Q → Q ((cs.drop f.offset).take (P.cellsOf f.type)) := by
  intro fuel cs x h
  cases fuel with
  | zero => simp [DataW.trod] at h
  | succ fuel =>
    unfold DataW.trod at h
    rw [ht] at h
    simp only at h
    split at h
    case isFalse => cases h
    rename_i hl
    rw [Option.map_eq_some_iff] at h
    obtain ⟨ys, hy, _⟩ := h
    refine ⟨hl.trans hn, fun i f Q hf hQ => ?_⟩
    have := mapM_some_get hy i f (by simpa using hf)
    have hlt : i < ys.length := by
      rw [mapM_some_length hy]
      rcases Nat.lt_or_ge i fs.toList.length with h' | h'
      · exact h'
      · simp at h'; simp [h'] at hf
    rw [List.getElem?_eq_getElem hlt] at this
    exact hq i f Q hf hQ fuel _ _ this

/-- A value whose type is no struct is its one cell. -/
theorem one_cell {t : Nat} {d : TypeDesc} {v c : Value} {W : World} {base : Nat} (ht : P.underlying t = some d) (hd : isAggD d = false) (hok : Value.okWide P W .any base t v) (hc : v.cells.toList = [c]) : v = c := by
  unfold Value.okWide at hok
  rw [ht] at hok
  cases v with
  | agg cs =>
    exfalso
    have h2 : Cell.okWide P W .any base t (.agg cs) := by cases d <;> first | exact hok | (simp [isAggD] at hd)
    unfold Cell.okWide at h2
    rw [ht] at h2
    cases d <;> simp [Cell.ok, ht] at h2 <;> simp [isAggD] at hd
  | _ => simpa [Value.cells] using hc

theorem agg_cells {t : Nat} {fs : Array Field} {v : Value} {W : World} {base : Nat} (ht : P.underlying t = some (.struct fs)) (hok : Value.okWide P W .any base t v) : ∃ cs, v = .agg cs := by
  unfold Value.okWide at hok
  rw [ht] at hok
  obtain ⟨cs, h, _⟩ := hok
  exact ⟨cs, h⟩

/-! ### The row -/

theorem trodAll_stays (hlaid : laidOutB P = true) {W W' : World} (hb : Below W.heap.size W W') : ∀ (ts : List TypeId) (vs : List Value) (ds : List (DataW H)) (ps : List MemPlace), (∀ t ∈ ts, P.readableRec t = true ∧ t < P.types.size) → (∀ p ∈ ps, p.block < W.heap.size) →
    DataW.TrodAll enc P W 0 (fun _ => true) true ts vs ds ps → DataW.TrodAll enc P W' 0 (fun b => decide (b < W.heap.size)) true ts vs ds ps
  | [], vs, ds, ps, _, _, h => by
    cases vs <;> cases ds <;> simp_all [DataW.TrodAll]
  | t :: ts, vs, ds, ps, ht, hp, h => by
    obtain ⟨v, vs', d, ds', p, q, rfl, rfl, rfl, h1, h2⟩ := ChangeShapes.trodAll_cons h
    refine ⟨p, q, RowKit.Below.trod hlaid (ht t (List.mem_cons_self ..)).1 (ht t (List.mem_cons_self ..)).2 h1 hb (fun x hx => hp x (List.mem_append_left _ hx)), ?_, rfl⟩
    exact trodAll_stays hlaid hb ts vs' ds' q (fun t' h' => ht t' (List.mem_cons_of_mem _ h')) (fun x hx => hp x (List.mem_append_right _ hx)) h2

def parOk (P : Program) (ts : List Nat) : Bool := ts.all fun t => P.readableRec t && decide (t < P.types.size)
theorem parOk_all {P : Program} {ts : List Nat} (h : parOk P ts = true) : ∀ t ∈ ts, P.readableRec t = true ∧ t < P.types.size := fun t ht => by
  have := List.all_eq_true.1 h t ht
  simpa using this

theorem len2 {α : Type} {cs : List α} (h : cs.length = 2) : ∃ a b, cs = [a, b] := by
  match cs, h with
  | [a, b], _ => exact ⟨a, b, rfl⟩
theorem len3 {α : Type} {cs : List α} (h : cs.length = 3) : ∃ a b c, cs = [a, b, c] := by
  match cs, h with
  | [a, b, c], _ => exact ⟨a, b, c, rfl⟩
/-- A law that returned true: its row's end. -/
theorem law_post {fn : Func} {s : ChangeSpec} {apart fresh handsOn : Bool} {W W' : World} {args : Array Value} {ds gs : List (DataW H)} {before : List MemPlace} {tb : Nat} (hlaid : laidOutB P = true) (hpar : parOk P fn.params.toList = true)
    (hvars : s.vars = []) (hW : DataW.Whole enc P fn.params.toList s.vars apart W args.toList ds gs before) (hb : Below W.heap.size W W') (hres : fn.resultTypes = #[tb]) (htb : P.underlying tb = some .bool)
    (hs : (s.fn H (ds ++ gs)).results = [.lit (.bool true)] ∧ (s.fn H (ds ++ gs)).args = ds ∧ (s.fn H (ds ++ gs)).vars = []) : s.post enc P fn apart fresh handsOn false W args (.bool true) W' := by
  have hlt := hW.lt
  obtain ⟨p, q, hA, hV, rfl, hz, hn⟩ := id hW
  rw [hvars] at hV
  obtain ⟨rfl, rfl⟩ := ChangeShapes.trodVars_none hV
  refine ⟨ds, [], p ++ [], [], p, [], hW, ?_, ?_, ?_, ?_, fun h => by cases h⟩
  · rw [hs.1, hres]
    exact ChangeShapes.trodAll_mk1 (RowKit.shut_bool htb _)
  · rw [hs.2.1]
    exact trodAll_stays hlaid hb _ _ _ _ (parOk_all hpar) (fun x hx => hlt x (List.mem_append_left _ hx)) hA
  · rw [hs.2.2, hvars]
    rfl
  · exact World.keptBut_mono (fun x hx => ⟨by simpa using hx, .inr (.inl (by simpa using hx))⟩) (hb.frame (· ∈ p ++ []))

end
def IntsOk (ns : List Int) : Prop := (∀ n ∈ ns, I64 n) ∧ ns.length ≤ 9223372036854775807
def RowsOk (nss : List (List Int)) : Prop := (∀ ns ∈ nss, IntsOk ns) ∧ nss.length ≤ 9223372036854775807

theorem i64_of {n : Int} (h : IntKind.i64.min ≤ n ∧ n ≤ IntKind.i64.max) : I64 n := by
  simpa [IntKind.min, IntKind.max, IntKind.signed, IntKind.bits, I64] using h

section
variable {H : Type} {enc : TypeId × Value → H} {P : Program} {W : World} {base : Nat} {v : Value} {d : DataW H} {p : List MemPlace}

theorem open_i64 {t : Nat} (ht : P.underlying t = some (.int .i64)) (hok : Value.okWide P W .any base t v) (h : DataW.Trod enc P W 0 (fun _ => true) true t v d p) : ∃ n, I64 n ∧ RepD (old W) W v (.int .i64 n) := by
  obtain ⟨fuel, hf⟩ := h
  obtain ⟨n, h1, h2⟩ := reads_int ht fuel _ _ hf
  rw [one_cell ht rfl hok h1]
  exact ⟨n, i64_of h2, .int _ _⟩

/-- What the cells of a struct say, cell by cell. -/
def CellsRep (W : World) (cs : List Value) (xs : List D) : Prop := cs.length = xs.length ∧ (∀ x ∈ xs, x.one = true) ∧ ∀ (i : Nat) v x, cs[i]? = some v → xs[i]? = some x → RepD (old W) W v x

theorem CellsRep.nil : CellsRep W [] [] := ⟨rfl, by simp, by simp⟩
theorem CellsRep.cons {c : Value} {cs : List Value} {x : D} {xs : List D} (h1 : RepD (old W) W c x) (hx : x.one = true) (h2 : CellsRep W cs xs) : CellsRep W (c :: cs) (x :: xs) := by
  obtain ⟨a, b, g⟩ := h2
  refine ⟨by simp [a], fun y hy => ?_, fun i v y hv hy => ?_⟩
  · rcases List.mem_cons.1 hy with rfl | hy
    · exact hx
    · exact b y hy
  · cases i with
    | zero => simp at hv hy; subst hv hy; exact h1
    | succ i => exact g i v y (by simpa using hv) (by simpa using hy)
theorem CellsRep.append {cs cs' : List Value} {xs xs' : List D} (h1 : CellsRep W cs xs) (h2 : CellsRep W cs' xs') : CellsRep W (cs ++ cs') (xs ++ xs') := by
  obtain ⟨a1, b1, g1⟩ := h1
  obtain ⟨a2, b2, g2⟩ := h2
  refine ⟨by simp [a1, a2], fun y hy => ?_, fun i v y hv hy => ?_⟩
  · rcases List.mem_append.1 hy with hy | hy
    · exact b1 y hy
    · exact b2 y hy
  · rw [List.getElem?_append] at hv hy
    rw [a1] at hv
    split at hv
    · rename_i hl; rw [if_pos hl] at hy; exact g1 i v y hv hy
    · rename_i hl; rw [if_neg hl] at hy; exact g2 _ v y hv hy

theorem CellsRep.agg {cs : Array Value} {xs : List D} (h : CellsRep W cs.toList xs) : RepD (old W) W (.agg cs) (.agg xs) :=
  .agg cs xs (by simpa using h.1) h.2.1 fun i v x hv hx => h.2.2 i v x (by simpa using hv) hx

theorem cells_i64 {t : Nat} (ht : P.underlying t = some (.int .i64)) : Reads enc P W t fun cs => ∃ n, I64 n ∧ CellsRep W cs [.int .i64 n] := by
  intro fuel cs x h
  obtain ⟨n, rfl, h2⟩ := reads_int ht fuel _ _ h
  exact ⟨n, i64_of h2, .cons (.int _ _) rfl .nil⟩
theorem cells_ints {t e : Nat} (ht : P.underlying t = some (.slice e)) (he : P.underlying e = some (.int .i64)) (hc : P.cellsOf e = 1) : Reads enc P W t fun cs => ∃ ns, IntsOk ns ∧ CellsRep W cs [ints ns] := by
  intro fuel cs x h
  obtain ⟨ns, h1, h2, u, rfl, h4, h5⟩ := reads_ints ht he hc fuel _ _ h
  exact ⟨ns, ⟨fun n hn => i64_of (h1 n hn), h2⟩, .cons h5 rfl .nil⟩
theorem cells_rows {t e i : Nat} (ht : P.underlying t = some (.slice e)) (he : P.underlying e = some (.slice i)) (hi : P.underlying i = some (.int .i64)) (hc : P.cellsOf e = 1) (hci : P.cellsOf i = 1) :
    Reads enc P W t fun cs => ∃ nss, RowsOk nss ∧ CellsRep W cs [rows nss] := by
  intro fuel cs x h
  obtain ⟨nss, h1, h2, u, rfl, h4, h5⟩ := reads_rows ht he hi hc hci fuel _ _ h
  exact ⟨nss, ⟨h1, h2⟩, .cons h5 rfl .nil⟩

theorem open_agg {t : Nat} {fs : Array Field} {Q : List D → Prop} (ht : P.underlying t = some (.struct fs)) (hr : Reads enc P W t fun cs => ∃ xs, Q xs ∧ CellsRep W cs xs) (hok : Value.okWide P W .any base t v) (h : DataW.Trod enc P W 0 (fun _ => true) true t v d p) :
    ∃ xs, Q xs ∧ RepD (old W) W v (.agg xs) := by
  obtain ⟨fuel, hf⟩ := h
  obtain ⟨cs, rfl⟩ := agg_cells ht hok
  obtain ⟨xs, h1, h2⟩ := hr fuel _ _ hf
  exact ⟨xs, h1, h2.agg⟩
end

end Go.Proofs.YtampglcgipefnaaGreat
