/- strings.Cut at one byte and strconv.ParseInt to the base ten: their contracts over data. Condition: texts of at most a million bytes; the errors of strconv are laid. -/
import Derived.Test.YtffmlijngfhhaaaGreatDoorPl
import Derived.Test.YtffmlijngfhhaaaGreatDoorNu
namespace Go.Proofs.YtffmlijngfhhaaaGreatDoor
open Go Go.Proofs Go.RowKit Go.Lib
set_option linter.unusedVariables false
set_option linter.unusedSimpArgs false

/-! ### Plain: a text cut at the first of some byte -/
def cutA (b : UInt8) : List UInt8 → List UInt8
  | [] => []
  | c :: r => if c = b then [] else c :: cutA b r
def cutB (b : UInt8) : List UInt8 → List UInt8
  | [] => []
  | c :: r => if c = b then r else cutB b r
theorem cut_no {b : UInt8} {l : List UInt8} (h : ∀ c ∈ l, c ≠ b) : cutA b l = l ∧ cutB b l = [] := by
  induction l with
  | nil => exact ⟨rfl, rfl⟩
  | cons c r ih =>
    obtain ⟨h1, h2⟩ := ih fun x hx => h x (by simp [hx])
    have hc := h c (by simp)
    rw [cutA, cutB, if_neg hc, if_neg hc, h1, h2]
    exact ⟨rfl, rfl⟩
theorem cut_yes {b : UInt8} {l r : List UInt8} (h : ∀ c ∈ l, c ≠ b) : cutA b (l ++ b :: r) = l ∧ cutB b (l ++ b :: r) = r := by
  induction l with
  | nil => simp [cutA, cutB]
  | cons c l ih =>
    obtain ⟨h1, h2⟩ := ih fun x hx => h x (by simp [hx])
    have hc := h c (by simp)
    rw [List.cons_append, cutA, cutB, if_neg hc, if_neg hc, h1, h2]
    exact ⟨rfl, rfl⟩
theorem cutA_le (b : UInt8) (l : List UInt8) : (cutA b l).length ≤ l.length := by
  induction l with
  | nil => simp [cutA]
  | cons c r ih => rw [cutA]; split <;> simp; omega
theorem cutB_le (b : UInt8) (l : List UInt8) : (cutB b l).length ≤ l.length := by
  induction l with
  | nil => simp [cutB]
  | cons c r ih => rw [cutB]; split <;> simp; omega
theorem indexByte_cut {b : UInt8} : ∀ {l : List UInt8}, (indexByte l b = -1 ∧ ∀ c ∈ l, c ≠ b) ∨ ∃ i : Nat, indexByte l b = i ∧ i < l.length ∧ cutA b l = l.take i ∧ cutB b l = l.drop (i + 1) ∧ b ∈ l
  | [] => .inl ⟨rfl, by simp⟩
  | c :: r => by
    by_cases hc : c = b
    · refine .inr ⟨0, ?_, by simp, ?_, ?_, by simp [hc]⟩
      · rw [indexByte, if_pos (by simpa using hc)]; rfl
      · rw [cutA, if_pos hc]; rfl
      · rw [cutB, if_pos hc]; rfl
    · rcases @indexByte_cut b r with ⟨h1, h2⟩ | ⟨i, h1, h2, h3, h4, h5⟩
      · refine .inl ⟨?_, fun x hx => ?_⟩
        · rw [indexByte, if_neg (by simpa using hc), h1]; rfl
        · rcases List.mem_cons.1 hx with rfl | hx
          · exact hc
          · exact h2 x hx
      · refine .inr ⟨i + 1, ?_, by simp; omega, ?_, ?_, List.mem_cons_of_mem _ h5⟩
        · rw [indexByte, if_neg (by simpa using hc), h1, if_neg (by simp)]; omega
        · rw [cutA, if_neg hc, h3]; rfl
        · rw [cutB, if_neg hc, h4]; rfl

/-! ### strings.Cut -/
theorem c_sCut (s : ByteArray) (c : UInt8) (w : World) (hs : s.size < 4294967281) : Calls Tryz.prog 117 #[.string s, .string ⟨#[c]⟩] w fun e w' =>
    (∃ u v, e = .returned (.tuple #[.string u, .string v, .bool (decide (c ∈ s.data.toList))]) ∧ u.data.toList = cutA c s.data.toList ∧ v.data.toList = cutB c s.data.toList) ∧ ∃ n, w' = w.drewN n := by
  have hI := Any.stringslite_Index_one { cutl with } s c w
  rcases @indexByte_cut c s.data.toList with ⟨h1, h2⟩ | ⟨i, h1, h2, h3, h4, h5⟩
  · rw [h1] at hI
    obtain ⟨e1, e2⟩ := cut_no h2
    rw [e1, e2, decide_eq_false fun hc : c ∈ s.data.toList => h2 c hc rfl]
    go_enter Tryz.func117, Tryz.ntmps117
    go_wp2_with (go_at_call 156; refine hI.mono ?_; rintro e w' ⟨rfl, rfl⟩)
    go_ret3
    exact ⟨⟨_, _, rfl, rfl, rfl⟩, 0, rfl⟩
  · rw [h1] at hI
    rw [decide_eq_true h5]
    have h2 : i < s.size := h2
    have c1 : (0 : Int) ≤ ↑i := by omega
    have c2 : (↑i : Int) ≤ ↑s.size := by omega
    have c3 : (0 : Int) ≤ ↑i + 1 := by omega
    have c4 : (↑i + 1 : Int) ≤ ↑s.size := by omega
    have hw : IntKind.i64.wrap ((i : Int) + 1) = (i : Int) + 1 := wrap_in (by simp [IntKind.min, IntKind.signed, IntKind.bits]; omega) (by simp [IntKind.max, IntKind.signed, IntKind.bits]; omega)
    have mixed : Tryz.prog.follows .mixedOrders = true := by kernel_rfl
    go_enter Tryz.func117, Tryz.ntmps117
    go_wp2_with (go_at_call 156; refine hI.mono ?_; rintro e w' ⟨rfl, rfl⟩)
    go_region_o
    go_wp2
    go_ret3
    exact ⟨⟨_, _, rfl, by simp [h3], by simp [h4]; exact List.take_of_length_le (by simp)⟩, 1, rfl⟩

theorem drewN_below (w : World) (n : Nat) : Below w.heap.size w (w.drewN n) := ⟨rfl, rfl, rfl, Nat.le_refl _, fun j hj => rfl⟩
theorem rep3 {ok : Nat → Prop} {w : World} {a b c : Value} {x y z : D} (h1 : RepD ok w a x) (h2 : RepD ok w b y) (h3 : RepD ok w c z) : RepD ok w (.tuple #[a, b, c]) (.tup [x, y, z]) := by
  refine .tup _ _ rfl fun i v x hv hx => ?_
  match i with
  | 0 => simp at hv hx; subst hv hx; exact h1
  | 1 => simp at hv hx; subst hv hx; exact h2
  | 2 => simp at hv hx; subst hv hx; exact h3
  | i + 3 => simp at hv
theorem strings_Cut {l : List UInt8} {b : UInt8} (hl : l.length ≤ 1048576) : AC Tryz.prog 46 [.str l, .str [b]] (.tup [.str (cutA b l), .str (cutB b l), .bool (decide (b ∈ l))]) := by
  refine ⟨⟨_, Tryz.func46, by kernel_rfl, by kernel_rfl⟩, fun w ok vs _ hok hr => ?_⟩
  obtain ⟨hs, hr⟩ := hr
  obtain ⟨v0, v1, rfl⟩ : ∃ v0 v1, vs = #[v0, v1] := by
    obtain ⟨x⟩ := vs
    match x, hs with
    | [a, b], _ => exact ⟨a, b, rfl⟩
  have h0 := (hr 0 v0 _ rfl rfl).str_inv
  have h1 := (hr 1 v1 _ rfl rfl).str_inv
  subst h0 h1
  have hc := c_sCut ⟨l.toArray⟩ b w (by rw [ByteArray.size]; simp; omega)
  go_enter Tryz.func46, Tryz.ntmps46
  go_wp2_with (go_at_call 117; refine hc.mono ?_; rintro e w' ⟨⟨u, v, rfl, hu, hv⟩, n, rfl⟩)
  go_ret3
  exact ⟨_, rfl, rep3 (.str _ _ (ByteArray.ext (Array.toList_inj.1 hu))) (.str _ _ (ByteArray.ext (Array.toList_inj.1 hv))) (.bool _), drewN_below w n⟩

/-! ### strconv.ParseInt -/
/-- A contract over a world that keeps all old memory, as one that may return what is no data. -/
theorem hc_kit {P : Program} {f : Nat} {xs : List D} {r : SV} (hcl : Callable P f) (h : ∀ (w : World) (ok : Nat → Prop) (vs : Array Value), EnvAt P w → (∀ b, ok b → b < w.heap.size) → RepAll ok w vs xs →
    Calls P f vs w fun e w' => ∃ v, e = .returned v ∧ RepSV (fun _ => ⟨0, 0, true, []⟩) [] (okn ok w (fun _ => ⟨0, 0, true, []⟩) []) w' v r ∧ Below w.heap.size w w') : HC P f (xs.map .d) [] r [] := by
  refine ⟨hcl, fun p hp => (by cases hp), fun w ok σ vs he hok hown hvs => (h w ok vs he.1 hok ?_).mono ?_⟩
  · obtain ⟨g1, g2⟩ := RepSVs.get hvs
    refine ⟨by simpa using g1, fun i v x hv hx => ?_⟩
    exact (g2 i v (.d x) (by simpa using hv) (by simp [hx])).1
  · rintro e w' ⟨v, rfl, hv, hb⟩
    exact ⟨v, fun _ => ⟨0, 0, true, []⟩, rfl, ⟨hb.os, hb.tape, hb.output, hb.size, fun b h1 _ => hb.block b h1, by simp, by simp, by simp, by simp, by simp, by simp⟩, hv⟩

theorem strconv_ParseInt {l : List UInt8} (hl : l.length ≤ 1048576) : HC Tryz.prog 47 [.d (.str l), .d (.int .i64 10), .d (.int .i64 64)] [] (.tup [.d (.int .i64 (pint l)), .junk]) [] := by
  refine hc_kit (xs := [.str l, .int .i64 10, .int .i64 64]) ⟨_, Tryz.func47, by kernel_rfl, by kernel_rfl⟩ fun w ok vs he hok hr => ?_
  obtain ⟨hs, hr⟩ := hr
  obtain ⟨v0, v1, v2, rfl⟩ : ∃ v0 v1 v2, vs = #[v0, v1, v2] := by
    obtain ⟨x⟩ := vs
    match x, hs with
    | [a, b, c], _ => exact ⟨a, b, c, rfl⟩
  have h0 := (hr 0 v0 _ rfl rfl).str_inv
  have h1 := (hr 1 v1 _ rfl rfl).int_inv
  have h2 := (hr 2 v2 _ rfl rfl).int_inv
  subst h0 h1 h2
  have hsz : (⟨l.toArray⟩ : ByteArray).size = l.length := by rw [ByteArray.size]; simp
  have fin : ∀ (n : Int) (x : Value) (w' : World), RepSV (fun _ => ⟨0, 0, true, []⟩) [] (okn ok w (fun _ => ⟨0, 0, true, []⟩) []) w' (.tuple #[.int .i64 n, x]) (.tup [.d (.int .i64 n), .junk]) := fun n x w' => by
    simp only [RepSV]
    refine ⟨_, rfl, ?_⟩
    simp only [RepSVs]
    exact ⟨_, _, rfl, .int _ _, by simp, _, _, rfl, trivial, by simp, rfl⟩
  obtain ⟨-, ⟨t1, p1, e1⟩, t2, p2, e2⟩ := he
  cases hp : Go.Lib.parseIntB 64 l
  · rename_i v
    have hv : pint l = v := by unfold pint; rw [hp]
    refine (Any.strconv_ParseInt_10_at64_ok pinC ⟨l.toArray⟩ (by rw [hsz]; omega) v (by simpa using hp) w).mono ?_
    rintro e w' ⟨rfl, hw⟩
    refine ⟨_, rfl, ?_, ?_⟩
    · rw [hv]; exact fin _ _ _
    · rcases hw with rfl | ⟨t, rfl⟩
      · exact Below.refl _ _
      · exact Go.Lib.bytesWorld_below _ _ _
  · have hv : pint l = 0 := by unfold pint; rw [hp]
    refine (Any.strconv_ParseInt_10_at64_syntax_var pinC ⟨l.toArray⟩ (by rw [hsz]; omega) (by simpa using hp) t1 p1 w e1).mono ?_
    rintro e w' ⟨N, rfl, _, _, hb⟩
    exact ⟨_, rfl, by rw [hv]; exact fin _ _ _, hb⟩
  · have hv : pint l = Go.Lib.intSat 64 l := by unfold pint; rw [hp]
    refine (Any.strconv_ParseInt_10_at64_range_var pinC ⟨l.toArray⟩ (by rw [hsz]; omega) (by simpa using hp) t2 p2 w e2).mono ?_
    rintro e w' ⟨N, rfl, _, _, hb⟩
    exact ⟨_, rfl, by rw [hv]; exact fin _ _ _, hb⟩
end Go.Proofs.YtffmlijngfhhaaaGreatDoor
