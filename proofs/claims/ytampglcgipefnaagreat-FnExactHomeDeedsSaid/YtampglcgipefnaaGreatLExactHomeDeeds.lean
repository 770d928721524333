/- The given statement FnExactHomeDeeds: the law returns true for every input. No condition. -/
import Derived.Test.YtampglcgipefnaaGreatRows
import Derived.Test.YtampglcgipefnaaGreatFwJ
import Derived.Test.YtampglcgipefnaaGreatRi
namespace Go.Proofs.YtampglcgipefnaaGreat
open Go
set_option linter.unusedVariables false
set_option linter.unusedSimpArgs false
namespace LExactHomeDeeds
theorem ownKnobIs : ownKnob Tryz.prog.godebug = none := by kernel_rfl
theorem laidOutIs : laidOutB Tryz.prog = true := by kernel_rfl
section
variable {H : Type} {enc : TypeId × Value → H} {W : World} {base : Nat} {v : Value} {d : DataW H} {p : List MemPlace}
def Q_auto (xs : List D) : Prop := ∃ (s : Int) (nx : List (List Int)), (I64 s ∧ RowsOk nx) ∧ xs = [.int .i64 s, rows nx]
set_option maxRecDepth 100000 in
theorem reads_auto : Reads enc Tryz.prog W 24 fun cs => ∃ xs, Q_auto xs ∧ CellsRep W cs xs := by
  intro fuel cs x h
  obtain ⟨hl, hf⟩ := reads_struct (P := Tryz.prog) (w := W) (enc := enc) Tryz.underlying24 (n := 2) (by kernel_rfl) [fun cs => ∃ s, I64 s ∧ CellsRep W cs [.int .i64 s], fun cs => ∃ nx, RowsOk nx ∧ CellsRep W cs [rows nx]] (by
    intro i f Q h1 h2
    match i with
    | 0 => simp at h1 h2; subst h1 h2; exact cells_i64 Tryz.underlying2
    | 1 => simp at h1 h2; subst h1 h2; exact cells_rows Tryz.underlying22 Tryz.underlying25 Tryz.underlying2 (by kernel_rfl) (by kernel_rfl)
    | i + 2 => simp at h1) fuel cs x h
  have c0 : Tryz.prog.cellsOf 22 = 1 := by kernel_rfl
  have c1 : Tryz.prog.cellsOf 2 = 1 := by kernel_rfl
  obtain ⟨s, g0, r0⟩ := hf 0 _ _ rfl rfl
  obtain ⟨nx, g1, r1⟩ := hf 1 _ _ rfl rfl
  obtain ⟨x0, x1, rfl⟩ := len2 hl
  simp [c0, c1] at r0 r1
  refine ⟨_, ⟨s, nx, ⟨g0, g1⟩, rfl⟩, ?_⟩
  exact (r0).append (r1)
def Q_lit (xs : List D) : Prop := ∃ (s : Int) (nx : List (List Int)) (lp : List Int), (I64 s ∧ RowsOk nx ∧ IntsOk lp) ∧ xs = [.int .i64 s, rows nx, ints lp]
set_option maxRecDepth 100000 in
theorem reads_lit : Reads enc Tryz.prog W 27 fun cs => ∃ xs, Q_lit xs ∧ CellsRep W cs xs := by
  intro fuel cs x h
  obtain ⟨hl, hf⟩ := reads_struct (P := Tryz.prog) (w := W) (enc := enc) Tryz.underlying27 (n := 3) (by kernel_rfl) [fun cs => ∃ xs, Q_auto xs ∧ CellsRep W cs xs, fun cs => ∃ lp, IntsOk lp ∧ CellsRep W cs [ints lp]] (by
    intro i f Q h1 h2
    match i with
    | 0 => simp at h1 h2; subst h1 h2; exact reads_auto
    | 1 => simp at h1 h2; subst h1 h2; exact cells_ints Tryz.underlying25 Tryz.underlying2 (by kernel_rfl)
    | i + 2 => simp at h1) fuel cs x h
  have c0 : Tryz.prog.cellsOf 24 = 2 := by kernel_rfl
  have c1 : Tryz.prog.cellsOf 25 = 1 := by kernel_rfl
  obtain ⟨_, ⟨s, nx, ⟨g1, g2⟩, rfl⟩, r0⟩ := hf 0 _ _ rfl rfl
  obtain ⟨lp, g3, r1⟩ := hf 1 _ _ rfl rfl
  obtain ⟨x0, x1, x2, rfl⟩ := len3 hl
  simp [c0, c1] at r0 r1
  exact ⟨_, ⟨s, nx, lp, ⟨g1, g2, g3⟩, rfl⟩, (r0).append r1⟩
def Q_deed (xs : List D) : Prop := ∃ (k : Int) (a : Int), (I64 k ∧ I64 a) ∧ xs = [.int .i64 k, .int .i64 a]
set_option maxRecDepth 100000 in
theorem reads_deed : Reads enc Tryz.prog W 76 fun cs => ∃ xs, Q_deed xs ∧ CellsRep W cs xs := by
  intro fuel cs x h
  obtain ⟨hl, hf⟩ := reads_struct (P := Tryz.prog) (w := W) (enc := enc) Tryz.underlying76 (n := 2) (by kernel_rfl) [fun cs => ∃ k, I64 k ∧ CellsRep W cs [.int .i64 k], fun cs => ∃ a, I64 a ∧ CellsRep W cs [.int .i64 a]] (by
    intro i f Q h1 h2
    match i with
    | 0 => simp at h1 h2; subst h1 h2; exact cells_i64 Tryz.underlying2
    | 1 => simp at h1 h2; subst h1 h2; exact cells_i64 Tryz.underlying2
    | i + 2 => simp at h1) fuel cs x h
  have c0 : Tryz.prog.cellsOf 2 = 1 := by kernel_rfl
  obtain ⟨k, g0, r0⟩ := hf 0 _ _ rfl rfl
  obtain ⟨a, g1, r1⟩ := hf 1 _ _ rfl rfl
  obtain ⟨x0, x1, rfl⟩ := len2 hl
  simp [c0] at r0 r1
  refine ⟨_, ⟨k, a, ⟨g0, g1⟩, rfl⟩, ?_⟩
  exact (r0).append (r1)
set_option maxRecDepth 100000 in
theorem open_deeds (hok : Value.okWide Tryz.prog W .any base 28 v) (h : DataW.Trod enc Tryz.prog W 0 (fun _ => true) true 28 v d p) :
    ∃ ds : List (Int × Int), ds.length ≤ 9223372036854775807 ∧ RepD (old W) W v (deedsD ds) := by
  obtain ⟨fuel, hf⟩ := h
  obtain ⟨dsx, _, h2, u, h3, _, h5⟩ := reads_slice (P := Tryz.prog) (w := W) (enc := enc) deedD (fun _ : Int × Int => True) Tryz.underlying28 (sz := 2) (by kernel_rfl) (by omega) (fun fuel cs x h => by
    obtain ⟨xs, ⟨k, a, _, rfl⟩, hr⟩ := reads_deed fuel cs x h
    exact ⟨(k, a), trivial, .agg cs.toArray, rfl, CellsRep.agg hr⟩) fuel _ _ hf
  rw [one_cell Tryz.underlying28 rfl hok h3]
  exact ⟨dsx, h2, h5⟩
end
set_option maxRecDepth 100000 in
theorem contract (H : Type) (enc : TypeId × Value → H) (W : World) (base : Nat) (args : Array Value) (ds gs : List (DataW H)) (before : List MemPlace)
    (hval : ∀ (j : Nat) t v, Tryz.f6.params[j]? = some t → args[j]? = some v → Value.okWide Tryz.prog W .any base t v)
    (hW : DataW.Whole enc Tryz.prog Tryz.f6.params.toList Rows.fnExactHomeDeedsSpec.vars false W args.toList ds gs before) :
    Calls Tryz.prog 6 args W fun e W' => ∃ v, e = .returned v ∧ Rows.fnExactHomeDeedsSpec.post enc Tryz.prog Tryz.f6 false true false false W args v W' := by
  obtain ⟨p, q, hA, hV, _, _, _⟩ := id hW
  rw [Tryz.params6] at hA hval
  obtain ⟨v0, vs0, d0, ds0, p0, q0, hargs0, rfl, _, h0, r0⟩ := ChangeShapes.trodAll_cons hA
  obtain ⟨v1, vs1, d1, ds1, p1, q1, hargs1, rfl, _, h1, r1⟩ := ChangeShapes.trodAll_cons r0
  obtain ⟨v2, vs2, d2, ds2, p2, q2, hargs2, rfl, _, h2, r2⟩ := ChangeShapes.trodAll_cons r1
  obtain ⟨rfl, rfl, _⟩ := ChangeShapes.trodAll_nil r2
  subst hargs2
  subst hargs1
  obtain rfl : args = #[v0, v1, v2] := Array.ext' hargs0
  have hV' : DataW.TrodVars enc Tryz.prog W (fun _ => true) [] gs q := hV
  obtain ⟨rfl, _⟩ := ChangeShapes.trodVars_none hV'
  obtain ⟨_, ⟨a0_0, a0_1, a0_2, ⟨g0_0, g0_1, g0_2⟩, rfl⟩, e0⟩ := open_agg Tryz.underlying27 reads_lit (hval 0 27 v0 rfl rfl) h0
  obtain ⟨n1, f1, e1⟩ := open_i64 Tryz.underlying2 (hval 1 2 v1 rfl rfl) h1
  obtain ⟨n2, f2, e2⟩ := open_deeds (hval 2 28 v2 rfl rfl) h2
  refine ((law_ExactHomeDeeds g0_0 g0_1 g0_2 f1 f2).2 W (old W) _ (fun b hb => hb) ⟨rfl, fun i v x hv hx => ?_⟩).mono ?_
  · match i with
    | 0 => simp at hv hx; subst hv hx; exact e0
    | 1 => simp at hv hx; subst hv hx; exact e1
    | 2 => simp at hv hx; subst hv hx; exact e2
    | i + 3 => simp at hv
  · rintro e W' ⟨v, rfl, hv, hb⟩
    have := RepD.bool_inv hv
    subst this
    exact ⟨_, rfl, law_post laidOutIs (by kernel_rfl) rfl hW hb rfl Tryz.underlying4 ⟨rfl, rfl, rfl⟩⟩
set_option maxRecDepth 100000 in
theorem lifted (os : Os) (started : os.Started) (H : Type) (enc : TypeId × Value → H) :
    ReturnsInHanded {} Tryz.checked os 6 .any (Rows.fnExactHomeDeedsSpec.pre6 enc Tryz.prog Tryz.f6 Rows.fnExactHomeDeedsRow.domain false) (Rows.fnExactHomeDeedsSpec.post enc Tryz.prog Tryz.f6 false true false false) := by
  refine returnsInHanded_of_change (C := Tryz.checked) ownKnobIs started (by kernel_rfl) Tryz.func6
    (ChangeSpec.witness6 (enc := enc) (C := Tryz.checked) false ⟨#[], #[.agg #[.int .i64 0, .slice none 0 0, .slice none 0 0], .int .i64 0, .slice none 0 0], []⟩ 8 (by kernel_rfl) (by kernel_rfl) (by kernel_rfl) (by kernel_rfl)) ?_
  intro W base args ds gs before hval hW _ _
  exact contract H enc W base args ds gs before hval hW

theorem proved : Rows.FnExactHomeDeedsSaid :=
  OpenClaim.holds_of_wide 6 Tryz.f6 rfl rfl rfl rfl rfl rfl rfl ⟨rfl, rfl, rfl, rfl, rfl⟩ rfl rfl rfl rfl rfl (by kernel_rfl) Tryz.func6 (by kernel_rfl)
    (of_decide_eq_true (by kernel_rfl)) (by unfold Func.isWrapper; first | (rw [if_pos (by decide +kernel)]; kernel_rfl) | (rw [if_neg (by decide +kernel)]; exact ⟨rfl, rfl⟩))
    (fun os started H enc _ => lifted os started H enc)
end LExactHomeDeeds
end Go.Proofs.YtampglcgipefnaaGreat
