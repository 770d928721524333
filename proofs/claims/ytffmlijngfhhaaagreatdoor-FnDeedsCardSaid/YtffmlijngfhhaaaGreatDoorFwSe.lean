/- Structs of numbers and truths are compared. No condition. -/
import Derived.Test.YtffmlijngfhhaaaGreatDoorFwT
import Derived.Laws.StructEq
namespace Go.Proofs.YtffmlijngfhhaaaGreatDoor
open Go
open Go.RowKit (Below)
set_option linter.unusedVariables false
set_option linter.unusedSimpArgs false

/-- Is it a number (false) or a truth (true)? -/
def flatT (P : Program) (t : Nat) (b : Bool) : Bool := match P.underlying t with
  | some (.int .i64) => !b
  | some .bool => b
  | _ => false
def flatF (P : Program) : Nat → List Field → List Bool → Bool
  | _, [], [] => true
  | o, f :: fs, b :: bs => f.name != "_" && Nat.beq f.offset o && flatT P f.type b && flatF P (o + 1) fs bs
  | _, _, _ => false
def flatS (P : Program) (t : Nat) (bs : List Bool) : Bool := !P.stoodInHeld t && !P.eqGuardType P.depth t && match P.underlying t with
  | some (.struct fs) => flatF P 0 fs.toList bs
  | _ => false
def flatD : List Bool → List D → Bool
  | [], [] => true
  | false :: bs, .int .i64 _ :: xs => flatD bs xs
  | true :: bs, .bool _ :: xs => flatD bs xs
  | _, _ => false
def eqD : List D → List D → Bool
  | [], [] => true
  | .int _ a :: xs, .int _ b :: ys => decide (a = b) && eqD xs ys
  | .bool a :: xs, .bool b :: ys => (a == b) && eqD xs ys
  | _, _ => false

theorem flatD_int {bs : List Bool} {xs : List D} (h : flatD (false :: bs) xs = true) : ∃ a l, xs = .int .i64 a :: l ∧ flatD bs l = true := by
  cases xs with
  | nil => simp [flatD] at h
  | cons x l =>
    cases x with
    | int k n => cases k <;> first | exact ⟨n, l, rfl, by simpa [flatD] using h⟩ | (simp [flatD] at h; done)
    | _ => simp [flatD] at h
theorem flatD_bool {bs : List Bool} {xs : List D} (h : flatD (true :: bs) xs = true) : ∃ a l, xs = .bool a :: l ∧ flatD bs l = true := by
  cases xs with
  | nil => simp [flatD] at h
  | cons x l =>
    cases x with
    | bool b => exact ⟨b, l, rfl, by simpa [flatD] using h⟩
    | _ => simp [flatD] at h
theorem flatD_nil {xs : List D} (h : flatD [] xs = true) : xs = [] := by
  cases xs with
  | nil => rfl
  | cons x l => simp [flatD] at h
section
variable {P : Program} {w : World} {ok : Nat → Prop}
theorem flatT_int {t : Nat} (h : flatT P t false = true) : P.underlying t = some (.int .i64) := by
  unfold flatT at h
  split at h
  · assumption
  · cases h
  · cases h
theorem flatT_bool {t : Nat} (h : flatT P t true = true) : P.underlying t = some .bool := by
  unfold flatT at h
  split at h
  · cases h
  · assumption
  · cases h
theorem flat_fields (d : Nat) (cs ds : Array Value) : ∀ (fs : List Field) (bs : List Bool) (o : Nat) (xs ys : List D), flatF P o fs bs = true → flatD bs xs = true → flatD bs ys = true →
    (∀ (i : Nat) x, xs[i]? = some x → ∃ v, cs[o + i]? = some v ∧ RepD ok w v x) → (∀ (i : Nat) x, ys[i]? = some x → ∃ v, ds[o + i]? = some v ∧ RepD ok w v x) →
    (Op.eqFields (d + 1) cs ds fs).run P w = .ok (eqD xs ys) w
  | [], [], o, xs, ys, _, hx, hy, _, _ => by
    have := flatD_nil hx
    have := flatD_nil hy
    subst xs ys
    simp [Op.eqFields, eqD, Sem.run_pure]
  | f :: fs, false :: bs, o, xs, ys, hf, hx, hy, h1, h2 => by
    obtain ⟨a, xs, rfl, hx⟩ := flatD_int hx
    obtain ⟨b, ys, rfl, hy⟩ := flatD_int hy
    simp only [flatF, Bool.and_eq_true, bne_iff_ne, ne_eq] at hf
    obtain ⟨⟨⟨f1, f2⟩, f3⟩, f4⟩ := hf
    have f2 := Nat.eq_of_beq_eq_true f2
    have f3 := flatT_int f3
    obtain ⟨v, v1, v2⟩ := h1 0 _ rfl
    obtain ⟨u, u1, u2⟩ := h2 0 _ rfl
    have := RepD.int_inv v2
    have := RepD.int_inv u2
    subst v u
    have ih := flat_fields d cs ds fs bs (o + 1) xs ys f4 hx hy (fun i x hi => by have := h1 (i + 1) x (by simpa using hi); rwa [show o + (i + 1) = o + 1 + i by omega] at this) (fun i x hi => by have := h2 (i + 1) x (by simpa using hi); rwa [show o + (i + 1) = o + 1 + i by omega] at this)
    have p1 : (part f.type cs f.offset).run P w = .ok (.int .i64 a) w := by simp only [Nat.add_zero] at v1; simp [part, isAgg, run_underlying f3, f2, v1]
    have p2 : (part f.type ds f.offset).run P w = .ok (.int .i64 b) w := by simp only [Nat.add_zero] at u1; simp [part, isAgg, run_underlying f3, f2, u1]
    have q1 := run_equalIn_int (P := P) w d f.type .i64 .i64 a b f3
    have b1 : (a == b) = decide (a = b) := by by_cases hh : a = b <;> simp [hh]
    rw [b1] at q1
    simp only [Op.eqFields, if_pos f1, Sem.run_bind, p1, p2, q1, Result.andThen_ok, eqD]
    cases decide (a = b) <;> simp [ih, Sem.run_pure]
  | f :: fs, true :: bs, o, xs, ys, hf, hx, hy, h1, h2 => by
    obtain ⟨a, xs, rfl, hx⟩ := flatD_bool hx
    obtain ⟨b, ys, rfl, hy⟩ := flatD_bool hy
    simp only [flatF, Bool.and_eq_true, bne_iff_ne, ne_eq] at hf
    obtain ⟨⟨⟨f1, f2⟩, f3⟩, f4⟩ := hf
    have f2 := Nat.eq_of_beq_eq_true f2
    have f3 := flatT_bool f3
    obtain ⟨v, v1, v2⟩ := h1 0 _ rfl
    obtain ⟨u, u1, u2⟩ := h2 0 _ rfl
    have := RepD.bool_inv v2
    have := RepD.bool_inv u2
    subst v u
    have ih := flat_fields d cs ds fs bs (o + 1) xs ys f4 hx hy (fun i x hi => by have := h1 (i + 1) x (by simpa using hi); rwa [show o + (i + 1) = o + 1 + i by omega] at this) (fun i x hi => by have := h2 (i + 1) x (by simpa using hi); rwa [show o + (i + 1) = o + 1 + i by omega] at this)
    have p1 : (part f.type cs f.offset).run P w = .ok (.bool a) w := by simp only [Nat.add_zero] at v1; simp [part, isAgg, run_underlying f3, f2, v1]
    have p2 : (part f.type ds f.offset).run P w = .ok (.bool b) w := by simp only [Nat.add_zero] at u1; simp [part, isAgg, run_underlying f3, f2, u1]
    have q1 := run_equalIn_bool' (P := P) w d f.type a b f3
    simp only [Op.eqFields, if_pos f1, Sem.run_bind, p1, p2, q1, Result.andThen_ok, eqD]
    cases (a == b) <;> simp [ih, Sem.run_pure]
  | [], b :: bs, _, _, _, h, _, _, _, _ => by simp [flatF] at h
  | f :: fs, [], _, _, _, h, _, _, _, _ => by simp [flatF] at h
theorem flat_equal {t : Nat} {bs : List Bool} (hf : flatS P t bs = true) {xs ys : List D} (hx : flatD bs xs = true) (hy : flatD bs ys = true) {u v : Value} (hu : RepD ok w u (.agg xs)) (hv : RepD ok w v (.agg ys)) (d : Nat) :
    (∃ cs ds, u = .agg cs ∧ v = .agg ds) ∧ P.eqGuardType P.depth t = false ∧ (Op.equalIn (d + 2) t u v).run P w = .ok (eqD xs ys) w := by
  unfold flatS at hf
  simp only [Bool.and_eq_true, Bool.not_eq_true'] at hf
  obtain ⟨⟨h1, h2⟩, h3⟩ := hf
  split at h3
  · rename_i fs hfs
    obtain ⟨cs, rfl, c1, _, c3⟩ := hu.agg_inv
    obtain ⟨ds, rfl, d1, _, d3⟩ := hv.agg_inv
    have hfo : P.fieldsOf t = fs := by unfold Program.fieldsOf; rw [hfs]
    refine ⟨⟨cs, ds, rfl, rfl⟩, h2, ?_⟩
    rw [run_equalIn_struct w (d + 1) t _ _ (by rw [hfo]; exact hfs) h1, hfo]
    have key : ∀ (cs : Array Value) (xs : List D), cs.size = xs.length → (∀ (i : Nat) u x, cs[i]? = some u → xs[i]? = some x → RepD ok w u x) → ∀ (i : Nat) x, xs[i]? = some x → ∃ v, cs[0 + i]? = some v ∧ RepD ok w v x := fun cs xs hc hr i x hi => by
      have hl : i < xs.length := by
        rcases Nat.lt_or_ge i xs.length with h | h
        · exact h
        · rw [List.getElem?_eq_none h] at hi; cases hi
      have : cs[0 + i]? = some cs[i] := by rw [Nat.zero_add]; exact Array.getElem?_eq_getElem (by omega)
      exact ⟨cs[i], this, hr i _ x (by rw [Nat.zero_add] at this; exact this) hi⟩
    exact flat_fields d cs ds _ _ 0 xs ys h3 hx hy (key cs xs c1 c3) (key ds ys d1 d3)
  · cases h3
end

section
variable {cx : Cx} {h : Heap} {s : Nat → SV} {dst : Option Nat} {ty : Nat} {pos : String} {af : Array Edge} {gd : Option (Nat × Bool)}
theorem qa_neqS (bs : List Bool) {t t' : Nat} {x y : Operand} {xs ys : List D} (hx : opv s x = .d (.agg xs)) (hy : opv s y = .d (.agg ys)) (hf : flatS cx.P t bs = true) (h1 : flatD bs xs = true) (h2 : flatD bs ys = true) :
    Qt cx h ⟨dst, .binOp .neq t x y t', ty, pos, af, gd⟩ s (.d (.bool (!eqD xs ys))) :=
  qt_of fun r hr σ ac w hv _ _ => by
    have v1 := hv x
    have v2 := hv y
    rw [hr x (by simp [Op.operands]), hx] at v1
    rw [hr y (by simp [Op.operands]), hy] at v2
    obtain ⟨⟨cs, ds, e1, e2⟩, e3, e4⟩ := flat_equal hf h1 h2 v1 v2 9998
    refine ⟨.bool (!eqD xs ys), w, ?_, Below.refl _ _, RepD.bool _⟩
    simp only [execOp, e1, e2] at e4 ⊢
    simp only [Sem.run_bind, run_eqGuard_agg w .neq t x y cs ds e3, Result.andThen_ok, run_neq_struct]
    rw [e4]
    simp [Sem.run_pure, Result.andThen]
end
theorem eqD_refl : ∀ {bs : List Bool} {xs : List D}, flatD bs xs = true → eqD xs xs = true
  | [], xs, h => by have := flatD_nil h; subst this; rfl
  | false :: bs, xs, h => by
    obtain ⟨a, l, rfl, h2⟩ := flatD_int h
    have := eqD_refl h2
    show (decide (a = a) && eqD l l) = true
    rw [this]; simp
  | true :: bs, xs, h => by
    obtain ⟨a, l, rfl, h2⟩ := flatD_bool h
    have := eqD_refl h2
    show ((a == a) && eqD l l) = true
    rw [this]; simp
end Go.Proofs.YtffmlijngfhhaaaGreatDoor
