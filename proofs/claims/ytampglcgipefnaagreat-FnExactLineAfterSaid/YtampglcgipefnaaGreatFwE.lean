/- More operations of the logic over data: elements, boxed values, arithmetic within bounds, strings, slices of slices. No condition. -/
import Derived.Test.YtampglcgipefnaaGreatFwD
namespace Go.Proofs.YtampglcgipefnaaGreat
open Go
open Go.RowKit (Below)
set_option linter.unusedVariables false
set_option linter.unusedSimpArgs false

def D.width : D → Nat
  | .agg xs => xs.length
  | _ => 1

theorem RepD.width {ok : Nat → Prop} {w : World} {v : Value} {x : D} (h : RepD ok w v x) (hx : x.one = true ∨ ∃ xs, x = .agg xs) : v.cells.size = x.width := by
  rcases hx with hx | ⟨xs, rfl⟩
  · rw [h.oneCell hx]
    cases x <;> first | rfl | (simp [D.one] at hx)
  · cases h with
    | agg cs _ h1 _ _ => exact h1

/-- An element's data: no tuple. -/
def D.el : D → Bool
  | .tup _ => false
  | _ => true

theorem D.el_or {x : D} (h : x.el = true) : x.one = true ∨ ∃ xs, x = .agg xs := by
  cases x <;> first | exact .inl rfl | exact .inr ⟨_, rfl⟩ | (simp [D.el] at h)

/-- A value in the slots that is a list's data, as a list. -/
theorem lst_index {P : Program} {ok : Nat → Prop} {w : World} {t : Nat} {ty te : TR} (ht : trOk P t ty = true) (hsl : ty.isSl = true) (hte : trOk P ty.elem te = true) {v : Value} {xs : List D} (hv : RepD ok w v (.lst xs))
    {k : IntKind} {n : Int} (h0 : 0 ≤ n) {y : D} (hy : xs[n.toNat]? = some y) (hel : y.el = true) (hw : y.width = te.size) :
    ∃ z, (Instr.indexAt t v (.int k n)).run P w = .ok z w ∧ RepD ok w z (.ptr y) := by
  obtain ⟨d, i, hd, hi, -, -, -, hs, -⟩ := tr_facts ht
  obtain ⟨d', i', hd', hi', -, h2', -⟩ := tr_facts hte
  have := hs hsl
  subst this
  have hlt : n.toNat < xs.length := by
    rcases Nat.lt_or_ge n.toNat xs.length with hh | hh
    · exact hh
    · simp [hh] at hy
  cases hv with
  | nil0 => simp at hlt
  | emp a cap => simp at hlt
  | lst b off cap m cells e fr xs vs sz k1 k2 k3 k4 k5 k6 k7 k8 =>
    have hvlt : n.toNat < vs.length := by omega
    have hget : vs[n.toNat]? = some vs[n.toNat] := List.getElem?_eq_getElem hvlt
    have hr := k7 _ _ _ hget hy
    obtain ⟨c1, c2⟩ := k8 _ _ hget
    have hsz : sz = te.size := by rw [← c1, hr.width (D.el_or hel), hw]
    subst hsz
    refine ⟨.pointer (some ⟨b, off + n.toNat * te.size, none⟩), ?_, RepD.ptr b _ _ y cells e fr k1 k2 (fun j hj => c2 j (by omega)) hr⟩
    have hnm : n < (m : Int) := by omega
    simp only [Instr.indexAt, asIntOf, Sem.run_bind, Sem.run_pure, Result.andThen_ok, run_underlying hd]
    rw [if_pos ⟨h0, hnm⟩]
    simp [sizeOf, typeInfo, hi', h2', add_block]

section
variable {cx : Cx} {h : Heap} {o : Oper} {s : Nat → SV}

theorem qt_of {sv : SV} (hq : ∀ (r : Operand → SV), (∀ x ∈ o.op.operands, r x = opv s x) → ∀ (σ : Nat → Loc) (a : Act) (w : World), (∀ x, RepSV σ h (okf cx σ h) w (a.eval x) (r x)) → HeapOk cx σ h w → Evo cx w →
    ∃ v w', (execOp a.eval o).run cx.P w = .ok (.value v) w' ∧ Below w.heap.size w w' ∧ RepSV σ h (okf cx σ h) w' v sv) : Qt cx h o s sv := by
  intro s₁ hs σ a w hr K Q hK
  obtain ⟨v, w', h1, h2, h3⟩ := hq (opv s₁) (fun x hx => by cases x <;> first | rfl | exact hs _ hx) σ a w (rep_eval hr) hr.heap hr.evo
  unfold Oper.wp
  rw [h1]
  exact hK v w' h2 h3

theorem qt_index {t : Nat} {x i : Operand} {ty te : TR} {xs : List D} {k : IntKind} {n : Int} {y : D} (ho : o.op = .indexAddr t x i) (ht : tget cx.T t = some ty) (hsl : ty.isSl = true) (hte : tget cx.T ty.elem = some te)
    (hx : opv s x = .d (.lst xs)) (hi : opv s i = .d (.int k n)) (hel : y.el = true) (hw : y.width = te.size) (h0 : 0 ≤ n) (hy : xs[n.toNat]? = some y) : Qt cx h o s (.d (.ptr y)) :=
  qt_of fun r hr σ a w hv _ _ => by
    have h1 := hv x
    have h2 := hv i
    rw [hr x (by simp [ho, Op.operands]), hx] at h1
    rw [hr i (by simp [ho, Op.operands]), hi] at h2
    have h2' := RepD.int_inv h2
    obtain ⟨z, z1, z2⟩ := lst_index (tget_ok cx.tab ht) hsl (tget_ok cx.tab hte) h1 (k := k) h0 hy hel hw
    exact ⟨z, w, by simp [execOp, ho, h2', z1], Below.refl _ _, z2⟩

/-- A boxed value that is only read. -/
theorem qt_box {t : Nat} {x : Operand} {y : D} (ho : o.op = .box t x) (hx : opv s x = .d y) : Qt cx h o s (.d (.ptr y)) :=
  qt_of fun r hr σ a w hv hh he => by
    have h1 := hv x
    rw [hr x (by simp [ho, Op.operands]), hx] at h1
    have hb : Below w.heap.size w (w.alloc (.cells (a.eval x).cells t)) := (Below.refl _ _).alloc (Nat.le_refl _) _
    refine ⟨.pointer (some ⟨w.heap.size, 0, none⟩), w.alloc (.cells (a.eval x).cells t), ?_, hb, ?_⟩
    · simp [execOp, ho, Instr.box, newVar, newRow]
    · refine RepD.ptr w.heap.size 0 (a.eval x) y (a.eval x).cells t (0, 0) ⟨.inr he.size, fun p hp e => ?_⟩ (heap_alloc_new w _) (fun j _ => by rw [Nat.zero_add]) ?_
      · have := (hh.mine p hp _ e).2.2; omega
      · exact RepD.mono h1 fun b k1 k2 => ⟨k1, hb.block b k2⟩

theorem wrap_in {k : IntKind} {n : Int} (h1 : k.min ≤ n) (h2 : n ≤ k.max) : k.wrap n = n := by
  cases k <;> simp only [IntKind.min, IntKind.max, IntKind.wrap, IntKind.signed, IntKind.bits] at * <;> simp at * <;> omega

theorem i64_in {n : Int} (h1 : -9223372036854775808 ≤ n) (h2 : n ≤ 9223372036854775807) : IntKind.i64.wrap n = n := by
  refine wrap_in ?_ ?_ <;> simp [IntKind.min, IntKind.max, IntKind.signed, IntKind.bits] <;> omega

theorem qt_add {t t' : Nat} {x y : Operand} {a b : Int} (ho : o.op = .binOp .add t x y t') (hx : opv s x = .d (.int .i64 a)) (hy : opv s y = .d (.int .i64 b)) (hr : -9223372036854775808 ≤ a + b ∧ a + b ≤ 9223372036854775807) :
    Qt cx h o s (.d (.int .i64 (a + b))) := qt_ev (by rw [ho]; simp only [ev, hx, hy, evBin, sameK]; rw [i64_in hr.1 hr.2])
theorem qt_sub {t t' : Nat} {x y : Operand} {a b : Int} (ho : o.op = .binOp .sub t x y t') (hx : opv s x = .d (.int .i64 a)) (hy : opv s y = .d (.int .i64 b)) (hr : -9223372036854775808 ≤ a - b ∧ a - b ≤ 9223372036854775807) :
    Qt cx h o s (.d (.int .i64 (a - b))) := qt_ev (by rw [ho]; simp only [ev, hx, hy, evBin, sameK]; rw [i64_in hr.1 hr.2])
theorem qt_mul {t t' : Nat} {x y : Operand} {a b : Int} (ho : o.op = .binOp .mul t x y t') (hx : opv s x = .d (.int .i64 a)) (hy : opv s y = .d (.int .i64 b)) (hr : -9223372036854775808 ≤ a * b ∧ a * b ≤ 9223372036854775807) :
    Qt cx h o s (.d (.int .i64 (a * b))) := qt_ev (by rw [ho]; simp only [ev, hx, hy, evBin, sameK]; rw [i64_in hr.1 hr.2])

theorem qt_quo {t t' : Nat} {x y : Operand} {a b : Int} (ho : o.op = .binOp .quo t x y t') (hx : opv s x = .d (.int .i64 a)) (hy : opv s y = .d (.int .i64 b)) (h0 : 0 ≤ a) (hb : 0 < b) (ha : a ≤ 9223372036854775807) :
    Qt cx h o s (.d (.int .i64 (a / b))) :=
  qt_of fun r hr σ c w hv _ _ => by
    have h1 := hv x
    have h2 := hv y
    rw [hr x (by simp [ho, Op.operands]), hx] at h1
    rw [hr y (by simp [ho, Op.operands]), hy] at h2
    have h1' := RepD.int_inv h1
    have h2' := RepD.int_inv h2
    have hd : a.tdiv b = a / b := Int.tdiv_eq_ediv_of_nonneg h0
    have hle : a / b ≤ a := Int.ediv_le_self b h0
    have hge : 0 ≤ a / b := Int.ediv_nonneg h0 (by omega)
    have hne : ¬ b = 0 := by omega
    exact ⟨.int .i64 (a / b), w, by simp [execOp, ho, h1', h2', eqGuard, binOp, Op.intDiv, hne, hd, i64_in (show -9223372036854775808 ≤ a / b by omega) (by omega)], Below.refl _ _, RepD.int _ _⟩

theorem qt_rem {t t' : Nat} {x y : Operand} {a b : Int} (ho : o.op = .binOp .rem t x y t') (hx : opv s x = .d (.int .i64 a)) (hy : opv s y = .d (.int .i64 b)) (h0 : 0 ≤ a) (hb : 0 < b) :
    Qt cx h o s (.d (.int .i64 (a % b))) :=
  qt_of fun r hr σ c w hv _ _ => by
    have h1 := hv x
    have h2 := hv y
    rw [hr x (by simp [ho, Op.operands]), hx] at h1
    rw [hr y (by simp [ho, Op.operands]), hy] at h2
    have h1' := RepD.int_inv h1
    have h2' := RepD.int_inv h2
    have hd : a.tmod b = a % b := Int.tmod_eq_emod_of_nonneg h0
    have hne : ¬ b = 0 := by omega
    exact ⟨.int .i64 (a % b), w, by simp [execOp, ho, h1', h2', eqGuard, binOp, Op.intDiv, hne, hd], Below.refl _ _, RepD.int _ _⟩

theorem qt_concat {t t' : Nat} {x y : Operand} {a b : List UInt8} (ho : o.op = .binOp .add t x y t') (hx : opv s x = .d (.str a)) (hy : opv s y = .d (.str b)) (hl : a.length + b.length ≤ 9223372036854775807) :
    Qt cx h o s (.d (.str (a ++ b))) :=
  qt_of fun r hr σ c w hv _ _ => by
    have h1 := hv x
    have h2 := hv y
    rw [hr x (by simp [ho, Op.operands]), hx] at h1
    rw [hr y (by simp [ho, Op.operands]), hy] at h2
    have h1' := RepD.str_inv h1
    have h2' := RepD.str_inv h2
    refine ⟨.string ⟨(a ++ b).toArray⟩, w, ?_, Below.refl _ _, RepD.str _ _ rfl⟩
    have hn : ¬ ((((⟨a.toArray⟩ : ByteArray).size + (⟨b.toArray⟩ : ByteArray).size : Nat) : Int) > IntKind.i64.max) := by
      rw [size_mk, size_mk]; simp [IntKind.max, IntKind.signed, IntKind.bits]; omega
    have ha : (⟨a.toArray⟩ : ByteArray) ++ ⟨b.toArray⟩ = ⟨(a ++ b).toArray⟩ := by
      apply ByteArray.ext
      rw [ByteArray.data_append]
      simp
    simp only [execOp, ho, h1', h2', eqGuard, binOp, Op.stringOp, hn, if_false, ha, Sem.run_bind]
    simp

theorem qt_strIndex {t : Nat} {x i : Operand} {ty : TR} {l : List UInt8} {k : IntKind} {n : Int} {c : UInt8} (ho : o.op = .index t x i) (ht : tget cx.T t = some ty) (hst : ty.isStr = true)
    (hx : opv s x = .d (.str l)) (hi : opv s i = .d (.int k n)) (h0 : 0 ≤ n) (hc : l[n.toNat]? = some c) : Qt cx h o s (.d (.int .u8 c.toNat)) :=
  qt_of fun r hr σ a w hv _ _ => by
    have h1 := hv x
    have h2 := hv i
    rw [hr x (by simp [ho, Op.operands]), hx] at h1
    rw [hr i (by simp [ho, Op.operands]), hi] at h2
    have h1' := RepD.str_inv h1
    have h2' := RepD.int_inv h2
    obtain ⟨d, _, hd, _, _, _, _, _, hs, _⟩ := tr_facts (tget_ok cx.tab ht)
    have := hs hst
    subst this
    refine ⟨.int .u8 c.toNat, w, ?_, Below.refl _ _, RepD.int _ _⟩
    have hlt : n.toNat < l.length := by
      rcases Nat.lt_or_ge n.toNat l.length with hh | hh
      · exact hh
      · simp [hh] at hc
    have hg : (⟨l.toArray⟩ : ByteArray)[n.toNat]? = some c := by
      rw [getElem?_pos _ _ (by rw [size_mk]; exact hlt)]
      rw [List.getElem?_eq_getElem hlt] at hc
      rw [← Option.some.inj hc]
      rfl
    simp [execOp, ho, h1', h2', Instr.index, asIntOf, run_underlying hd, h0, hg]

end

/-! ### The operations in the form in which a walk takes them -/
section
variable {cx : Cx} {h : Heap} {s : Nat → SV} {dst : Option Nat} {ty : Nat} {pos : String} {af : Array Edge} {gd : Option (Nat × Bool)}

theorem qa_add {t t' : Nat} {x y : Operand} {a b : Int} (hx : opv s x = .d (.int .i64 a)) (hy : opv s y = .d (.int .i64 b)) (hr : -9223372036854775808 ≤ a + b ∧ a + b ≤ 9223372036854775807) :
    Qt cx h ⟨dst, .binOp .add t x y t', ty, pos, af, gd⟩ s (.d (.int .i64 (a + b))) := qt_add rfl hx hy hr
theorem qa_sub {t t' : Nat} {x y : Operand} {a b : Int} (hx : opv s x = .d (.int .i64 a)) (hy : opv s y = .d (.int .i64 b)) (hr : -9223372036854775808 ≤ a - b ∧ a - b ≤ 9223372036854775807) :
    Qt cx h ⟨dst, .binOp .sub t x y t', ty, pos, af, gd⟩ s (.d (.int .i64 (a - b))) := qt_sub rfl hx hy hr
theorem qa_mul {t t' : Nat} {x y : Operand} {a b : Int} (hx : opv s x = .d (.int .i64 a)) (hy : opv s y = .d (.int .i64 b)) (hr : -9223372036854775808 ≤ a * b ∧ a * b ≤ 9223372036854775807) :
    Qt cx h ⟨dst, .binOp .mul t x y t', ty, pos, af, gd⟩ s (.d (.int .i64 (a * b))) := qt_mul rfl hx hy hr
theorem qa_quo {t t' : Nat} {x y : Operand} {a b : Int} (hx : opv s x = .d (.int .i64 a)) (hy : opv s y = .d (.int .i64 b)) (h0 : 0 ≤ a) (hb : 0 < b) (ha : a ≤ 9223372036854775807) :
    Qt cx h ⟨dst, .binOp .quo t x y t', ty, pos, af, gd⟩ s (.d (.int .i64 (a / b))) := qt_quo rfl hx hy h0 hb ha
theorem qa_rem {t t' : Nat} {x y : Operand} {a b : Int} (hx : opv s x = .d (.int .i64 a)) (hy : opv s y = .d (.int .i64 b)) (h0 : 0 ≤ a) (hb : 0 < b) :
    Qt cx h ⟨dst, .binOp .rem t x y t', ty, pos, af, gd⟩ s (.d (.int .i64 (a % b))) := qt_rem rfl hx hy h0 hb
theorem qa_concat {t t' : Nat} {x y : Operand} {a b : List UInt8} (hx : opv s x = .d (.str a)) (hy : opv s y = .d (.str b)) (hl : a.length + b.length ≤ 9223372036854775807) :
    Qt cx h ⟨dst, .binOp .add t x y t', ty, pos, af, gd⟩ s (.d (.str (a ++ b))) := qt_concat rfl hx hy hl
theorem qa_call {f : Operand} {args : Array Operand} {tys : Array TypeId} {g : Nat} {cap xs : List D} {r : D} (hf : opv s f = .d (.fn g cap)) (ha : allD (args.toList.map (opv s)) = some xs) (hac : AC cx.P g (xs ++ cap) r) :
    Qt cx h ⟨dst, .call { callee := .value f, args := args, argTypes := tys }, ty, pos, af, gd⟩ s (.d r) := qt_call rfl hf ha hac
theorem qa_box {t : Nat} {x : Operand} {y : D} (hx : opv s x = .d y) : Qt cx h ⟨dst, .box t x, ty, pos, af, gd⟩ s (.d (.ptr y)) := qt_box rfl hx
theorem qa_index {t : Nat} {x i : Operand} {tr te : TR} {xs : List D} {k : IntKind} {n : Int} {y : D} (hx : opv s x = .d (.lst xs)) (hi : opv s i = .d (.int k n)) (h0 : 0 ≤ n) (hy : xs[n.toNat]? = some y)
    (ht : tget cx.T t = some tr) (hsl : tr.isSl = true) (hte : tget cx.T tr.elem = some te) (hel : y.el = true) (hw : y.width = te.size) :
    Qt cx h ⟨dst, .indexAddr t x i, ty, pos, af, gd⟩ s (.d (.ptr y)) := qt_index rfl ht hsl hte hx hi hel hw h0 hy
theorem qa_strIndex {t : Nat} {x i : Operand} {tr : TR} {l : List UInt8} {k : IntKind} {n : Int} {c : UInt8} (hx : opv s x = .d (.str l)) (hi : opv s i = .d (.int k n)) (h0 : 0 ≤ n) (hc : l[n.toNat]? = some c)
    (ht : tget cx.T t = some tr) (hst : tr.isStr = true) : Qt cx h ⟨dst, .index t x i, ty, pos, af, gd⟩ s (.d (.int .u8 c.toNat)) := qt_strIndex rfl ht hst hx hi h0 hc
theorem qa_ev {op : Op} {sv : SV} (he : ev cx.T h (opv s) op = some sv) : Qt cx h ⟨dst, op, ty, pos, af, gd⟩ s sv := qt_ev he
end

/-! ### The rules in the form in which a walk takes them -/
section
variable {cx : Cx} {ops : Array Oper} {rest : List Oper} {s : Slots} {h : Heap} {Q : Exit → Slots → Heap → Prop} {K : Slots → Prop} {t ty : Nat} {op : Op} {pos : String} {af : Array Edge} {sv : SV}

theorem lq (hd : Nat.blt t cx.nt = true) (hq : Qt cx h ⟨some t, op, ty, pos, af, none⟩ (lk s) sv) (hn : awpL cx ops rest ((t, sv) :: s) h Q) : awpL cx ops (⟨some t, op, ty, pos, af, none⟩ :: rest) s h Q := awpL_q rfl hd hq hn
theorem qq (hq : Qt cx h ⟨some t, op, ty, pos, af, none⟩ (lk s) sv) (hn : awpQL cx ops h K rest ((t, sv) :: s)) : awpQL cx ops h K (⟨some t, op, ty, pos, af, none⟩ :: rest) s := awpQL_q rfl hq hn
theorem lrun {g : Nat × Bool} (hw : wantedA ops ⟨some t, op, ty, pos, af, some g⟩ (lk s) = some true) (hd : Nat.blt t cx.nt = true) (hq : Qt cx h ⟨some t, op, ty, pos, af, some g⟩ (lk s) sv) (hn : awpL cx ops rest ((t, sv) :: s) h Q) :
    awpL cx ops (⟨some t, op, ty, pos, af, some g⟩ :: rest) s h Q := awpL_run hw hd hq hn
theorem qrun {g : Nat × Bool} (hw : wantedA ops ⟨some t, op, ty, pos, af, some g⟩ (lk s) = some true) (hq : Qt cx h ⟨some t, op, ty, pos, af, some g⟩ (lk s) sv) (hn : awpQL cx ops h K rest ((t, sv) :: s)) :
    awpQL cx ops h K (⟨some t, op, ty, pos, af, some g⟩ :: rest) s := awpQL_run hw hq hn
theorem lskip {g : Nat × Bool} (hw : wantedA ops ⟨some t, op, ty, pos, af, some g⟩ (lk s) = some false) (hd : Nat.blt t cx.nt = true) (hn : awpL cx ops rest ((t, .und) :: s) h Q) :
    awpL cx ops (⟨some t, op, ty, pos, af, some g⟩ :: rest) s h Q := awpL_skip hw hd hn
theorem qskip {g : Nat × Bool} (hw : wantedA ops ⟨some t, op, ty, pos, af, some g⟩ (lk s) = some false) (hn : awpQL cx ops h K rest ((t, .und) :: s)) :
    awpQL cx ops h K (⟨some t, op, ty, pos, af, some g⟩ :: rest) s := awpQL_skip hw hn

theorem condT {c : Operand} {x y : Code} {b : Bool} (hc : opvB (lk s) c = .d (.bool b)) (hb : b = true) (hx : awp cx x s h Q) : awp cx (.cond c x y) s h Q :=
  awp_cond b hc (fun _ => hx) (fun e => by rw [hb] at e; cases e)
theorem condF {c : Operand} {x y : Code} {b : Bool} (hc : opvB (lk s) c = .d (.bool b)) (hb : b = false) (hy : awp cx y s h Q) : awp cx (.cond c x y) s h Q :=
  awp_cond b hc (fun e => by rw [hb] at e; cases e) (fun _ => hy)

theorem ret_ok {e : Exit} {l : List ResultVar} {r r' : D} (he : e = .normal ∨ e = .ret) (h1 : resOf s h l = some r') (h2 : r' = r) : (e = .normal ∨ e = .ret) ∧ resOf s h l = some r := ⟨he, by rw [h1, h2]⟩

end
end Go.Proofs.YtampglcgipefnaaGreat
