/- More operations of the logic over data: elements, boxed values, arithmetic within bounds, strings, slices of slices. No condition. -/
import Derived.Test.YtckpadnjldebaaaGreatFwC
namespace Go.Proofs.YtckpadnjldebaaaGreat
open Go
open Go.RowKit (Below)
set_option linter.unusedVariables false
set_option linter.unusedSimpArgs false
def D.width : D -> Nat
  | .agg xs => xs.length
  | _ => 1
theorem RepD.width {ok : Nat -> Prop} {w : World} {v : Value} {x : D} (h : RepD ok w v x) (hx : x.one = true \/ ∃ xs, x = .agg xs) : v.cells.size = x.width := by
  rcases hx with hx | ⟨xs, rfl⟩
  . rw [h.oneCell hx]
    cases x <;> first | rfl | (simp [D.one] at hx)
  . cases h with
    | agg cs _ h1 _ _ => exact h1
def D.el : D -> Bool
  | .tup _ => false
  | _ => true
theorem D.el_or {x : D} (h : x.el = true) : x.one = true \/ ∃ xs, x = .agg xs := by
  cases x <;> first | exact .inl rfl | exact .inr ⟨_, rfl⟩ | (simp [D.el] at h)
theorem lst_index {P : Program} {ok : Nat -> Prop} {w : World} {t : Nat} {ty te : TR} (ht : trOk P t ty = true) (hsl : ty.isSl = true) (hte : trOk P ty.elem te = true) {v : Value} {xs : List D} (hv : RepD ok w v (.lst xs))
    {k : IntKind} {n : Int} (h0 : 0 <= n) {y : D} (hy : xs[n.toNat]? = some y) (hel : y.el = true) (hw : y.width = te.size) :
    ∃ z, (Instr.indexAt t v (.int k n)).run P w = .ok z w /\ RepD ok w z (.ptr y) := by
  obtain ⟨d, i, hd, hi, -, -, -, hs, -⟩ := tr_facts ht
  obtain ⟨d', i', hd', hi', -, h2', -⟩ := tr_facts hte
  have := hs hsl
  subst this
  have hlt : n.toNat < xs.length := by
    rcases Nat.lt_or_ge n.toNat xs.length with hh | hh
    . exact hh
    . simp [hh] at hy
  cases hv with
  | nil0 => simp at hlt
  | emp a cap => simp at hlt
  | lst b off cap m cells e fr xs vs sz k1 k2 k3 k4 k5 k6 k7 k8 =>
    have hvlt : n.toNat < vs.length := by omega
    have hget : vs[n.toNat]? = some vs[n.toNat] := List.getElem?_eq_getElem hvlt
    have hr := k7 _ _ _ hget hy
    obtain ⟨c1, c2⟩ := k8 _ _ hget
    have hsz : sz = te.size := by rw [<- c1, hr.width (D.el_or hel), hw]
    subst hsz
    refine ⟨.pointer (some ⟨b, off + n.toNat * te.size, none⟩), ?_, RepD.ptr b _ _ y cells e fr k1 k2 (fun j hj => c2 j (by omega)) hr⟩
    have hnm : n < (m : Int) := by omega
    simp only [Instr.indexAt, asIntOf, Sem.run_bind, Sem.run_pure, Result.andThen_ok, run_underlying hd]
    rw [if_pos ⟨h0, hnm⟩]
    simp [sizeOf, typeInfo, hi', h2', add_block]
section
variable {cx : Cx} {h : Heap} {o : Oper} {s : Nat -> SV}
theorem qt_of {sv : SV} (hq : ∀ (r : Operand -> SV), (∀ x ∈ o.op.operands, r x = opv s x) -> ∀ (σ : Nat -> Loc) (a : Act) (w : World), (∀ x, RepSV σ h (okf cx σ h) w (a.eval x) (r x)) -> HeapOk cx σ h w -> Evo cx w ->
    ∃ v w', (execOp a.eval o).run cx.P w = .ok (.value v) w' /\ Below w.heap.size w w' /\ RepSV σ h (okf cx σ h) w' v sv) : Qt cx h o s sv := by
  intro s₁ hs σ a w hr K Q hK
  obtain ⟨v, w', h1, h2, h3⟩ := hq (opv s₁) (fun x hx => by cases x <;> first | rfl | exact hs _ hx) σ a w (rep_eval hr) hr.heap hr.evo
  unfold Oper.wp
  rw [h1]
  exact hK v w' h2 h3
theorem qt_index {t : Nat} {x i : Operand} {ty te : TR} {xs : List D} {k : IntKind} {n : Int} {y : D} (ho : o.op = .indexAddr t x i) (ht : tget cx.T t = some ty) (hsl : ty.isSl = true) (hte : tget cx.T ty.elem = some te)
    (hx : opv s x = .d (.lst xs)) (hi : opv s i = .d (.int k n)) (hel : y.el = true) (hw : y.width = te.size) (h0 : 0 <= n) (hy : xs[n.toNat]? = some y) : Qt cx h o s (.d (.ptr y)) :=
  qt_of fun r hr σ a w hv _ _ => by
    have h1 := hv x
    have h2 := hv i
    rw [hr x (by simp [ho, Op.operands]), hx] at h1
    rw [hr i (by simp [ho, Op.operands]), hi] at h2
    have h2' := RepD.int_inv h2
    obtain ⟨z, z1, z2⟩ := lst_index (tget_ok cx.tab ht) hsl (tget_ok cx.tab hte) h1 (k := k) h0 hy hel hw
    exact ⟨z, w, by simp [execOp, ho, h2', z1], Below.refl _ _, z2⟩
theorem qt_box {t : Nat} {x : Operand} {y : D} (ho : o.op = .box t x) (hx : opv s x = .d y) : Qt cx h o s (.d (.ptr y)) :=
  qt_of fun r hr σ a w hv hh he => by
    have h1 := hv x
    rw [hr x (by simp [ho, Op.operands]), hx] at h1
    have hb : Below w.heap.size w (w.alloc (.cells (a.eval x).cells t)) := (Below.refl _ _).alloc (Nat.le_refl _) _
    refine ⟨.pointer (some ⟨w.heap.size, 0, none⟩), w.alloc (.cells (a.eval x).cells t), ?_, hb, ?_⟩
    . simp [execOp, ho, Instr.box, newVar, newRow]
    . refine RepD.ptr w.heap.size 0 (a.eval x) y (a.eval x).cells t (0, 0) ⟨.inr he.size, fun p hp e => ?_⟩ (heap_alloc_new w _) (fun j _ => by rw [Nat.zero_add]) ?_
      . have := (hh.mine p hp _ e).2.2; omega
      . exact RepD.mono h1 fun b k1 k2 => ⟨k1, hb.block b k2⟩
theorem wrap_in {k : IntKind} {n : Int} (h1 : k.min <= n) (h2 : n <= k.max) : k.wrap n = n := by
  cases k <;> simp only [IntKind.min, IntKind.max, IntKind.wrap, IntKind.signed, IntKind.bits] at * <;> simp at * <;> omega
theorem i64_in {n : Int} (h1 : -9223372036854775808 <= n) (h2 : n <= 9223372036854775807) : IntKind.i64.wrap n = n := by
  refine wrap_in ?_ ?_ <;> simp [IntKind.min, IntKind.max, IntKind.signed, IntKind.bits] <;> omega
theorem qt_add {t t' : Nat} {x y : Operand} {a b : Int} (ho : o.op = .binOp .add t x y t') (hx : opv s x = .d (.int .i64 a)) (hy : opv s y = .d (.int .i64 b)) (hr : -9223372036854775808 <= a + b /\ a + b <= 9223372036854775807) :
    Qt cx h o s (.d (.int .i64 (a + b))) := qt_ev (by rw [ho]; simp only [ev, hx, hy, evBin, sameK]; rw [i64_in hr.1 hr.2])
theorem qt_sub {t t' : Nat} {x y : Operand} {a b : Int} (ho : o.op = .binOp .sub t x y t') (hx : opv s x = .d (.int .i64 a)) (hy : opv s y = .d (.int .i64 b)) (hr : -9223372036854775808 <= a - b /\ a - b <= 9223372036854775807) :
    Qt cx h o s (.d (.int .i64 (a - b))) := qt_ev (by rw [ho]; simp only [ev, hx, hy, evBin, sameK]; rw [i64_in hr.1 hr.2])
theorem qt_mul {t t' : Nat} {x y : Operand} {a b : Int} (ho : o.op = .binOp .mul t x y t') (hx : opv s x = .d (.int .i64 a)) (hy : opv s y = .d (.int .i64 b)) (hr : -9223372036854775808 <= a * b /\ a * b <= 9223372036854775807) :
    Qt cx h o s (.d (.int .i64 (a * b))) := qt_ev (by rw [ho]; simp only [ev, hx, hy, evBin, sameK]; rw [i64_in hr.1 hr.2])
theorem qt_quo {t t' : Nat} {x y : Operand} {a b : Int} (ho : o.op = .binOp .quo t x y t') (hx : opv s x = .d (.int .i64 a)) (hy : opv s y = .d (.int .i64 b)) (h0 : 0 <= a) (hb : 0 < b) (ha : a <= 9223372036854775807) :
    Qt cx h o s (.d (.int .i64 (a / b))) :=
  qt_of fun r hr σ c w hv _ _ => by
    have h1 := hv x
    have h2 := hv y
    rw [hr x (by simp [ho, Op.operands]), hx] at h1
    rw [hr y (by simp [ho, Op.operands]), hy] at h2
    have h1' := RepD.int_inv h1
    have h2' := RepD.int_inv h2
    have hd : a.tdiv b = a / b := Int.tdiv_eq_ediv_of_nonneg h0
    have hle : a / b <= a := Int.ediv_le_self b h0
    have hge : 0 <= a / b := Int.ediv_nonneg h0 (by omega)
    have hne : ¬ b = 0 := by omega
    exact ⟨.int .i64 (a / b), w, by simp [execOp, ho, h1', h2', eqGuard, binOp, Op.intDiv, hne, hd, i64_in (show -9223372036854775808 <= a / b by omega) (by omega)], Below.refl _ _, RepD.int _ _⟩
theorem qt_rem {t t' : Nat} {x y : Operand} {a b : Int} (ho : o.op = .binOp .rem t x y t') (hx : opv s x = .d (.int .i64 a)) (hy : opv s y = .d (.int .i64 b)) (h0 : 0 <= a) (hb : 0 < b) :
    Qt cx h o s (.d (.int .i64 (a % b))) :=
  qt_of fun r hr σ c w hv _ _ => by
    have h1 := hv x
    have h2 := hv y
    rw [hr x (by simp [ho, Op.operands]), hx] at h1
    rw [hr y (by simp [ho, Op.operands]), hy] at h2
    have h1' := RepD.int_inv h1
    have h2' := RepD.int_inv h2
    have hd : a.tmod b = a % b := Int.tmod_eq_emod_of_nonneg h0
    have hne : ¬ b = 0 := by omega
    exact ⟨.int .i64 (a % b), w, by simp [execOp, ho, h1', h2', eqGuard, binOp, Op.intDiv, hne, hd], Below.refl _ _, RepD.int _ _⟩
theorem qt_concat {t t' : Nat} {x y : Operand} {a b : List UInt8} (ho : o.op = .binOp .add t x y t') (hx : opv s x = .d (.str a)) (hy : opv s y = .d (.str b)) (hl : a.length + b.length <= 9223372036854775807) :
    Qt cx h o s (.d (.str (a ++ b))) :=
  qt_of fun r hr σ c w hv _ _ => by
    have h1 := hv x
    have h2 := hv y
    rw [hr x (by simp [ho, Op.operands]), hx] at h1
    rw [hr y (by simp [ho, Op.operands]), hy] at h2
    have h1' := RepD.str_inv h1
    have h2' := RepD.str_inv h2
    refine ⟨.string ⟨(a ++ b).toArray⟩, w, ?_, Below.refl _ _, RepD.str _ _ rfl⟩
    have hn : ¬ ((((⟨a.toArray⟩ : ByteArray).size + (⟨b.toArray⟩ : ByteArray).size : Nat) : Int) > IntKind.i64.max) := by
      rw [size_mk, size_mk]; simp [IntKind.max, IntKind.signed, IntKind.bits]; omega
    have ha : (⟨a.toArray⟩ : ByteArray) ++ ⟨b.toArray⟩ = ⟨(a ++ b).toArray⟩ := by
      apply ByteArray.ext
      rw [ByteArray.data_append]
      simp
    simp only [execOp, ho, h1', h2', eqGuard, binOp, Op.stringOp, hn, if_false, ha, Sem.run_bind]
    simp
theorem qt_strIndex {t : Nat} {x i : Operand} {ty : TR} {l : List UInt8} {k : IntKind} {n : Int} {c : UInt8} (ho : o.op = .index t x i) (ht : tget cx.T t = some ty) (hst : ty.isStr = true)
    (hx : opv s x = .d (.str l)) (hi : opv s i = .d (.int k n)) (h0 : 0 <= n) (hc : l[n.toNat]? = some c) : Qt cx h o s (.d (.int .u8 c.toNat)) :=
  qt_of fun r hr σ a w hv _ _ => by
    have h1 := hv x
    have h2 := hv i
    rw [hr x (by simp [ho, Op.operands]), hx] at h1
    rw [hr i (by simp [ho, Op.operands]), hi] at h2
    have h1' := RepD.str_inv h1
    have h2' := RepD.int_inv h2
    obtain ⟨d, _, hd, _, _, _, _, _, hs, _⟩ := tr_facts (tget_ok cx.tab ht)
    have := hs hst
    subst this
    refine ⟨.int .u8 c.toNat, w, ?_, Below.refl _ _, RepD.int _ _⟩
    have hlt : n.toNat < l.length := by
      rcases Nat.lt_or_ge n.toNat l.length with hh | hh
      . exact hh
      . simp [hh] at hc
    have hg : (⟨l.toArray⟩ : ByteArray)[n.toNat]? = some c := by
      rw [getElem?_pos _ _ (by rw [size_mk]; exact hlt)]
      rw [List.getElem?_eq_getElem hlt] at hc
      rw [<- Option.some.inj hc]
      rfl
    simp [execOp, ho, h1', h2', Instr.index, asIntOf, run_underlying hd, h0, hg]
end
section
variable {cx : Cx} {h : Heap} {s : Nat -> SV} {dst : Option Nat} {ty : Nat} {pos : String} {af : Array Edge} {gd : Option (Nat × Bool)}
theorem qa_add {t t' : Nat} {x y : Operand} {a b : Int} (hx : opv s x = .d (.int .i64 a)) (hy : opv s y = .d (.int .i64 b)) (hr : -9223372036854775808 <= a + b /\ a + b <= 9223372036854775807) :
    Qt cx h ⟨dst, .binOp .add t x y t', ty, pos, af, gd⟩ s (.d (.int .i64 (a + b))) := qt_add rfl hx hy hr
theorem qa_sub {t t' : Nat} {x y : Operand} {a b : Int} (hx : opv s x = .d (.int .i64 a)) (hy : opv s y = .d (.int .i64 b)) (hr : -9223372036854775808 <= a - b /\ a - b <= 9223372036854775807) :
    Qt cx h ⟨dst, .binOp .sub t x y t', ty, pos, af, gd⟩ s (.d (.int .i64 (a - b))) := qt_sub rfl hx hy hr
theorem qa_mul {t t' : Nat} {x y : Operand} {a b : Int} (hx : opv s x = .d (.int .i64 a)) (hy : opv s y = .d (.int .i64 b)) (hr : -9223372036854775808 <= a * b /\ a * b <= 9223372036854775807) :
    Qt cx h ⟨dst, .binOp .mul t x y t', ty, pos, af, gd⟩ s (.d (.int .i64 (a * b))) := qt_mul rfl hx hy hr
theorem qa_quo {t t' : Nat} {x y : Operand} {a b : Int} (hx : opv s x = .d (.int .i64 a)) (hy : opv s y = .d (.int .i64 b)) (h0 : 0 <= a) (hb : 0 < b) (ha : a <= 9223372036854775807) :
    Qt cx h ⟨dst, .binOp .quo t x y t', ty, pos, af, gd⟩ s (.d (.int .i64 (a / b))) := qt_quo rfl hx hy h0 hb ha
theorem qa_rem {t t' : Nat} {x y : Operand} {a b : Int} (hx : opv s x = .d (.int .i64 a)) (hy : opv s y = .d (.int .i64 b)) (h0 : 0 <= a) (hb : 0 < b) :
    Qt cx h ⟨dst, .binOp .rem t x y t', ty, pos, af, gd⟩ s (.d (.int .i64 (a % b))) := qt_rem rfl hx hy h0 hb
theorem qa_concat {t t' : Nat} {x y : Operand} {a b : List UInt8} (hx : opv s x = .d (.str a)) (hy : opv s y = .d (.str b)) (hl : a.length + b.length <= 9223372036854775807) :
    Qt cx h ⟨dst, .binOp .add t x y t', ty, pos, af, gd⟩ s (.d (.str (a ++ b))) := qt_concat rfl hx hy hl
theorem qa_call {f : Operand} {args : Array Operand} {tys : Array TypeId} {g : Nat} {cap xs : List D} {r : D} (hf : opv s f = .d (.fn g cap)) (ha : allD (args.toList.map (opv s)) = some xs) (hac : AC cx.P g (xs ++ cap) r) :
    Qt cx h ⟨dst, .call { callee := .value f, args := args, argTypes := tys }, ty, pos, af, gd⟩ s (.d r) := qt_call rfl hf ha hac
theorem qa_box {t : Nat} {x : Operand} {y : D} (hx : opv s x = .d y) : Qt cx h ⟨dst, .box t x, ty, pos, af, gd⟩ s (.d (.ptr y)) := qt_box rfl hx
theorem qa_index {t : Nat} {x i : Operand} {tr te : TR} {xs : List D} {k : IntKind} {n : Int} {y : D} (hx : opv s x = .d (.lst xs)) (hi : opv s i = .d (.int k n)) (h0 : 0 <= n) (hy : xs[n.toNat]? = some y)
    (ht : tget cx.T t = some tr) (hsl : tr.isSl = true) (hte : tget cx.T tr.elem = some te) (hel : y.el = true) (hw : y.width = te.size) :
    Qt cx h ⟨dst, .indexAddr t x i, ty, pos, af, gd⟩ s (.d (.ptr y)) := qt_index rfl ht hsl hte hx hi hel hw h0 hy
theorem qa_strIndex {t : Nat} {x i : Operand} {tr : TR} {l : List UInt8} {k : IntKind} {n : Int} {c : UInt8} (hx : opv s x = .d (.str l)) (hi : opv s i = .d (.int k n)) (h0 : 0 <= n) (hc : l[n.toNat]? = some c)
    (ht : tget cx.T t = some tr) (hst : tr.isStr = true) : Qt cx h ⟨dst, .index t x i, ty, pos, af, gd⟩ s (.d (.int .u8 c.toNat)) := qt_strIndex rfl ht hst hx hi h0 hc
theorem qa_ev {op : Op} {sv : SV} (he : ev cx.T h (opv s) op = some sv) : Qt cx h ⟨dst, op, ty, pos, af, gd⟩ s sv := qt_ev he
end
section
variable {cx : Cx} {ops : Array Oper} {rest : List Oper} {s : Slots} {h : Heap} {Q : Exit -> Slots -> Heap -> Prop} {K : Slots -> Prop} {t ty : Nat} {op : Op} {pos : String} {af : Array Edge} {sv : SV}
theorem lq (hd : Nat.blt t cx.nt = true) (hq : Qt cx h ⟨some t, op, ty, pos, af, none⟩ (lk s) sv) (hn : awpL cx ops rest ((t, sv) :: s) h Q) : awpL cx ops (⟨some t, op, ty, pos, af, none⟩ :: rest) s h Q := awpL_q rfl hd hq hn
theorem qq (hq : Qt cx h ⟨some t, op, ty, pos, af, none⟩ (lk s) sv) (hn : awpQL cx ops h K rest ((t, sv) :: s)) : awpQL cx ops h K (⟨some t, op, ty, pos, af, none⟩ :: rest) s := awpQL_q rfl hq hn
theorem lrun {g : Nat × Bool} (hw : wantedA ops ⟨some t, op, ty, pos, af, some g⟩ (lk s) = some true) (hd : Nat.blt t cx.nt = true) (hq : Qt cx h ⟨some t, op, ty, pos, af, some g⟩ (lk s) sv) (hn : awpL cx ops rest ((t, sv) :: s) h Q) :
    awpL cx ops (⟨some t, op, ty, pos, af, some g⟩ :: rest) s h Q := awpL_run hw hd hq hn
theorem qrun {g : Nat × Bool} (hw : wantedA ops ⟨some t, op, ty, pos, af, some g⟩ (lk s) = some true) (hq : Qt cx h ⟨some t, op, ty, pos, af, some g⟩ (lk s) sv) (hn : awpQL cx ops h K rest ((t, sv) :: s)) :
    awpQL cx ops h K (⟨some t, op, ty, pos, af, some g⟩ :: rest) s := awpQL_run hw hq hn
theorem lskip {g : Nat × Bool} (hw : wantedA ops ⟨some t, op, ty, pos, af, some g⟩ (lk s) = some false) (hd : Nat.blt t cx.nt = true) (hn : awpL cx ops rest ((t, .und) :: s) h Q) :
    awpL cx ops (⟨some t, op, ty, pos, af, some g⟩ :: rest) s h Q := awpL_skip hw hd hn
theorem qskip {g : Nat × Bool} (hw : wantedA ops ⟨some t, op, ty, pos, af, some g⟩ (lk s) = some false) (hn : awpQL cx ops h K rest ((t, .und) :: s)) :
    awpQL cx ops h K (⟨some t, op, ty, pos, af, some g⟩ :: rest) s := awpQL_skip hw hn
theorem condT {c : Operand} {x y : Code} {b : Bool} (hc : opvB (lk s) c = .d (.bool b)) (hb : b = true) (hx : awp cx x s h Q) : awp cx (.cond c x y) s h Q :=
  awp_cond b hc (fun _ => hx) (fun e => by rw [hb] at e; cases e)
theorem condF {c : Operand} {x y : Code} {b : Bool} (hc : opvB (lk s) c = .d (.bool b)) (hb : b = false) (hy : awp cx y s h Q) : awp cx (.cond c x y) s h Q :=
  awp_cond b hc (fun e => by rw [hb] at e; cases e) (fun _ => hy)
theorem ret_ok {e : Exit} {l : List ResultVar} {r r' : D} (he : e = .normal \/ e = .ret) (h1 : resOf s h l = some r') (h2 : r' = r) : (e = .normal \/ e = .ret) /\ resOf s h l = some r := ⟨he, by rw [h1, h2]⟩
end
end Go.Proofs.YtckpadnjldebaaaGreat
namespace Go.Proofs.YtckpadnjldebaaaGreat
open Go
open Go.RowKit (Below)
set_option linter.unusedVariables false
set_option linter.unusedSimpArgs false
def memB (id : Nat) : List Nat -> Bool
  | [] => false
  | k :: K => match Nat.beq id k with
    | true => true
    | false => memB id K
theorem memB_one {i j : Nat} : memB i [j] = true ↔ i = j := by
  unfold memB
  constructor
  . intro h
    split at h
    . rename_i e; exact Nat.eq_of_beq_eq_true e
    . simp [memB] at h
  . rintro rfl
    simp
theorem memB_oneF {i j : Nat} : memB i [j] = false ↔ i ≠ j := by
  rw [<- Bool.not_eq_true, memB_one]
theorem memB_iff {i : Nat} : ∀ {K : List Nat}, memB i K = true ↔ i ∈ K
  | [] => by simp [memB]
  | k :: K => by
    unfold memB
    rw [List.mem_cons, <- @memB_iff i K]
    split
    . rename_i e; simp [Nat.eq_of_beq_eq_true e]
    . rename_i e; simp [Nat.ne_of_beq_eq_false e]
mutual
def SV.kill (K : List Nat) : SV -> SV
  | .ref i o => match memB i K with
    | true => .junk
    | false => .ref i o
  | .own i => match memB i K with
    | true => .junk
    | false => .own i
  | .elt i o => match memB i K with
    | true => .junk
    | false => .elt i o
  | .sub i o => match memB i K with
    | true => .junk
    | false => .sub i o
  | .cel i r o => match memB i K with
    | true => .junk
    | false => .cel i r o
  | .agg l => .agg (SV.kills K l)
  | .tup l => .tup (SV.kills K l)
  | .fn f l => .fn f (SV.kills K l)
  | .junk => .junk
  | .und => .und
  | .d x => .d x
def SV.kills (K : List Nat) : List SV -> List SV
  | [] => []
  | x :: l => SV.kill K x :: SV.kills K l
end
def holeMap (f : SV -> SV) : Option (Nat × SV) -> Option (Nat × SV)
  | some p => some (p.1, f p.2)
  | none => none
theorem hat_map {f : SV -> SV} (h : Option (Nat × SV)) : hat (holeMap f h) = hat h := by cases h <;> rfl
def Chunk.mapc (f : SV -> SV) : Chunk -> Chunk
  | .box cells => .box (cells.map f)
  | .arr e sz xs => .arr e sz xs
  | .rows e e' sz xss hole => .rows e e' sz xss (holeMap f hole)
  | .map kvs => .map kvs
def mapS (f : SV -> SV) (s : Slots) : Slots := s.map fun p => (p.1, f p.2)
def keepH (f : SV -> SV) (K : List Nat) : Heap -> Heap
  | [] => []
  | p :: h => match memB p.1 K with
    | true => keepH f K h
    | false => (p.1, p.2.mapc f) :: keepH f K h
def killS (id : Nat) (s : Slots) : Slots := mapS (SV.kill [id]) s
def killH (id : Nat) (h : Heap) : Heap := keepH (SV.kill [id]) [id] h
theorem lk_mapS {f : SV -> SV} (hf : f .junk = .junk) (s : Slots) (t : Nat) : lk (mapS f s) t = f (lk s t) := by
  induction s with
  | nil => exact hf.symm
  | cons p s ih =>
    simp only [mapS, List.map_cons, lk] at ih ⊢
    split
    . rfl
    . exact ih
theorem blk_mapc {l : Loc} {c : Chunk} {f : SV -> SV} : blk l (c.mapc f) = blk l c := by
  cases c <;> first | rfl | simp [Chunk.mapc, blk, hat_map]
theorem get_keepH {f : SV -> SV} {K : List Nat} {h : Heap} {j : Nat} (hj : memB j K = false) : (keepH f K h).get j = (h.get j).map (Chunk.mapc f) := by
  induction h with
  | nil => rfl
  | cons p h ih =>
    simp only [keepH]
    split
    . rename_i e
      simp only [Heap.get]
      rw [if_neg (fun e' => by rw [e', hj] at e; cases e)]
      exact ih
    . simp only [Heap.get]
      split
      . rfl
      . exact ih
theorem mem_keepH {f : SV -> SV} {K : List Nat} {h : Heap} {p : Nat × Chunk} (hp : p ∈ keepH f K h) : memB p.1 K = false /\ ∃ c, (p.1, c) ∈ h /\ p.2 = c.mapc f := by
  induction h with
  | nil => cases hp
  | cons q h ih =>
    simp only [keepH] at hp
    split at hp
    . obtain ⟨h1, c, h2, h3⟩ := ih hp
      exact ⟨h1, c, List.mem_cons_of_mem _ h2, h3⟩
    . rename_i e
      rcases List.mem_cons.1 hp with rfl | hp
      . exact ⟨e, q.2, List.mem_cons_self .., rfl⟩
      . obtain ⟨h1, c, h2, h3⟩ := ih hp
        exact ⟨h1, c, List.mem_cons_of_mem _ h2, h3⟩
theorem nodup_keepH {f : SV -> SV} {K : List Nat} {h : Heap} (hn : (h.map (·.1)).Nodup) : ((keepH f K h).map (·.1)).Nodup := by
  induction h with
  | nil => exact hn
  | cons p h ih =>
    simp only [List.map_cons, List.nodup_cons] at hn
    simp only [keepH]
    split
    . exact ih hn.2
    . simp only [List.map_cons, List.nodup_cons]
      refine ⟨fun hm => hn.1 ?_, ih hn.2⟩
      obtain ⟨q, hq, he⟩ := List.mem_map.1 hm
      obtain ⟨_, c, hc, _⟩ := mem_keepH hq
      exact List.mem_map.2 ⟨_, hc, he⟩
theorem get_append {N h : Heap} {j : Nat} (hj : ∀ p ∈ N, p.1 ≠ j) : (N ++ h : Heap).get j = h.get j := by
  induction N with
  | nil => rfl
  | cons p N ih =>
    simp only [List.cons_append, Heap.get]
    rw [if_neg (hj p (List.mem_cons_self ..))]
    exact ih fun q hq => hj q (List.mem_cons_of_mem _ hq)
def Chunk.sim : Chunk -> Chunk -> Prop
  | .box _, .box _ => True
  | .arr _ sz xs, .arr _ sz' ys => sz = sz' /\ xs.length = ys.length
  | .rows _ _ _ xss _, .rows _ _ _ yss _ => xss.map List.length = yss.map List.length
  | .map _, .map _ => True
  | _, _ => False
def simO : Option Chunk -> Option Chunk -> Prop
  | none, none => True
  | some c, some c' => c.sim c'
  | _, _ => False
theorem sim_mapc {f : SV -> SV} (c : Chunk) : c.sim (c.mapc f) := by cases c <;> simp [Chunk.sim, Chunk.mapc]
theorem sim_refl (c : Chunk) : c.sim c := by cases c <;> simp [Chunk.sim]
theorem len_sim {xss yss : List (List D)} (h : xss.map List.length = yss.map List.length) : xss.length = yss.length /\ ∀ (i : Nat) xs, xss[i]? = some xs -> ∃ ys, yss[i]? = some ys /\ ys.length = xs.length := by
  refine ⟨by simpa using congrArg List.length h, fun i xs hx => ?_⟩
  have := congrArg (·[i]?) h
  simp only [List.getElem?_map, hx, Option.map_some] at this
  cases hy : yss[i]? with
  | none => rw [hy] at this; cases this
  | some ys => rw [hy] at this; exact ⟨ys, rfl, by simpa using this.symm⟩
mutual
theorem RepSV.kill {σ σ' : Nat -> Loc} {h h' : Heap} {ok ok' : Nat -> Prop} {w w' : World} {K : List Nat}
    (hk : ∀ b, ok b -> b < w.heap.size -> ok' b /\ w'.heap[b]? = w.heap[b]?) (hσ : ∀ j, memB j K = false -> σ' j = σ j) (hg : ∀ j, memB j K = false -> simO (h.get j) (h'.get j)) :
    ∀ {x : SV} {v : Value}, RepSV σ h ok w v x -> RepSV σ' h' ok' w' v (x.kill K)
  | .junk, _, _ => by unfold SV.kill RepSV; trivial
  | .und, _, hr => hr
  | .d x, _, hr => RepD.mono hr hk
  | .ref i off, v, hr => by
    unfold SV.kill
    split
    . unfold RepSV; trivial
    . rename_i e
      simp only [RepSV, hσ i e] at hr ⊢
      exact hr
  | .own i, v, hr => by
    unfold SV.kill
    split
    . unfold RepSV; trivial
    . rename_i e
      have hs := hg i e
      simp only [RepSV, hσ i e] at hr ⊢
      cases h1 : h.get i <;> cases h2 : h'.get i <;> simp only [h1, h2, simO] at hr hs ⊢
      rename_i c c'
      cases c <;> cases c' <;> simp only [Chunk.sim] at hr hs ⊢
      . rw [<- hs.2]; exact hr
      . rw [<- (len_sim hs).1]; exact hr
      . exact hr
  | .elt i n, v, hr => by
    unfold SV.kill
    split
    . unfold RepSV; trivial
    . rename_i e
      have hs := hg i e
      simp only [RepSV, hσ i e] at hr ⊢
      cases h1 : h.get i <;> cases h2 : h'.get i <;> simp only [h1, h2, simO] at hr hs ⊢
      rename_i c c'
      cases c <;> cases c' <;> simp only [Chunk.sim] at hr hs ⊢
      . rw [<- hs.1]; exact hr
      . exact hr
  | .sub i n, v, hr => by
    unfold SV.kill
    split
    . unfold RepSV; trivial
    . rename_i e
      have hs := hg i e
      simp only [RepSV, hσ i e] at hr ⊢
      cases h1 : h.get i <;> cases h2 : h'.get i <;> simp only [h1, h2, simO] at hr hs ⊢
      rename_i c c'
      cases c <;> cases c' <;> simp only [Chunk.sim] at hr hs ⊢
      . rw [<- hs.1, <- hs.2]; exact hr
      obtain ⟨q, xs, h3, h4, h5⟩ := hr
      obtain ⟨ys, h6, h7⟩ := (len_sim hs).2 _ _ h4
      exact ⟨q, ys, h3, h6, by rw [h7]; exact h5⟩
  | .cel i r o, v, hr => by
    unfold SV.kill
    split
    . unfold RepSV; trivial
    . rename_i e
      simp only [RepSV, hσ i e] at hr ⊢
      exact hr
  | .agg l, v, hr => by
    unfold SV.kill
    simp only [RepSV] at hr ⊢
    obtain ⟨cs, e, hl⟩ := hr
    exact ⟨cs, e, RepSVs.kill hk hσ hg hl⟩
  | .tup l, v, hr => by
    unfold SV.kill
    simp only [RepSV] at hr ⊢
    obtain ⟨cs, e, hl⟩ := hr
    exact ⟨cs, e, RepSVs.kill hk hσ hg hl⟩
  | .fn f l, v, hr => by
    unfold SV.kill
    simp only [RepSV] at hr ⊢
    obtain ⟨cs, e, hl⟩ := hr
    exact ⟨cs, e, RepSVs.kill hk hσ hg hl⟩
theorem RepSVs.kill {σ σ' : Nat -> Loc} {h h' : Heap} {ok ok' : Nat -> Prop} {w w' : World} {K : List Nat}
    (hk : ∀ b, ok b -> b < w.heap.size -> ok' b /\ w'.heap[b]? = w.heap[b]?) (hσ : ∀ j, memB j K = false -> σ' j = σ j) (hg : ∀ j, memB j K = false -> simO (h.get j) (h'.get j)) :
    ∀ {l : List SV} {one : Bool} {vs : List Value}, RepSVs σ h ok w one vs l -> RepSVs σ' h' ok' w' one vs (SV.kills K l)
  | [], _, _, hr => by unfold SV.kills; exact hr
  | x :: l, _, _, hr => by
    unfold SV.kills
    simp only [RepSVs] at hr ⊢
    obtain ⟨v, vs', e, h1, h2, h3⟩ := hr
    exact ⟨v, vs', e, RepSV.kill hk hσ hg h1, h2, RepSVs.kill hk hσ hg h3⟩
end
mutual
theorem SV.kill_nil : ∀ x : SV, x.kill [] = x
  | .ref i o => rfl
  | .own i => rfl
  | .elt i o => rfl
  | .sub i o => rfl
  | .cel i r o => rfl
  | .agg l => by unfold SV.kill; rw [SV.kills_nil l]
  | .tup l => by unfold SV.kill; rw [SV.kills_nil l]
  | .fn f l => by unfold SV.kill; rw [SV.kills_nil l]
  | .junk => rfl
  | .und => rfl
  | .d x => rfl
theorem SV.kills_nil : ∀ l : List SV, SV.kills [] l = l
  | [] => rfl
  | x :: l => by unfold SV.kills; rw [SV.kill_nil x, SV.kills_nil l]
end
theorem RepSV.sim {σ : Nat -> Loc} {h h' : Heap} {ok ok' : Nat -> Prop} {w w' : World} (hk : ∀ b, ok b -> b < w.heap.size -> ok' b /\ w'.heap[b]? = w.heap[b]?) (hg : ∀ j, simO (h.get j) (h'.get j)) {x : SV} {v : Value} (hr : RepSV σ h ok w v x) : RepSV σ h' ok' w' v x := by
  have := RepSV.kill (σ' := σ) (K := []) hk (fun _ _ => rfl) (fun j _ => hg j) hr
  rwa [SV.kill_nil] at this
theorem RepChunk.mapc {σ σ' : Nat -> Loc} {h h' : Heap} {ok ok' : Nat -> Prop} {w w' : World} {l : Loc} {c : Chunk} {f : SV -> SV} (hr : RepChunk σ h ok w l c)
    (hk : ∀ b, ok b -> b < w.heap.size -> ok' b /\ w'.heap[b]? = w.heap[b]?) (hf : ∀ v sv, RepSV σ h ok w v sv -> RepSV σ' h' ok' w' v (f sv))
    (hl : ∀ b, b ∈ blk l c -> w'.heap[b]? = w.heap[b]?) : RepChunk σ' h' ok' w' l (c.mapc f) := by
  cases c with
  | box cells =>
    obtain ⟨h0, cs, t, h1, h2, h3⟩ := hr
    refine ⟨h0, cs, t, (hl _ (by simp [blk])).trans h1, by simp [h2], fun i v x hv hx => ?_⟩
    simp only [List.getElem?_map, Option.map_eq_some_iff] at hx
    obtain ⟨y, hy, rfl⟩ := hx
    exact ⟨hf _ _ (h3 i v y hv hy).1, (h3 i v y hv hy).2⟩
  | arr e sz xs => exact RepChunk.mono (σ := σ) (h := h) (c := .arr e sz xs) hr hk hl
  | rows e e' sz xss hole =>
    obtain ⟨h0, h1, h2, h3, h4⟩ := RepChunk.mono (σ := σ) (h := h) (c := .rows e e' sz xss hole) hr hk hl
    refine ⟨h0, h1, h2, fun i q xs hq hx hh => h3 i q xs hq hx (by rwa [hat_map] at hh), fun p hp q xs hq hx => ?_⟩
    cases hole with
    | none => simp [holeMap] at hp
    | some p0 =>
      simp only [holeMap, Option.some.injEq] at hp
      subst hp
      exact hf _ _ (hr.2.2.2.2 p0 rfl q xs hq hx)
  | map kvs => exact RepChunk.mono (σ := σ) (h := h) (c := .map kvs) hr hk hl
theorem RW.upd {cx : Cx} {σ σ' : Nat -> Loc} {s : Nat -> SV} {h : Heap} {a : Act} {w w' : World} (hr : RW cx σ s h a w) (K : List Nat) (N : Heap) (f : SV -> SV)
    (hNK : ∀ p ∈ N, memB p.1 K = true) (hNn : (N.map (·.1)).Nodup) (hσ : ∀ j, memB j K = false -> σ' j = σ j)
    (hos : w'.os = w.os) (htape : w'.tape = w.tape) (hout : w'.output = w.output) (hsize : w.heap.size <= w'.heap.size)
    (hblock : ∀ b, b < w.heap.size -> (∀ p ∈ h, memB p.1 K = true -> b ∉ blk (σ p.1) p.2) -> w'.heap[b]? = w.heap[b]?)
    (hNd : ∀ p ∈ N, (blk (σ' p.1) p.2).Nodup) (hNi : ∀ p ∈ N, ∀ q ∈ N, ∀ b, b ∈ blk (σ' p.1) p.2 -> b ∈ blk (σ' q.1) q.2 -> p.1 = q.1)
    (hNb : ∀ p ∈ N, ∀ b, b ∈ blk (σ' p.1) p.2 -> b < w'.heap.size /\ (w.heap.size <= b \/ ∃ q ∈ h, memB q.1 K = true /\ b ∈ blk (σ q.1) q.2 /\ (q.1 < 10000 \/ q.1 = p.1 \/ (isMov q.1 = false /\ isMov p.1 = false /\ 10000 <= p.1))))
    (hNa : ∀ p ∈ N, isAnc p.1 = true -> σ' p.1 = cx.anc p.1)
    (hf : (∀ b, okf cx σ h b -> b < w.heap.size -> okf cx σ' (N ++ keepH f K h) b /\ w'.heap[b]? = w.heap[b]?) -> ∀ v sv, RepSV σ h (okf cx σ h) w v sv -> RepSV σ' (N ++ keepH f K h) (okf cx σ' (N ++ keepH f K h)) w' v (f sv))
    (hrep : (∀ b, okf cx σ h b -> b < w.heap.size -> okf cx σ' (N ++ keepH f K h) b /\ w'.heap[b]? = w.heap[b]?) -> ∀ p ∈ N, RepChunk σ' (N ++ keepH f K h) (okf cx σ' (N ++ keepH f K h)) w' (σ' p.1) p.2) :
    RW cx σ' (fun t => f (s t)) (N ++ keepH f K h) a w' := by
  have hmem : ∀ p, p ∈ keepH f K h -> memB p.1 K = false /\ ∃ c, (p.1, c) ∈ h /\ p.2 = c.mapc f := fun p hp => mem_keepH hp
  have hold : ∀ p, p ∈ keepH f K h -> ∀ b, b ∈ blk (σ' p.1) p.2 -> memB p.1 K = false /\ ∃ c, (p.1, c) ∈ h /\ b ∈ blk (σ p.1) c := fun p hp b hb => by
    obtain ⟨h1, c, h2, h3⟩ := hmem p hp
    rw [hσ _ h1, h3, blk_mapc] at hb
    exact ⟨h1, c, h2, hb⟩
  have hne : ∀ p ∈ N, ∀ q, q ∈ keepH f K h -> ∀ b, b ∈ blk (σ' p.1) p.2 -> b ∈ blk (σ' q.1) q.2 -> False := fun p hp q hq b hb hb' => by
    obtain ⟨h1, c, h2, h3⟩ := hold q hq b hb'
    rcases (hNb p hp b hb).2 with h4 | ⟨r, hr1, hr2, hr3, _⟩
    . have := (hr.heap.mine _ h2 b h3).2.2; omega
    . have := hr.heap.inj r hr1 _ h2 b hr3 h3
      simp only at this
      rw [this, h1] at hr2
      cases hr2
  have hok : ∀ b, okf cx σ h b -> b < w.heap.size -> okf cx σ' (N ++ keepH f K h) b /\ w'.heap[b]? = w.heap[b]? := fun b hb hbl => by
    refine ⟨⟨hb.1, fun p hp => ?_⟩, hblock b hbl fun p hp _ => hb.2 p hp⟩
    rcases List.mem_append.1 hp with hp | hp
    . intro hbb
      rcases (hNb p hp b hbb).2 with h4 | ⟨q, hq, _, hq2, _⟩
      . omega
      . exact hb.2 q hq hq2
    . intro hbb
      obtain ⟨_, c, h2, h3⟩ := hold p hp b hbb
      exact hb.2 _ h2 h3
  have hf' := hf hok
  refine ⟨⟨hos.trans hr.evo.os, htape.trans hr.evo.tape, hout.trans hr.evo.output, Nat.le_trans hr.evo.size hsize, fun b h1 h2 => ?_⟩, hr.defers, hr.size, ⟨?_, ?_, ?_, ?_, ?_, ?_⟩, fun t => hf' _ _ (hr.slots t)⟩
  . refine (hblock b (Nat.lt_of_lt_of_le h1 (Nat.le_trans cx.nwle hr.evo.size)) fun p hp _ hbb => ?_).trans (hr.evo.block b h1 h2)
    rcases (hr.heap.mine p hp b hbb).1 with hx | hx
    . exact h2 _ hx
    . omega
  . rw [List.map_append]
    refine List.nodup_append.2 ⟨hNn, nodup_keepH hr.heap.nodup, fun i hi j hj e => ?_⟩
    obtain ⟨p, hp, rfl⟩ := List.mem_map.1 hi
    obtain ⟨q, hq, rfl⟩ := List.mem_map.1 hj
    have := (hmem q hq).1
    rw [<- e, hNK p hp] at this
    cases this
  . intro p hp
    rcases List.mem_append.1 hp with hp | hp
    . exact hNd p hp
    . obtain ⟨h1, c, h2, h3⟩ := hmem p hp
      rw [hσ _ h1, h3, blk_mapc]
      exact hr.heap.nd _ h2
  . intro p hp q hq b hb hb'
    rcases List.mem_append.1 hp with hp | hp <;> rcases List.mem_append.1 hq with hq | hq
    . exact hNi p hp q hq b hb hb'
    . exact (hne p hp q hq b hb hb').elim
    . exact (hne q hq p hp b hb' hb).elim
    . obtain ⟨_, c1, m1, k1⟩ := hold p hp b hb
      obtain ⟨_, c2, m2, k2⟩ := hold q hq b hb'
      exact hr.heap.inj (p.1, c1) m1 (q.1, c2) m2 b k1 k2
  . intro p hp b hb
    rcases List.mem_append.1 hp with hp | hp
    . obtain ⟨h1, h2⟩ := hNb p hp b hb
      rcases h2 with h2 | ⟨q, hq, _, hq2, hq3⟩
      . exact ⟨.inr (Nat.le_trans cx.nwle (Nat.le_trans hr.evo.size h2)), fun _ => Nat.le_trans cx.nwle (Nat.le_trans hr.evo.size h2), h1⟩
      . obtain ⟨m1, m2, m3⟩ := hr.heap.mine q hq b hq2
        rcases hq3 with hq3 | hq3 | ⟨hq3, hq4, hq5⟩
        . exact ⟨.inr (m2 hq3), fun _ => m2 hq3, h1⟩
        . exact ⟨by rw [<- hq3]; exact m1, fun h => m2 (by rw [hq3]; exact h), h1⟩
        . refine ⟨?_, fun h => by omega, h1⟩
          unfold Cx.X0 at m1 ⊢
          rw [hq3] at m1
          rw [hq4]
          exact m1
    . obtain ⟨_, c, h2, h3⟩ := hold p hp b hb
      obtain ⟨m1, m2, m3⟩ := hr.heap.mine _ h2 b h3
      exact ⟨m1, m2, Nat.lt_of_lt_of_le m3 hsize⟩
  . intro p hp
    rcases List.mem_append.1 hp with hp | hp
    . exact hrep hok p hp
    . obtain ⟨h1, c, h2, h3⟩ := hmem p hp
      rw [hσ _ h1, h3]
      refine RepChunk.mapc (hr.heap.rep _ h2) hok hf' fun b hb => hblock b (hr.heap.mine _ h2 b hb).2.2 fun q hq hqK hb' => ?_
      have := hr.heap.inj q hq _ h2 b hb' hb
      simp only at this
      rw [this, h1] at hqK
      cases hqK
  . intro p hp ha
    rcases List.mem_append.1 hp with hp | hp
    . exact hNa p hp ha
    . obtain ⟨h1, c, h2, h3⟩ := hmem p hp
      rw [hσ _ h1]
      exact hr.heap.anc (p.1, c) h2 ha
theorem anc_slot {cx : Cx} {t : Nat} (h : Nat.blt t cx.nt = true) : isAnc t = false /\ t < 10000 := by
  have h1 : t + 1 <= cx.nt := Nat.le_of_ble_eq_true h
  have h2 := Nat.le_of_ble_eq_true cx.ntle
  refine ⟨?_, by omega⟩
  unfold isAnc
  have : Nat.ble 10000 t = false := by
    rw [<- Bool.not_eq_true]
    intro h3
    have := Nat.le_of_ble_eq_true h3
    omega
  rw [this]; rfl
theorem simO_keep {f : SV -> SV} {K : List Nat} {N h : Heap} (hNK : ∀ p ∈ N, memB p.1 K = true) : ∀ j, memB j K = false -> simO (h.get j) ((N ++ keepH f K h : Heap).get j) := fun j hj => by
  rw [get_append fun p hp e => (by rw [<- e, hNK p hp] at hj; cases hj), get_keepH hj]
  cases h.get j with
  | none => trivial
  | some c => exact sim_mapc c
theorem RW.lay {cx : Cx} {σ : Nat -> Loc} {s : Slots} {h : Heap} {a : Act} {w w' : World} (hr : RW cx σ (lk s) h a w) (id : Nat) (hid : isAnc id = false) (l : Loc) (c : Chunk)
    (hos : w'.os = w.os) (htape : w'.tape = w.tape) (hout : w'.output = w.output) (hsize : w.heap.size <= w'.heap.size)
    (hblock : ∀ b, b < w.heap.size -> (∀ p ∈ h, p.1 = id -> b ∉ blk (σ p.1) p.2) -> w'.heap[b]? = w.heap[b]?)
    (hnd : (blk l c).Nodup) (hlb : ∀ b, b ∈ blk l c -> b < w'.heap.size /\ (w.heap.size <= b \/ ∃ q ∈ h, q.1 = id /\ b ∈ blk (σ q.1) q.2))
    (hc : ∀ σ' ok', (∀ b, okf cx σ h b -> b < w.heap.size -> ok' b /\ w'.heap[b]? = w.heap[b]?) -> σ' id = l -> (∀ j, j ≠ id -> σ' j = σ j) -> RepChunk σ' ((id, c) :: killH id h) ok' w' l c) :
    ∃ σ', σ' id = l /\ RW cx σ' (lk (killS id s)) ((id, c) :: killH id h) a w' := by
  let σ' : Nat -> Loc := fun j => if j = id then l else σ j
  have hσ' : σ' id = l := if_pos rfl
  have hσ : ∀ j, j ≠ id -> σ' j = σ j := fun j hj => if_neg hj
  refine ⟨σ', hσ', ?_⟩
  have := hr.upd (σ' := σ') (w' := w') [id] [(id, c)] (SV.kill [id]) (by simp [memB]) (by simp) (fun j hj => hσ j (memB_oneF.1 hj)) hos htape hout hsize
    (fun b hb hp => hblock b hb fun p hp1 hp2 => hp p hp1 (memB_one.2 hp2))
    (fun p hp => by simp at hp; subst hp; simpa [hσ'] using hnd) (fun p hp q hq _ _ _ => by simp at hp hq; subst hp hq; rfl)
    (fun p hp b hb => by
      simp at hp; subst hp
      simp only [hσ'] at hb
      obtain ⟨h1, h2⟩ := hlb b hb
      refine ⟨h1, h2.imp (fun h => h) fun ⟨q, hq, hq1, hq2⟩ => ⟨q, hq, memB_one.2 hq1, hq2, .inr (.inl hq1)⟩⟩)
    (fun p hp ha => by simp at hp; subst hp; rw [hid] at ha; cases ha)
    (fun hok v sv hv => RepSV.kill hok (fun j hj => hσ j (memB_oneF.1 hj)) (simO_keep (by simp [memB])) hv)
    (fun hok p hp => by
      simp at hp; subst hp
      simp only [hσ']
      exact hc σ' _ hok hσ' hσ)
  have e : lk (killS id s) = fun t => SV.kill [id] (lk s t) := funext fun t => lk_mapS rfl s t
  rw [e]
  exact this
def Chunk.like : Chunk -> Chunk -> Prop
  | .box a, .box b => a.length = b.length
  | .arr e sz xs, .arr e' sz' ys => e = e' /\ sz = sz' /\ xs.length = ys.length
  | .rows e e' sz xss hole, .rows f f' sz' yss hole' => e = f /\ e' = f' /\ sz = sz' /\ hole = hole' /\ xss.map List.length = yss.map List.length
  | .map _, .map _ => True
  | _, _ => False
theorem like_sim {c c' : Chunk} (h : c.like c') : c.sim c' := by
  cases c <;> cases c' <;> simp_all [Chunk.like, Chunk.sim]
theorem like_blk {c c' : Chunk} (h : c.like c') (l : Loc) : blk l c' = blk l c := by
  cases c <;> cases c' <;> simp_all [Chunk.like, blk]
def setH (id : Nat) (c : Chunk) : Heap -> Heap
  | [] => []
  | p :: h => match Nat.beq p.1 id with
    | true => (id, c) :: h
    | false => p :: setH id c h
theorem get_setH_ne {id : Nat} {c : Chunk} {h : Heap} {j : Nat} (hj : j ≠ id) : (setH id c h).get j = h.get j := by
  induction h with
  | nil => rfl
  | cons p h ih =>
    simp only [setH]
    split
    . rename_i e
      have := Nat.eq_of_beq_eq_true e
      simp only [Heap.get]
      rw [if_neg (Ne.symm hj), if_neg (by omega)]
    . simp only [Heap.get]
      split
      . rfl
      . exact ih
theorem get_setH {id : Nat} {c c' : Chunk} {h : Heap} (hg : h.get id = some c') : (setH id c h).get id = some c := by
  induction h with
  | nil => cases hg
  | cons p h ih =>
    simp only [setH]
    split
    . simp [Heap.get]
    . rename_i e
      have := Nat.ne_of_beq_eq_false e
      simp only [Heap.get] at hg ⊢
      rw [if_neg this] at hg ⊢
      exact ih hg
theorem mem_setH {id : Nat} {c : Chunk} {h : Heap} {p : Nat × Chunk} (hn : (h.map (·.1)).Nodup) (hp : p ∈ setH id c h) : (p = (id, c) /\ ∃ c', (id, c') ∈ h) \/ (p ∈ h /\ p.1 ≠ id) := by
  induction h with
  | nil => cases hp
  | cons q h ih =>
    simp only [List.map_cons, List.nodup_cons] at hn
    simp only [setH] at hp
    split at hp
    . rename_i e
      have e' := Nat.eq_of_beq_eq_true e
      rcases List.mem_cons.1 hp with rfl | hp
      . exact .inl ⟨rfl, q.2, by rw [<- e']; exact List.mem_cons_self ..⟩
      . refine .inr ⟨List.mem_cons_of_mem _ hp, fun he => hn.1 ?_⟩
        exact List.mem_map.2 ⟨p, hp, he.trans e'.symm⟩
    . rename_i e
      rcases List.mem_cons.1 hp with rfl | hp
      . exact .inr ⟨List.mem_cons_self .., Nat.ne_of_beq_eq_false e⟩
      . rcases ih hn.2 hp with ⟨h1, c', h2⟩ | ⟨h1, h2⟩
        . exact .inl ⟨h1, c', List.mem_cons_of_mem _ h2⟩
        . exact .inr ⟨List.mem_cons_of_mem _ h1, h2⟩
theorem map_setH {id : Nat} {c : Chunk} {h : Heap} : (setH id c h).map (·.1) = h.map (·.1) := by
  induction h with
  | nil => rfl
  | cons q h ih =>
    simp only [setH]
    split
    . rename_i e
      have e' := Nat.eq_of_beq_eq_true e
      simp [e']
    . simp [ih]
theorem simO_setH {id : Nat} {c c' : Chunk} {h : Heap} (hg : h.get id = some c) (hl : c.like c') (j : Nat) : simO (h.get j) ((setH id c' h).get j) := by
  by_cases e : j = id
  . subst e
    rw [hg, get_setH hg]
    exact like_sim hl
  . rw [get_setH_ne e]
    cases h.get j with
    | none => trivial
    | some c => exact sim_refl c
theorem RepSV.set {σ : Nat -> Loc} {h : Heap} {ok ok' : Nat -> Prop} {w w' : World} {v : Value} {x : SV} {id : Nat} {c c' : Chunk} (hr : RepSV σ h ok w v x) (hg : h.get id = some c) (hl : c.like c')
    (hk : ∀ b, ok b -> b < w.heap.size -> ok' b /\ w'.heap[b]? = w.heap[b]?) : RepSV σ (setH id c' h) ok' w' v x := RepSV.sim hk (simO_setH hg hl) hr
theorem get_of_mem {h : Heap} (hn : (h.map (·.1)).Nodup) {p : Nat × Chunk} (hp : p ∈ h) : h.get p.1 = some p.2 := by
  induction h with
  | nil => cases hp
  | cons q h ih =>
    simp only [List.map_cons, List.nodup_cons] at hn
    simp only [Heap.get]
    rcases List.mem_cons.1 hp with rfl | hp
    . simp
    . rw [if_neg fun e : q.1 = p.1 => hn.1 (List.mem_map.2 ⟨p, hp, e.symm⟩)]
      exact ih hn.2 hp
theorem RW.set {cx : Cx} {σ : Nat -> Loc} {s : Nat -> SV} {h : Heap} {a : Act} {w w' : World} (hr : RW cx σ s h a w) {id : Nat} {c c' : Chunk} (hg : h.get id = some c) (hl : c.like c')
    (hos : w'.os = w.os) (htape : w'.tape = w.tape) (hout : w'.output = w.output) (hsize : w'.heap.size = w.heap.size)
    (hblock : ∀ b, b ∉ blk (σ id) c -> w'.heap[b]? = w.heap[b]?)
    (hc : (∀ b, okf cx σ h b -> b < w.heap.size -> okf cx σ (setH id c' h) b /\ w'.heap[b]? = w.heap[b]?) -> RepChunk σ (setH id c' h) (okf cx σ (setH id c' h)) w' (σ id) c') : RW cx σ s (setH id c' h) a w' := by
  obtain ⟨p0, hp0, hp1, hp2⟩ := get_mem hg
  have old : ∀ p ∈ setH id c' h, ∃ c2, (p.1, c2) ∈ h /\ blk (σ p.1) p.2 = blk (σ p.1) c2 /\ (p.1 = id -> c2 = c) := fun p hp => by
    rcases mem_setH hr.heap.nodup hp with ⟨rfl, c2, h2⟩ | ⟨h1, hne⟩
    . have := get_of_mem hr.heap.nodup h2
      simp only at this
      rw [hg] at this
      cases this
      exact ⟨_, h2, like_blk hl _, fun _ => rfl⟩
    . exact ⟨p.2, h1, rfl, fun e => absurd e hne⟩
  have hok : ∀ b, okf cx σ h b -> b < w.heap.size -> okf cx σ (setH id c' h) b /\ w'.heap[b]? = w.heap[b]? := fun b hb hbl => by
    refine ⟨⟨hb.1, fun p hp => ?_⟩, hblock b ?_⟩
    . obtain ⟨c2, h2, h3, _⟩ := old p hp
      rw [h3]
      exact hb.2 _ h2
    . rw [<- hp1, <- hp2]; exact hb.2 _ hp0
  refine ⟨⟨hos.trans hr.evo.os, htape.trans hr.evo.tape, hout.trans hr.evo.output, by rw [hsize]; exact hr.evo.size, fun b h1 h2 => ?_⟩, hr.defers, hr.size, ⟨?_, ?_, ?_, ?_, ?_, ?_⟩, fun t => ?_⟩
  . refine (hblock b fun e => ?_).trans (hr.evo.block b h1 h2)
    rw [<- hp1, <- hp2] at e
    have hle := cx.nwle
    rcases (hr.heap.mine p0 hp0 b e).1 with hx | hx
    . exact h2 _ hx
    . omega
  . rw [map_setH]; exact hr.heap.nodup
  . intro p hp
    obtain ⟨c2, h2, h3, _⟩ := old p hp
    rw [h3]
    exact hr.heap.nd _ h2
  . intro p hp q hq b hb hb'
    obtain ⟨c1, m1, k1, _⟩ := old p hp
    obtain ⟨c2, m2, k2, _⟩ := old q hq
    rw [k1] at hb
    rw [k2] at hb'
    exact hr.heap.inj (p.1, c1) m1 (q.1, c2) m2 b hb hb'
  . intro p hp b hb
    rw [hsize]
    obtain ⟨c2, h2, h3, _⟩ := old p hp
    rw [h3] at hb
    exact hr.heap.mine _ h2 b hb
  . intro p hp
    rcases mem_setH hr.heap.nodup hp with ⟨rfl, _⟩ | ⟨h1, hne⟩
    . exact hc hok
    . have hb : ∀ b, b ∈ blk (σ p.1) p.2 -> w'.heap[b]? = w.heap[b]? := fun b hb => hblock b fun e => by
        rw [<- hp1, <- hp2] at e
        exact hne ((hr.heap.inj _ h1 p0 hp0 b hb e).trans hp1)
      have := RepChunk.mapc (f := fun x => x) (h' := setH id c' h) (hr.heap.rep p h1) hok (fun v sv hv => RepSV.set hv hg hl hok) hb
      cases hpc : p.2 with
      | box cells => rw [hpc] at this; simpa [Chunk.mapc] using this
      | arr e sz xs => rw [hpc] at this; exact this
      | rows e e' sz xss hole =>
        rw [hpc] at this
        have e1 : holeMap (fun x => x) hole = hole := by cases hole <;> rfl
        simpa [Chunk.mapc, e1] using this
      | map kvs => rw [hpc] at this; exact this
  . intro p hp ha
    obtain ⟨c2, h2, _⟩ := old p hp
    exact hr.heap.anc (p.1, c2) h2 ha
  . exact (hr.slots t).set hg hl hok
end Go.Proofs.YtckpadnjldebaaaGreat
namespace Go.Proofs.YtckpadnjldebaaaGreat
open Go
open Go.RowKit (Below)
set_option linter.unusedVariables false
set_option linter.unusedSimpArgs false
theorem RepD.cellOne {ok : Nat -> Prop} {w : World} {v : Value} {x : D} (h : RepD ok w v x) (hel : x.el = true) : ∀ u ∈ v.cells.toList, u.oneCell' = true := by
  rcases D.el_or hel with h1 | ⟨xs, rfl⟩
  . rw [h.oneCell h1]
    intro u hu
    simp at hu
    subst hu
    exact h.oneCell' h1
  . cases h with
    | agg cs _ k1 k2 k3 =>
      intro u hu
      have hu' : u ∈ cs.toList := hu
      obtain ⟨i, hi⟩ := List.getElem?_of_mem hu'
      have hlt : i < xs.length := by
        rw [<- k1]
        rcases Nat.lt_or_ge i cs.size with hh | hh
        . exact hh
        . simp [hh] at hi
      exact (k3 i u xs[i] (by simpa using hi) (List.getElem?_eq_getElem hlt)).oneCell' (k2 _ (List.getElem_mem hlt))
theorem RepD.agg_inv {ok : Nat -> Prop} {w : World} {v : Value} {xs : List D} (h : RepD ok w v (.agg xs)) :
    ∃ cs, v = .agg cs /\ cs.size = xs.length /\ (∀ x ∈ xs, x.one = true) /\ ∀ (i : Nat) u x, cs[i]? = some u -> xs[i]? = some x -> RepD ok w u x := by
  cases h with
  | agg cs _ h1 h2 h3 => exact ⟨cs, rfl, h1, h2, h3⟩
def svOne (h : Heap) : SV -> Bool
  | .d v => v.one
  | .ref _ _ => true
  | .own i => match h.get i with
    | some (.arr _ _ _) => true
    | some (.rows _ _ _ _ _) => true
    | some (.map _) => true
    | _ => false
  | .sub i _ => match h.get i with
    | some (.rows _ _ _ _ _) => true
    | _ => false
  | _ => false
theorem slice_one (l : Loc) (n : Nat) : (sliceAt l n).oneCell' = true /\ (sliceAt l n).cells = #[sliceAt l n] := by
  unfold sliceAt
  split <;> exact ⟨rfl, rfl⟩
theorem svOne_rep {σ : Nat -> Loc} {h : Heap} {ok : Nat -> Prop} {w : World} {v : Value} {sv : SV} (hv : RepSV σ h ok w v sv) (ho : svOne h sv = true) : v.oneCell' = true /\ v.cells = #[v] := by
  cases sv with
  | d x => exact ⟨RepD.oneCell' hv ho, RepD.oneCell hv ho⟩
  | ref i o => rw [show v = _ from hv]; exact ⟨rfl, rfl⟩
  | own i =>
    simp only [svOne] at ho
    split at ho
    . rename_i e sz xs hg
      simp only [RepSV, hg] at hv
      subst hv
      exact slice_one _ _
    . rename_i hg
      simp only [RepSV, hg] at hv
      subst hv
      exact slice_one _ _
    . rename_i hg
      simp only [RepSV, hg] at hv
      subst hv
      exact ⟨rfl, rfl⟩
    . cases ho
  | sub i n =>
    simp only [svOne] at ho
    split at ho
    . rename_i hg
      simp only [RepSV, hg] at hv
      obtain ⟨q, xs, _, _, rfl⟩ := hv
      exact slice_one _ _
    . cases ho
  | _ => simp [svOne] at ho
theorem src_cells {ok : Nat -> Prop} {w : World} {v : Value} {ys : List D} {size : Nat} (hv : RepD ok w v (.lst ys)) (hy : ∀ y ∈ ys, y.el = true /\ y.width = size) :
    (v = .slice none 0 0 /\ ys = []) \/ ∃ a c cl, v = .slice (some a) ys.length c /\ RepCells ok w size cl ys /\ (∀ (j : Nat) u, cl[j]? = some u -> w.cell? (a.add j) = some u) /\ ∀ u ∈ cl, u.oneCell' = true := by
  cases hv with
  | nil0 => exact .inl ⟨rfl, rfl⟩
  | emp a cap => exact .inr ⟨a, cap, [], rfl, ⟨by simp, [], rfl, by simp, by simp⟩, by simp, by simp⟩
  | lst b off cap n cells e fr xs vs sz k1 k2 k3 k4 k5 k6 k7 k8 =>
    right
    subst k4
    have each : ∀ (i : Nat) v, vs[i]? = some v -> v.cells.size = size /\ ∃ y, ys[i]? = some y /\ y.el = true /\ RepD ok w v y := fun i v hv => by
      have hlt : i < ys.length := by
        rw [<- k3]
        rcases Nat.lt_or_ge i vs.length with hh | hh
        . exact hh
        . simp [hh] at hv
      have hyi : ys[i]? = some ys[i] := List.getElem?_eq_getElem hlt
      have hr := k7 i v _ hv hyi
      obtain ⟨e1, e2⟩ := hy _ (List.getElem_mem hlt)
      exact ⟨by rw [hr.width (D.el_or e1), e2], _, hyi, e1, hr⟩
    refine ⟨⟨b, off, none⟩, cap, (List.range (ys.length * size)).map fun j => cells.getD (off + j) undef, rfl, ⟨by simp, vs, k3, k7, fun i v hv => ⟨(each i v hv).1, fun j hj => ?_⟩⟩, fun j u hj => ?_, fun u hu => ?_⟩
    . have hlt : i < ys.length := by
        rw [<- k3]
        rcases Nat.lt_or_ge i vs.length with hh | hh
        . exact hh
        . simp [hh] at hv
      have hm : i * size + size <= ys.length * size := by
        have := Nat.mul_le_mul_right size (show i + 1 <= ys.length from hlt)
        rw [Nat.add_mul] at this
        omega
      obtain ⟨c1, c2⟩ := k8 i v hv
      have hs := (each i v hv).1
      rw [List.getElem?_map, List.getElem?_range (by omega)]
      have := c2 j (by omega)
      rw [<- this, show off + i * sz + j = off + (i * size + j) by rw [<- hs, c1]; omega]
      have hj' : j < v.cells.size := by omega
      rw [show off + i * sz + j = off + (i * size + j) by rw [<- hs, c1]; omega, Array.getElem?_eq_getElem hj'] at this
      simp [this]
    . rw [List.getElem?_map] at hj
      simp only [Option.map_eq_some_iff] at hj
      obtain ⟨j', hj', rfl⟩ := hj
      have hjlt : j < ys.length * size := by
        rcases Nat.lt_or_ge j (ys.length * size) with hh | hh
        . exact hh
        . simp [hh] at hj'
      rw [List.getElem?_range hjlt] at hj'
      cases hj'
      rw [add_block, cell_at k2]
      have hsz : 0 < size := by
        rcases Nat.eq_zero_or_pos size with h0 | h0
        . subst h0; simp at hjlt
        . exact h0
      have hi : j / size < vs.length := by rw [k3]; exact Nat.div_lt_of_lt_mul (by rw [Nat.mul_comm]; exact hjlt)
      obtain ⟨c1, c2⟩ := k8 (j / size) _ (List.getElem?_eq_getElem hi)
      have hs := (each (j / size) _ (List.getElem?_eq_getElem hi)).1
      have := c2 (j % size) (by rw [<- c1, hs]; exact Nat.mod_lt _ hsz)
      have hdm : j / size * size + j % size = j := Nat.div_add_mod' j size
      rw [show off + j / size * sz + j % size = off + j by rw [<- c1, hs]; omega] at this
      have hjm : j % size < vs[j / size].cells.size := by rw [hs]; exact Nat.mod_lt _ hsz
      rw [Array.getElem?_eq_getElem hjm] at this
      simp [this]
    . obtain ⟨j, hj, rfl⟩ := List.mem_map.1 hu
      have hjlt : j < ys.length * size := List.mem_range.1 hj
      have hsz : 0 < size := by
        rcases Nat.eq_zero_or_pos size with h0 | h0
        . subst h0; simp at hjlt
        . exact h0
      have hi : j / size < vs.length := by rw [k3]; exact Nat.div_lt_of_lt_mul (by rw [Nat.mul_comm]; exact hjlt)
      obtain ⟨c1, c2⟩ := k8 (j / size) _ (List.getElem?_eq_getElem hi)
      obtain ⟨hs, y, hy1, hy2, hy3⟩ := each (j / size) _ (List.getElem?_eq_getElem hi)
      have := c2 (j % size) (by rw [<- c1, hs]; exact Nat.mod_lt _ hsz)
      have hdm : j / size * size + j % size = j := Nat.div_add_mod' j size
      rw [show off + j / size * sz + j % size = off + j by rw [<- c1, hs]; omega] at this
      have hjm : j % size < vs[j / size].cells.size := by rw [hs]; exact Nat.mod_lt _ hsz
      rw [Array.getElem?_eq_getElem hjm] at this
      have hget : cells.getD (off + j) undef = vs[j / size].cells[j % size] := by simp [this]
      rw [hget]
      exact hy3.cellOne hy2 _ (by simp)
theorem RepCells.append {ok : Nat -> Prop} {w : World} {sz : Nat} {c1 c2 : List Value} {xs ys : List D} (h1 : RepCells ok w sz c1 xs) (h2 : RepCells ok w sz c2 ys) : RepCells ok w sz (c1 ++ c2) (xs ++ ys) := by
  obtain ⟨a1, vs, a2, a3, a4⟩ := h1
  obtain ⟨b1, us, b2, b3, b4⟩ := h2
  refine ⟨by simp [a1, b1, Nat.add_mul], vs ++ us, by simp [a2, b2], fun i v x hv hx => ?_, fun i v hv => ?_⟩
  . rw [List.getElem?_append] at hv hx
    rw [a2] at hv
    split at hv
    . rename_i hl; rw [if_pos hl] at hx; exact a3 i v x hv hx
    . rename_i hl; rw [if_neg hl] at hx; exact b3 _ v x hv hx
  . rw [List.getElem?_append, a2] at hv
    split at hv
    . rename_i hl
      refine ⟨(a4 i v hv).1, fun j hj => ?_⟩
      rw [<- (a4 i v hv).2 j hj]
      have hm : i * sz + sz <= xs.length * sz := by
        have := Nat.mul_le_mul_right sz (show i + 1 <= xs.length from hl)
        rw [Nat.add_mul] at this
        omega
      rw [List.getElem?_append_left (by omega)]
    . rename_i hl
      refine ⟨(b4 _ v hv).1, fun j hj => ?_⟩
      rw [<- (b4 _ v hv).2 j hj]
      have hm : xs.length * sz <= i * sz := Nat.mul_le_mul_right sz (by omega)
      rw [List.getElem?_append_right (by omega), a1, show i * sz + j - xs.length * sz = (i - xs.length) * sz + j by rw [Nat.sub_mul]; omega]
section
variable {cx : Cx} {ops : Array Oper} {rest : List Oper} {s : Slots} {h : Heap} {Q : Exit -> Slots -> Heap -> Prop} {dst : Option Nat} {t ty : Nat} {pos : String} {af : Array Edge}
theorem lto {op : Op} {s' : Slots} {h' : Heap} (ho : OpTo cx ⟨dst, op, ty, pos, af, none⟩ s h s' h') (hn : awpL cx ops rest s' h' Q) : awpL cx ops (⟨dst, op, ty, pos, af, none⟩ :: rest) s h Q := awpL_to rfl ho hn
theorem put_lay {cx : Cx} {σ : Nat -> Loc} {s : Slots} {h : Heap} {a : Act} {w : World} (hr : RW cx σ (lk s) h a w) (hd : Nat.blt t cx.nt = true) {v : Value} {sv : SV} (hv : RepSV σ h (okf cx σ h) w v sv) :
    R cx (lk ((t, sv) :: s)) h (a.put (some t) v) w := ⟨σ, by
  have := hr.put (dst := some t) (dstOk_lt hd) hv
  exact this⟩
theorem op_alloc {T : Nat} {tr : TR} (ht : tget cx.T T = some tr) (hd : Nat.blt t cx.nt = true) :
    OpTo cx ⟨some t, .alloc T, ty, pos, af, none⟩ s h ((t, .ref t 0) :: killS t s) ((t, .box (tr.zero.map .d)) :: killH t h) := by
  rintro a w ⟨σ, hr⟩ K Q hK
  obtain ⟨d, i, hdd, hi, _, _, _, _, _, _, _, _, z, hz, hz2⟩ := tr_facts (tget_ok cx.tab ht)
  have run : (execOp a.eval ⟨some t, .alloc T, ty, pos, af, none⟩).run cx.P w = .ok (.value (.pointer (some ⟨w.heap.size, 0, none⟩))) (w.alloc (.cells z.cells T)) := by
    simp [execOp, Instr.alloc, zeroValue, typeInfo, hi, hz, newVar, newRow]
  obtain ⟨z1, z2, z3⟩ := zeroAre_rep (ok := okf cx σ h) (w := w) hz2
  obtain ⟨σ', e1, hr'⟩ := hr.lay (w' := w.alloc (.cells z.cells T)) t (anc_slot hd).1 ⟨w.heap.size, 0, false, []⟩ (.box (tr.zero.map .d)) rfl rfl rfl (by simp) (fun b hb _ => Below.heap_alloc w _ b hb) (by simp [blk]) (by simp [blk]) fun σ' ok' hok _ _ => by
    refine ⟨rfl, z.cells, T, heap_alloc_new w _, by simpa using z1, fun i v x hv hx => ?_⟩
    simp only [List.getElem?_map, Option.map_eq_some_iff] at hx
    obtain ⟨y, hy, rfl⟩ := hx
    have hry := z3 i v y (by simpa using hv) hy
    exact ⟨hry.mono hok, hry.oneCell' (z2 y (List.mem_of_getElem? hy))⟩
  unfold Oper.wp
  rw [run]
  exact hK _ _ (put_lay hr' hd (by simp only [RepSV, e1]))
theorem op_box {T : Nat} {x : Operand} {y : D} (hx : opv (lk s) x = .d y) (hd : Nat.blt t cx.nt = true) (hel : y.el = true) :
    OpTo cx ⟨some t, .box T x, ty, pos, af, none⟩ s h ((t, .ref t 0) :: killS t s) ((t, .box (y.cells.map .d)) :: killH t h) := by
  rintro a w ⟨σ, hr⟩ K Q hK
  have hv' : RepD (okf cx σ h) w (a.eval x) y := by
    have hv := rep_eval hr x
    rw [hx] at hv
    exact hv
  have run : (execOp a.eval ⟨some t, .box T x, ty, pos, af, none⟩).run cx.P w = .ok (.value (.pointer (some ⟨w.heap.size, 0, none⟩))) (w.alloc (.cells (a.eval x).cells T)) := by
    simp [execOp, Instr.box, newVar, newRow]
  obtain ⟨σ', e1, hr'⟩ := hr.lay (w' := w.alloc (.cells (a.eval x).cells T)) t (anc_slot hd).1 ⟨w.heap.size, 0, false, []⟩ (.box (y.cells.map .d)) rfl rfl rfl (by simp) (fun b hb _ => Below.heap_alloc w _ b hb) (by simp [blk]) (by simp [blk]) fun σ' ok' hok _ _ => by
    refine ⟨rfl, (a.eval x).cells, T, heap_alloc_new w _, ?_, fun i v u hv hu => ?_⟩
    . rw [hv'.width (D.el_or hel)]
      cases y <;> simp [D.width, D.cells]
    . simp only [List.getElem?_map, Option.map_eq_some_iff] at hu
      obtain ⟨y', hy', rfl⟩ := hu
      refine ⟨?_, hv'.cellOne hel v (by simpa using Array.mem_of_getElem? hv)⟩
      rcases D.el_or hel with h1 | ⟨xs, rfl⟩
      . rw [hv'.oneCell h1] at hv
        have hc : y.cells = [y] := by cases y <;> first | rfl | (simp [D.one] at h1)
        rw [hc] at hy'
        cases i with
        | zero => simp at hv hy'; subst hv hy'; exact RepD.mono hv' hok
        | succ i => simp at hv
      . obtain ⟨cs, e, k1, k2, k3⟩ := RepD.agg_inv hv'
        rw [e] at hv
        exact RepD.mono (k3 i v y' hv hy') hok
  unfold Oper.wp
  rw [run]
  exact hK _ _ (put_lay hr' hd (by simp only [RepSV, e1]))
theorem op_store {T : Nat} {tr : TR} {x y : Operand} {id off : Nat} {cells : List SV} {sv : SV} (ht : tget cx.T T = some tr) (hx : opv (lk s) x = .ref id off) (hg : h.get id = some (.box cells)) (hy : opv (lk s) y = sv)
    (hsz : tr.size = 1) (hone : svOne h sv = true) (hoff : Nat.blt off cells.length = true) :
    OpTo cx ⟨none, .store T x y, ty, pos, af, none⟩ s h s (setH id (.box (cells.set off sv)) h) := by
  rintro a w ⟨σ, hr⟩ K Q hK
  have hu := rep_eval hr x
  rw [hx] at hu
  have hu' : a.eval x = .pointer (some ⟨(σ id).b, off, none⟩) := hu
  have hv := rep_eval hr y
  rw [hy] at hv
  obtain ⟨d, i, hdd, hi, _, hisz, _⟩ := tr_facts (tget_ok cx.tab ht)
  obtain ⟨p0, hp0, rfl, hp2⟩ := get_mem hg
  have hc := hr.heap.rep p0 hp0
  rw [hp2] at hc
  obtain ⟨c0, cs, T', c1, c2, c3⟩ := hc
  have hoff' : off < cs.size := by rw [c2]; exact Nat.le_of_ble_eq_true hoff
  have hvone := svOne_rep hv hone
  have run : (execOp a.eval ⟨none, .store T x y, ty, pos, af, none⟩).run cx.P w = .ok .skip (w.setCell ⟨(σ p0.1).b, off, none⟩ (a.eval y)) := by
    have hs : (storeVar T ⟨(σ p0.1).b, off, none⟩ (a.eval y)).run cx.P w = .ok () (w.setCell ⟨(σ p0.1).b, off, none⟩ (a.eval y)) := by
      unfold storeVar
      rw [hvone.2]
      have hcell : w.cell? ⟨(σ p0.1).b, off, none⟩ = some cs[off] := by rw [cell_at c1, Array.getElem?_eq_getElem hoff']
      have hfr : w.frozen? ⟨(σ p0.1).b, off, none⟩ = false := by simp [World.frozen?, c1]
      simp [sizeOf, typeInfo, hi, hisz, hsz, storeCells, add_block, run_store _ _ _ _ _ hvone.1, hcell, hfr]
    simp [execOp, Instr.storeAt, Instr.sureAddr, hu', hs]
  have hr' := hr.set (w' := w.setCell ⟨(σ p0.1).b, off, none⟩ (a.eval y)) (c' := .box (cells.set off sv)) hg (by simp [Chunk.like]) rfl rfl rfl (by simp) (fun b hb => Below.heap_setCell w _ _ b (by simpa [blk] using hb)) fun hok => by
    refine ⟨c0, cs.setIfInBounds off (a.eval y), T', ?_, by simp [c2], fun i v u hv' hu' => ?_⟩
    . simp [World.setCell, Array.getElem?_modify, c1]
    . by_cases e : off = i
      . subst e
        simp [hoff'] at hv'
        subst hv'
        rw [List.getElem?_set_self (by rw [<- c2]; exact hoff')] at hu'
        cases hu'
        exact ⟨hv.set hg (by simp [Chunk.like]) hok, hvone.1⟩
      . rw [Array.getElem?_setIfInBounds_ne e] at hv'
        rw [List.getElem?_set_ne e] at hu'
        exact ⟨(c3 i v u hv' hu').1.set hg (by simp [Chunk.like]) hok, (c3 i v u hv' hu').2⟩
  unfold Oper.wp
  rw [run]
  exact hK _ _ ⟨σ, hr'⟩
end
end Go.Proofs.YtckpadnjldebaaaGreat
