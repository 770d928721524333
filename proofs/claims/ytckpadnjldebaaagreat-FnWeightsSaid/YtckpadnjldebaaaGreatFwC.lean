/- The operations of the logic over data: what each leaves in its slot. No condition. -/
import Derived.Test.YtckpadnjldebaaaGreatFwA
namespace Go.Proofs.YtckpadnjldebaaaGreat
open Go
open Go.RowKit (Below)
set_option linter.unusedVariables false
set_option linter.unusedSimpArgs false
theorem tr_facts {P : Program} {t : Nat} {r : TR} (h : trOk P t r = true) : ∃ d i, P.underlying t = some d /\ P.info? t = some i /\ isAggD d = r.agg /\ i.size = r.size /\ i.bytes = r.bytes /\
    (r.isSl = true -> d = .slice r.elem) /\ (r.isStr = true -> d = .string) /\ (r.isBool = true -> d = .bool) /\ (∀ (q : Nat × Nat × Bool) (n : Nat), r.fields[n]? = some q -> ∃ fs : Array Field, ∃ f, d = .struct fs /\ fs[n]? = some f /\ fieldIs P f q = true) /\
    (∀ k, r.kind = some k -> d = .int k) /\ (∃ z, i.zero = some z /\ zeroAre z.cells.toList r.zero = true) := by
  simp only [trOk, Bool.and_eq_true] at h
  replace h := h.1
  unfold trOk0 at h
  split at h
  . rename_i d i hd hi
    simp only [Bool.and_eq_true, beq_iff_eq] at h
    obtain ⟨⟨⟨⟨⟨⟨⟨⟨h1, h2⟩, h3⟩, h4⟩, h4b⟩, h4c⟩, h5⟩, h6⟩, h7⟩ := h
    refine ⟨d, i, hd, hi, h1, h2, h3, fun hs => ?_, fun hs => ?_, fun hs => ?_, fun q n hq => ?_, fun k hk => ?_, ?_⟩
    . cases d <;> simp [hs] at h4 ⊢
      exact h4.symm
    . cases d <;> simp [hs] at h4b ⊢
    . cases d <;> simp [hs] at h4c ⊢
    . cases d with
      | struct fs =>
        simp only at h5
        have key : ∀ (l : List Field) (qs : List (Nat × Nat × Bool)) (n : Nat), fieldsAre P l qs = true -> qs[n]? = some q -> ∃ f, l[n]? = some f /\ fieldIs P f q = true := by
          intro l
          induction l with
          | nil => intro qs n hf hq; cases qs <;> simp [fieldsAre] at hf hq
          | cons f l ih =>
            intro qs n hf hq
            cases qs with
            | nil => simp [fieldsAre] at hf
            | cons p qs =>
              simp only [fieldsAre, Bool.and_eq_true] at hf
              cases n with
              | zero => simp at hq; subst hq; exact ⟨f, rfl, hf.1⟩
              | succ n => simpa using ih qs n hf.2 (by simpa using hq)
        obtain ⟨f, hf1, hf2⟩ := key fs.toList r.fields n h5 hq
        exact ⟨fs, f, rfl, by simpa using hf1, hf2⟩
      | _ => simp at h5; simp [h5] at hq
    . cases d <;> simp [hk] at h6 ⊢
      exact h6.symm
    . split at h7
      . rename_i z hz; exact ⟨z, hz, h7⟩
      . cases h7
  . cases h
theorem zeroIs_rep {ok : Nat -> Prop} {w : World} {v : Value} {x : D} (h : zeroIs v x = true) : RepD ok w v x /\ x.one = true := by
  unfold zeroIs at h
  split at h
  . simp at h; obtain ⟨rfl, rfl⟩ := h; exact ⟨.int _ _, rfl⟩
  . simp at h; subst h; exact ⟨.bool _, rfl⟩
  . rename_i s l
    simp at h
    subst h
    exact ⟨.str _ _ (by cases s; simp), rfl⟩
  . exact ⟨.nils, rfl⟩
  . exact ⟨.nilp, rfl⟩
  . exact ⟨.nilm, rfl⟩
  . cases h
theorem zeroAre_rep {ok : Nat -> Prop} {w : World} : ∀ {vs : List Value} {xs : List D}, zeroAre vs xs = true ->
    vs.length = xs.length /\ (∀ x ∈ xs, x.one = true) /\ ∀ (i : Nat) v x, vs[i]? = some v -> xs[i]? = some x -> RepD ok w v x
  | [], [], _ => ⟨rfl, by simp, by simp⟩
  | v :: vs, x :: xs, h => by
    simp only [zeroAre, Bool.and_eq_true] at h
    obtain ⟨h1, h2, h3⟩ := zeroAre_rep (ok := ok) (w := w) h.2
    refine ⟨by simp [h1], fun y hy => ?_, fun i v' x' hv hx => ?_⟩
    . rcases List.mem_cons.1 hy with rfl | hy
      . exact (zeroIs_rep (ok := ok) (w := w) h.1).2
      . exact h2 y hy
    . cases i with
      | zero => simp at hv hx; subst hv hx; exact (zeroIs_rep h.1).1
      | succ i => exact h3 i v' x' (by simpa using hv) (by simpa using hx)
  | [], _ :: _, h => by simp [zeroAre] at h
  | _ :: _, [], h => by simp [zeroAre] at h
def ofConst : Value -> SV
  | .int k n => .d (.int k n)
  | .bool b => .d (.bool b)
  | .string s => .d (.str s.data.toList)
  | .slice none 0 0 => .d .nils
  | .pointer none => .d .nilp
  | _ => .junk
def opv (s : Nat -> SV) : Operand -> SV
  | .tmp t => s t
  | .const v => ofConst v
  | .func f => .d (.fn f [])
  | .global _ => .junk
theorem rep_const {σ : Nat -> Loc} {h : Heap} {ok : Nat -> Prop} {w : World} (v : Value) : RepSV σ h ok w v (ofConst v) := by
  unfold ofConst
  split
  . exact RepD.int _ _
  . exact RepD.bool _
  . rename_i s; exact RepD.str _ _ (by cases s; simp)
  . exact RepD.nils
  . exact RepD.nilp
  . trivial
theorem rep_eval {cx : Cx} {σ : Nat -> Loc} {s : Nat -> SV} {h : Heap} {a : Act} {w : World} (hr : RW cx σ s h a w) (x : Operand) : RepSV σ h (okf cx σ h) w (a.eval x) (opv s x) := by
  cases x with
  | tmp t => exact hr.slots t
  | const v => exact rep_const v
  | global g => trivial
  | func f => exact RepD.fn f #[] [] rfl (by simp)
def sameK : IntKind -> IntKind -> Bool
  | .i8, .i8 | .i16, .i16 | .i32, .i32 | .i64, .i64 | .u8, .u8 | .u16, .u16 | .u32, .u32 | .u64, .u64 => true
  | _, _ => false
theorem sameK_eq {a b : IntKind} (h : sameK a b = true) : a = b := by cases a <;> cases b <;> first | rfl | (simp [sameK] at h)
def evBin (op : BinOp) : SV -> SV -> Option SV
  | .d (.int k a), .d (.int k' b) =>
    match sameK k k' with
    | true => match op with
      | .add => some (.d (.int k (k.wrap (a + b))))
      | .sub => some (.d (.int k (k.wrap (a - b))))
      | .mul => some (.d (.int k (k.wrap (a * b))))
      | .eql => some (.d (.bool (decide (a = b))))
      | .neq => some (.d (.bool (!decide (a = b))))
      | .lss => some (.d (.bool (decide (a < b))))
      | .leq => some (.d (.bool (decide (a <= b))))
      | .gtr => some (.d (.bool (decide (b < a))))
      | .geq => some (.d (.bool (decide (b <= a))))
      | _ => none
    | false => none
  | .d (.str a), .d (.str b) =>
    match op with
    | .eql => some (.d (.bool (decide (a = b))))
    | .neq => some (.d (.bool (!decide (a = b))))
    | _ => none
  | _, _ => none
def evBoolEq (T : List (Nat × TR)) (t : Nat) (op : BinOp) : SV -> SV -> Option SV
  | .d (.bool a), .d (.bool b) =>
    match tget T t with
    | some ty => match ty.isBool with
      | true => match op with
        | .eql => some (.d (.bool (a == b)))
        | .neq => some (.d (.bool (!(a == b))))
        | _ => none
      | false => none
    | none => none
  | _, _ => none
def evNil : SV -> Option SV
  | .d (.ptr y) => some (.d (.ptr y))
  | .ref a b => some (.ref a b)
  | _ => none
def evUn (op : UnOp) : SV -> Option SV
  | .d (.bool b) => match op with
    | .not => some (.d (.bool (!b)))
    | _ => none
  | .d (.int k n) => match op with
    | .neg => some (.d (.int k (k.wrap (0 - n))))
    | _ => none
  | _ => none
def allD : List SV -> Option (List D)
  | [] => some []
  | .d x :: l => match allD l with
    | some xs => some (x :: xs)
    | none => none
  | _ :: _ => none
def evLoad (ty : TR) (h : Heap) : SV -> Option SV
  | .d (.ptr y) => match ty.agg with
    | true => match y with
      | .agg xs => match Nat.beq xs.length ty.size with
        | true => some (.d (.agg xs))
        | false => none
      | _ => none
    | false => match y.one with
      | true => some (.d y)
      | false => none
  | .ref id off => match ty.agg with
    | false => match h.get id with
      | some (.box cells) => cells[off]?
      | _ => none
    | true => none
  | _ => none
def evFieldAddr (q : Nat × Nat × Bool) : SV -> Option SV
  | .d (.ptr (.agg xs)) => match q.2.2 with
    | true => match Nat.ble (q.1 + q.2.1) xs.length with
      | true => some (.d (.ptr (.agg ((xs.drop q.1).take q.2.1))))
      | false => none
    | false => match xs[q.1]? with
      | some y => some (.d (.ptr y))
      | none => none
  | .ref id o => some (.ref id (o + q.1))
  | _ => none
def plainS : SV -> Option SV
  | .junk => some .junk
  | .und => some .und
  | .d x => some (.d x)
  | .ref a b => some (.ref a b)
  | .own a => some (.own a)
  | .elt a b => some (.elt a b)
  | .sub a b => some (.sub a b)
  | .cel a b c => some (.cel a b c)
  | .agg l => some (.agg l)
  | .tup l => some (.tup l)
  | .fn f l => some (.fn f l)
theorem plainS_eq {x y : SV} (h : plainS x = some y) : y = x := by cases x <;> simp [plainS] at h <;> exact h.symm
def evField (q : Nat × Nat × Bool) : SV -> Option SV
  | .d (.agg xs) => match q.2.2 with
    | true => some (.d (.agg ((xs.drop q.1).take q.2.1)))
    | false => match xs[q.1]? with
      | some y => some (.d y)
      | none => none
  | .agg l => match q.2.2 with
    | true => some (.agg ((l.drop q.1).take q.2.1))
    | false => match l[q.1]? with
      | some y => plainS y
      | none => none
  | _ => none
def evLen (ty : TR) (h : Heap) : SV -> Option SV
  | .d (.lst xs) => match ty.isSl with
    | true => some (.d (.int .i64 xs.length))
    | false => none
  | .d .nils => match ty.isSl with
    | true => some (.d (.int .i64 0))
    | false => none
  | .d (.str l) => match ty.isStr with
    | true => some (.d (.int .i64 l.length))
    | false => none
  | .own id => match ty.isSl with
    | true => match h.get id with
      | some (.arr _ _ xs) => some (.d (.int .i64 xs.length))
      | some (.rows _ _ _ xss _) => some (.d (.int .i64 xss.length))
      | _ => none
    | false => match ty.mp with
      | some _ => match h.get id with
        | some (.map kvs) => some (.d (.int .i64 kvs.length))
        | _ => none
      | none => none
  | .sub id i => match ty.isSl with
    | true => match h.get id with
      | some (.rows _ _ _ xss _) => match xss[i]? with
        | some xs => some (.d (.int .i64 xs.length))
        | none => none
      | _ => none
    | false => none
  | .d (.rowb _ _ _ xs) => match ty.isSl with
    | true => some (.d (.int .i64 xs.length))
    | false => none
  | .d (.map kvs) => match ty.mp with
    | some _ => some (.d (.int .i64 kvs.length))
    | none => none
  | _ => none
def evCall (T : List (Nat × TR)) (h : Heap) (r : Operand -> SV) (c : Call) : Option SV :=
  match c.callee with
  | .builtin .len => match c.args with
    | ⟨[x]⟩ => match c.argTypes with
      | ⟨[t]⟩ => match tget T t with
        | some ty => evLen ty h (r x)
        | none => none
      | _ => none
    | _ => none
  | _ => none
def ev (T : List (Nat × TR)) (h : Heap) (r : Operand -> SV) : Op -> Option SV
  | .move x => plainS (r x)
  | .assign x => plainS (r x)
  | .pick c x y => match r c with
    | .d (.bool true) => plainS (r x)
    | .d (.bool false) => plainS (r y)
    | _ => none
  | .load t x => match tget T t with
    | some ty => evLoad ty h (r x)
    | none => none
  | .fieldAddr t x f => match tget T t with
    | some ty => match ty.fields[f]? with
      | some q => evFieldAddr q (r x)
      | none => none
    | none => none
  | .field t x f => match tget T t with
    | some ty => match ty.fields[f]? with
      | some q => evField q (r x)
      | none => none
    | none => none
  | .nilCheck x => evNil (r x)
  | .binOp op t x y _ => match evBin op (r x) (r y) with
    | some v => some v
    | none => evBoolEq T t op (r x) (r y)
  | .unOp op _ x => evUn op (r x)
  | .convert s t x => match tget T t with
    | some ty => match ty.kind with
      | some k => match tget T s with
        | some _ => match r x with
          | .d (.int _ n) => some (.d (.int k (k.wrap n)))
          | _ => none
        | none => none
      | none => none
    | none => none
  | .extract x i => match r x with
    | .d (.tup xs) => match xs[i]? with
      | some y => some (.d y)
      | none => none
    | .tup l => match l[i]? with
      | some y => plainS y
      | none => none
    | _ => none
  | .makeFunc fn first cap => match fn with
    | .func f => match first with
      | ⟨[]⟩ => match allD (cap.toList.map r) with
        | some xs => some (.d (.fn f xs))
        | none => some (.fn f (cap.toList.map r))
      | _ => none
    | _ => none
  | .call c => evCall T h r c
  | _ => none
section
variable {P : Program} {σ : Nat -> Loc} {h : Heap} {ok : Nat -> Prop} {w : World}
theorem beqd {α : Type} [BEq α] [LawfulBEq α] [DecidableEq α] (a b : α) : (a == b) = decide (a = b) := by rw [Bool.eq_iff_iff]; simp
theorem ex_int {m : Sem Value} {k : IntKind} {n : Int} (hm : m.run P w = .ok (.int k n) w) : ∃ z, m.run P w = .ok z w /\ RepSV σ h ok w z (.d (.int k n)) := ⟨_, hm, RepD.int _ _⟩
theorem ex_bool {m : Sem Value} {b : Bool} (hm : m.run P w = .ok (.bool b) w) : ∃ z, m.run P w = .ok z w /\ RepSV σ h ok w z (.d (.bool b)) := ⟨_, hm, RepD.bool _⟩
theorem evBin_sound {op : BinOp} {x y : SV} {sv : SV} (he : evBin op x y = some sv) {u v : Value} (hu : RepSV σ h ok w u x) (hv : RepSV σ h ok w v y) (t : TypeId) (p q : Operand) :
    ∃ z, (do eqGuard op t p q u v; binOp op t u v : Sem Value).run P w = .ok z w /\ RepSV σ h ok w z sv := by
  unfold evBin at he
  split at he
  . rename_i k a k' b
    have := RepD.int_inv hu
    have := RepD.int_inv hv
    subst u v
    cases hk : sameK k k' with
    | false => rw [hk] at he; cases he
    | true =>
      rw [hk] at he
      have := sameK_eq hk
      subst this
      cases op <;> simp only [Option.some.injEq, reduceCtorEq] at he <;> subst he <;>
        first
        | exact ex_int (by simp [eqGuard, binOp, Op.intArith])
        | exact ex_bool (by simp [eqGuard, binOp, Op.intCmp, bne, beqd])
  . rename_i a b
    have := RepD.str_inv hu
    have := RepD.str_inv hv
    subst u v
    cases op <;> simp only [Option.some.injEq, reduceCtorEq] at he <;> subst he
    . exact ex_bool (by simp [eqGuard, binOp, Op.stringOp, beqd])
    . exact ex_bool (by simp [eqGuard, binOp, Op.stringOp, beqd])
  . cases he
theorem add_block (b off n : Nat) : (⟨b, off, none⟩ : Addr).add n = ⟨b, off + n, none⟩ := by
  unfold Addr.add
  split
  . rename_i e; subst e; rfl
  . rfl
theorem run_isAgg {t : TypeId} {d : TypeDesc} (hd : P.underlying t = some d) : (isAgg t).run P w = .ok (isAggD d) w := by
  unfold isAgg
  rw [Sem.run_bind, run_underlying hd w]
  cases d <;> rfl
theorem cell_at {b off : Nat} {cells : Array Value} {e : Nat} {fr : Nat × Nat} (hb : w.heap[b]? = some (.cells cells e fr)) : w.cell? ⟨b, off, none⟩ = cells[off]? := by
  simp [World.cell?, hb]
theorem load_ptr {t : TypeId} {ty : TR} (ht : trOk P t ty = true) {v : Value} {y : D} (hv : RepD ok w v (.ptr y))
    (hy : (ty.agg = false /\ y.one = true) \/ (ty.agg = true /\ ∃ xs, y = .agg xs /\ xs.length = ty.size)) : ∃ z, (Instr.loadAt t v).run P w = .ok z w /\ RepD ok w z y := by
  obtain ⟨d, i, hd, hi, h1, h2, -⟩ := tr_facts ht
  cases hv with
  | ptr b off u x cells e fr k1 k2 k3 k4 =>
    refine ⟨u, ?_, k4⟩
    rcases hy with ⟨ha, hy⟩ | ⟨ha, xs, rfl, hl⟩
    . have hc := k4.oneCell hy
      have h0 := k3 0 (by rw [hc]; simp)
      rw [hc] at h0
      simp only [Nat.add_zero] at h0
      simp only [Instr.loadAt, Instr.sureAddr, Sem.run_bind, Sem.run_pure, Result.andThen_ok, loadVar, run_isAgg hd, h1, ha, Bool.false_eq_true, if_false, run_load, cell_at k2, h0]
      simp
    . cases k4 with
      | agg cs xs' j1 j2 j3 =>
        have hcs : (Value.agg cs).cells = cs := rfl
        rw [hcs] at k3
        have hl' : (loadCells ⟨b, off, none⟩ cs.toList.length).run P w = .ok cs.toList.toArray w :=
          run_loadCells_list (P := P) w ⟨b, off, none⟩ cs.toList (fun j v hv => by
            rw [add_block, cell_at k2]
            have hj : j < cs.size := by
              rcases Nat.lt_or_ge j cs.size with h | h
              . exact h
              . simp [h] at hv
            rw [k3 j hj]
            simpa using hv)
        have hsz : i.size = cs.toList.length := by rw [h2, <- hl, <- j1]; simp
        simp only [Instr.loadAt, Instr.sureAddr, Sem.run_bind, Sem.run_pure, Result.andThen_ok, loadVar, run_isAgg hd, h1, ha, if_true, sizeOf, typeInfo, run_program, hi, hsz, hl']
theorem go_map {r : Nat} {es : Array MapEntry} {clock : Nat} (hb : w.heap[r]? = some (.map es clock)) : (getObj r).run P w = .ok (.map es clock) w := by simp [getObj, Sem.run, hb]
theorem RepSVs.get : ∀ {l : List SV} {one : Bool} {vs : List Value}, RepSVs σ h ok w one vs l -> vs.length = l.length /\ ∀ (i : Nat) v x, vs[i]? = some v -> l[i]? = some x -> RepSV σ h ok w v x /\ (one = true -> v.oneCell' = true)
  | [], _, _, hh => by
    unfold RepSVs at hh
    subst hh
    exact ⟨rfl, by simp⟩
  | x :: l, one, _, hh => by
    unfold RepSVs at hh
    obtain ⟨v, vs', rfl, h1, h2, h3⟩ := hh
    obtain ⟨k1, k2⟩ := RepSVs.get h3
    refine ⟨by simp [k1], fun i v' x' hv hx => ?_⟩
    cases i with
    | zero => simp at hv hx; subst hv hx; exact ⟨h1, h2⟩
    | succ i => exact k2 i v' x' (by simpa using hv) (by simpa using hx)
theorem RepSVs.mk : ∀ {l : List SV} {one : Bool} {vs : List Value}, vs.length = l.length -> (∀ (i : Nat) v x, vs[i]? = some v -> l[i]? = some x -> RepSV σ h ok w v x /\ (one = true -> v.oneCell' = true)) -> RepSVs σ h ok w one vs l
  | [], _, vs, hl, _ => by
    unfold RepSVs
    exact List.eq_nil_of_length_eq_zero hl
  | x :: l, one, [], hl, _ => by simp at hl
  | x :: l, one, v :: vs, hl, hh => by
    unfold RepSVs
    exact ⟨v, vs, rfl, (hh 0 v x rfl rfl).1, (hh 0 v x rfl rfl).2, RepSVs.mk (by simpa using hl) fun i v' x' hv hx => hh (i + 1) v' x' (by simpa using hv) (by simpa using hx)⟩
theorem get_mem {h : Heap} {id : Nat} {c : Chunk} (hg : h.get id = some c) : ∃ p ∈ h, p.1 = id /\ p.2 = c := by
  induction h with
  | nil => cases hg
  | cons p h ih =>
    simp only [Heap.get] at hg
    split at hg
    . rename_i e; exact ⟨p, List.mem_cons_self .., e, Option.some.inj hg⟩
    . obtain ⟨q, h1, h2⟩ := ih hg; exact ⟨q, List.mem_cons_of_mem _ h1, h2⟩
theorem evLoad_sound {t : TypeId} {ty : TR} (ht : trOk P t ty = true) {x sv : SV} (he : evLoad ty h x = some sv) {u : Value} (hu : RepSV σ h ok w u x)
    (hh : ∀ p ∈ h, RepChunk σ h ok w (σ p.1) p.2) : ∃ z, (Instr.loadAt t u).run P w = .ok z w /\ RepSV σ h ok w z sv := by
  unfold evLoad at he
  split at he
  . rename_i y
    cases ha : ty.agg with
    | true =>
      rw [ha] at he
      cases y <;> simp only [reduceCtorEq] at he
      rename_i xs
      cases hl : Nat.beq xs.length ty.size with
      | false => rw [hl] at he; cases he
      | true =>
        rw [hl] at he
        simp only [Option.some.injEq] at he
        subst he
        exact load_ptr ht hu (.inr ⟨ha, xs, rfl, Nat.eq_of_beq_eq_true hl⟩)
    | false =>
      rw [ha] at he
      cases hy : y.one with
      | false => simp [hy] at he
      | true =>
        simp only [hy, Option.some.injEq] at he
        subst he
        exact load_ptr ht hu (.inl ⟨ha, hy⟩)
  . rename_i id off
    cases ha : ty.agg with
    | true => rw [ha] at he; cases he
    | false =>
      rw [ha] at he
      simp only at he
      split at he
      . rename_i cells hg
        obtain ⟨p, hp, rfl, hp2⟩ := get_mem hg
        have hc := hh p hp
        rw [hp2] at hc
        obtain ⟨_, cs, tt, c1, c2, c3⟩ := hc
        obtain ⟨d, i, hd, hi, h1, h2, -⟩ := tr_facts ht
        have hu' : u = .pointer (some ⟨(σ p.1).b, off, none⟩) := hu
        subst hu'
        have hlt : off < cs.size := by
          rw [c2]
          rcases Nat.lt_or_ge off cells.length with hh | hh
          . exact hh
          . simp [hh] at he
        have hcs : cs[off]? = some cs[off] := Array.getElem?_eq_getElem hlt
        refine ⟨cs[off], ?_, (c3 off _ _ hcs he).1⟩
        simp only [Instr.loadAt, Instr.sureAddr, Sem.run_bind, Sem.run_pure, Result.andThen_ok, loadVar, run_isAgg hd, h1, ha, Bool.false_eq_true, if_false, run_load, cell_at c1, hcs]
      . cases he
  . cases he
theorem evFieldAddr_sound {t : TypeId} {ty : TR} (ht : trOk P t ty = true) {f : Nat} {q : Nat × Nat × Bool} (hq : ty.fields[f]? = some q) {x sv : SV} (he : evFieldAddr q x = some sv) {u : Value} (hu : RepSV σ h ok w u x) :
    ∃ z, (Instr.fieldAt t u f).run P w = .ok z w /\ RepSV σ h ok w z sv := by
  obtain ⟨d, i, hd, hi, -, -, -, -, -, -, h5, -⟩ := tr_facts ht
  obtain ⟨fs, fl, rfl, hf1, hf2⟩ := h5 q f hq
  obtain ⟨qo, qs, qa⟩ := q
  unfold fieldIs at hf2
  simp only [Bool.and_eq_true, beq_iff_eq] at hf2
  obtain ⟨ho, hf2⟩ := hf2
  split at hf2
  . rename_i d' i' hd' hi'
    simp only [Bool.and_eq_true, beq_iff_eq, decide_eq_true_eq, Bool.or_eq_true] at hf2
    obtain ⟨⟨⟨g1, g2⟩, g3⟩, g4⟩ := hf2
    have run : ∀ b off, (Instr.fieldAt t (.pointer (some ⟨b, off, none⟩)) f).run P w = .ok (.pointer (some ⟨b, off + qo, none⟩)) w := fun b off => by
      have g3' : ¬ i'.size = 0 := by omega
      simp only [Instr.fieldAt, Instr.sureAddr, Sem.run_bind, run_underlying hd, Result.andThen_ok, hf1, Sem.run_pure, fieldPlace, sizeOf, typeInfo, run_program, hi', g3', if_false, add_block, ho]
    unfold evFieldAddr at he
    split at he
    . rename_i xs
      simp only at he
      have hu' : RepD ok w u (.ptr (.agg xs)) := hu
      cases hu' with
      | ptr b off v y cells e fr k1 k2 k3 k4 =>
        refine ⟨_, run b off, ?_⟩
        cases k4 with
        | agg cs ys j1 j2 j3 =>
          simp only [Value.cells] at k3
          cases qa with
          | true =>
            simp only at he
            cases hl : Nat.ble (qo + qs) xs.length with
            | false => rw [hl] at he; cases he
            | true =>
              rw [hl] at he
              have hl' := Nat.le_of_ble_eq_true hl
              simp only [Option.some.injEq] at he
              subst he
              refine RepD.ptr b (off + qo) (.agg (cs.extract qo (qo + qs))) _ cells e fr k1 k2 (fun j hj => ?_) (.agg _ _ ?_ ?_ ?_)
              . simp only [Value.cells, Array.size_extract] at hj ⊢
                rw [Nat.add_assoc, k3 (qo + j) (by omega), Array.getElem?_extract]
                rw [if_pos (by omega)]
              . simp; omega
              . intro z hz; exact j2 z (List.mem_of_mem_drop (List.mem_of_mem_take hz))
              . intro k v z hv hz
                rw [Array.getElem?_extract] at hv
                rw [List.getElem?_take] at hz
                split at hv
                . split at hz
                  . rw [List.getElem?_drop] at hz
                    exact j3 (qo + k) v z hv hz
                  . cases hz
                . cases hv
          | false =>
            simp only at he
            have hq1 : qs = 1 := by simpa using g4
            split at he
            . rename_i y hy
              simp only [Option.some.injEq] at he
              subst he
              have hlt : qo < cs.size := by
                rw [j1]
                rcases Nat.lt_or_ge qo xs.length with hh | hh
                . exact hh
                . simp [hh] at hy
              have hcs : cs[qo]? = some cs[qo] := Array.getElem?_eq_getElem hlt
              have hr := j3 qo _ _ hcs hy
              have hone := hr.oneCell (j2 y (List.mem_of_getElem? hy))
              refine RepD.ptr b (off + qo) cs[qo] y cells e fr k1 k2 (fun j hj => ?_) hr
              rw [hone] at hj ⊢
              have : j = 0 := by simpa using hj
              subst this
              simp only [Nat.add_zero]
              rw [k3 qo hlt, hcs]
              simp
            . cases he
    . rename_i id o
      simp only [Option.some.injEq] at he
      subst he
      have hu' : u = .pointer (some ⟨(σ id).b, o, none⟩) := hu
      subst hu'
      exact ⟨_, run _ _, rfl⟩
    . cases he
  . cases hf2
theorem evField_sound {t : TypeId} {ty : TR} (ht : trOk P t ty = true) {f : Nat} {q : Nat × Nat × Bool} (hq : ty.fields[f]? = some q) {x sv : SV} (he : evField q x = some sv) {u : Value} (hu : RepSV σ h ok w u x) :
    ∃ z, (Instr.field t u f).run P w = .ok z w /\ RepSV σ h ok w z sv := by
  obtain ⟨d, i, hd, hi, -, -, -, -, -, -, h5, -⟩ := tr_facts ht
  obtain ⟨fs, fl, rfl, hf1, hf2⟩ := h5 q f hq
  obtain ⟨qo, qs, qa⟩ := q
  unfold fieldIs at hf2
  simp only [Bool.and_eq_true, beq_iff_eq] at hf2
  obtain ⟨ho, hf2⟩ := hf2
  split at hf2
  . rename_i d' i' hd' hi'
    simp only [Bool.and_eq_true, beq_iff_eq, decide_eq_true_eq, Bool.or_eq_true] at hf2
    obtain ⟨⟨⟨g1, g2⟩, g3⟩, g4⟩ := hf2
    unfold evField at he
    split at he
    . rename_i xs
      simp only at he
      have hu' : RepD ok w u (.agg xs) := hu
      cases hu' with
      | agg cs ys j1 j2 j3 =>
        cases qa with
        | true =>
          simp only [Option.some.injEq] at he
          subst he
          refine ⟨.agg (cs.extract qo (qo + qs)), ?_, .agg _ _ ?_ ?_ ?_⟩
          . simp only [Instr.field, Sem.run_bind, run_underlying hd, Result.andThen_ok, hf1, asAgg, Sem.run_pure, part, run_isAgg hd', g1, if_true, sizeOf, typeInfo, run_program, hi', g2, ho]
          . simp; omega
          . intro z hz; exact j2 z (List.mem_of_mem_drop (List.mem_of_mem_take hz))
          . intro k v z hv hz
            rw [Array.getElem?_extract] at hv
            rw [List.getElem?_take] at hz
            split at hv
            . split at hz
              . rw [List.getElem?_drop] at hz
                exact j3 (qo + k) v z hv hz
              . cases hz
            . cases hv
        | false =>
          simp only at he
          split at he
          . rename_i y hy
            simp only [Option.some.injEq] at he
            subst he
            have hlt : qo < cs.size := by
              rw [j1]
              rcases Nat.lt_or_ge qo xs.length with hh | hh
              . exact hh
              . simp [hh] at hy
            have hcs : cs[qo]? = some cs[qo] := Array.getElem?_eq_getElem hlt
            refine ⟨cs[qo], ?_, j3 qo _ _ hcs hy⟩
            simp only [Instr.field, Sem.run_bind, run_underlying hd, Result.andThen_ok, hf1, asAgg, Sem.run_pure, part, run_isAgg hd', g1, Bool.false_eq_true, if_false, ho, hcs]
          . cases he
    . rename_i l
      simp only at he
      obtain ⟨cs, rfl, hl⟩ := hu
      obtain ⟨k1, k2⟩ := RepSVs.get hl
      have k1' : cs.size = l.length := k1
      cases qa with
      | true =>
        simp only [Option.some.injEq] at he
        subst he
        refine ⟨.agg (cs.extract qo (qo + qs)), ?_, ⟨_, rfl, ?_⟩⟩
        . simp only [Instr.field, Sem.run_bind, run_underlying hd, Result.andThen_ok, hf1, asAgg, Sem.run_pure, part, run_isAgg hd', g1, if_true, sizeOf, typeInfo, run_program, hi', g2, ho]
        . refine RepSVs.mk (by simp; omega) fun k v z hv hz => ?_
          simp only [Array.toList_extract, List.extract_eq_take_drop] at hv
          rw [List.getElem?_take] at hv hz
          split at hv
          . split at hz
            . rw [List.getElem?_drop] at hv hz
              exact k2 (qo + k) v z hv hz
            . cases hz
          . cases hv
      | false =>
        simp only at he
        split at he
        . rename_i y hy
          have he := plainS_eq he
          subst he
          have hlt : qo < cs.size := by
            rw [k1']
            rcases Nat.lt_or_ge qo l.length with hh | hh
            . exact hh
            . simp [hh] at hy
          have hcs : cs[qo]? = some cs[qo] := Array.getElem?_eq_getElem hlt
          refine ⟨cs[qo], ?_, (k2 qo cs[qo] _ (by simp) hy).1⟩
          simp only [Instr.field, Sem.run_bind, run_underlying hd, Result.andThen_ok, hf1, asAgg, Sem.run_pure, part, run_isAgg hd', g1, Bool.false_eq_true, if_false, ho, hcs]
        . cases he
    . cases he
  . cases hf2
theorem run_equal_bool {t : Nat} {a b : Bool} (hd : P.underlying t = some .bool) : (Op.equal t (.bool a) (.bool b)).run P w = .ok (a == b) w := by
  unfold Op.equal Op.maxDepth
  rw [show (10000 : Nat) = 9999 + 1 from rfl, Op.equalIn]
  simp only [Sem.run_bind, run_underlying hd, Result.andThen_ok, Sem.run_pure]
theorem evBoolEq_sound {T : List (Nat × TR)} (hT : tabOk P T = true) {t : Nat} {op : BinOp} {x y : SV} {sv : SV} (he : evBoolEq T t op x y = some sv) {u v : Value} (hu : RepSV σ h ok w u x) (hv : RepSV σ h ok w v y) (p q : Operand) :
    ∃ z, (do eqGuard op t p q u v; binOp op t u v : Sem Value).run P w = .ok z w /\ RepSV σ h ok w z sv := by
  unfold evBoolEq at he
  split at he
  . rename_i a b
    have := RepD.bool_inv hu
    have := RepD.bool_inv hv
    subst u v
    split at he
    . rename_i ty ht
      split at he
      . rename_i hb
        obtain ⟨d, i, hd, _, _, _, _, _, _, hbb, _⟩ := tr_facts (tget_ok hT ht)
        have := hbb hb
        subst this
        cases op <;> simp only [Option.some.injEq, reduceCtorEq] at he <;> subst he
        . exact ex_bool (by simp only [eqGuard, binOp, Sem.run_bind, Sem.run_pure, Result.andThen_ok, run_equal_bool hd]; rfl)
        . exact ex_bool (by simp only [eqGuard, binOp, Sem.run_bind, Sem.run_pure, Result.andThen_ok, run_equal_bool hd]; rfl)
      . cases he
    . cases he
  . cases he
theorem evNil_sound {dst : Option Nat} {x : Operand} {ty : Nat} {pos : String} {af : Array Edge} {g : Option (Nat × Bool)} {ρ : Operand -> Value} {sv0 sv : SV} (he : evNil sv0 = some sv) (hu : RepSV σ h ok w (ρ x) sv0) :
    ∃ z, (execOp ρ ⟨dst, .nilCheck x, ty, pos, af, g⟩).run P w = .ok (.value z) w /\ RepSV σ h ok w z sv := by
  unfold evNil at he
  split at he
  . simp only [Option.some.injEq] at he
    subst he
    have hu' : RepD ok w (ρ x) (.ptr _) := hu
    generalize hz : ρ x = z at hu'
    cases hu' with
    | ptr b off v y' cells e fr k1 k2 k3 k4 => exact ⟨.pointer (some ⟨b, off, none⟩), by simp [execOp, hz], RepD.ptr b off v _ cells e fr k1 k2 k3 k4⟩
  . simp only [Option.some.injEq] at he
    subst he
    have hu' : ρ x = _ := hu
    exact ⟨ρ x, by simp [execOp, hu'], hu⟩
  . cases he
theorem evUn_sound {op : UnOp} {x : SV} {sv : SV} (he : evUn op x = some sv) {u : Value} (hu : RepSV σ h ok w u x) : ∃ z, (Op.unary op u).run P w = .ok z w /\ RepSV σ h ok w z sv := by
  unfold evUn at he
  split at he
  . have := RepD.bool_inv hu
    subst u
    cases op <;> simp only [Option.some.injEq, reduceCtorEq] at he <;> subst he
    exact ex_bool (by simp [Op.unary])
  . have := RepD.int_inv hu
    subst u
    cases op <;> simp only [Option.some.injEq, reduceCtorEq] at he <;> subst he
    exact ex_int (by simp [Op.unary, Op.intArith])
  . cases he
theorem allD_rep {vs : List Value} {l : List SV} {xs : List D} (ha : allD l = some xs) (hl : vs.length = l.length) (hr : ∀ (i : Nat) v x, vs[i]? = some v -> l[i]? = some x -> RepSV σ h ok w v x) :
    vs.length = xs.length /\ ∀ (i : Nat) v x, vs[i]? = some v -> xs[i]? = some x -> RepD ok w v x := by
  induction l generalizing vs xs with
  | nil => simp only [allD, Option.some.injEq] at ha; subst ha; exact ⟨hl, by simp⟩
  | cons y l ih =>
    cases vs with
    | nil => simp at hl
    | cons v vs =>
      cases y with
      | d x =>
        simp only [allD] at ha
        cases hx : allD l with
        | none => rw [hx] at ha; cases ha
        | some ys =>
          rw [hx] at ha
          simp only [Option.some.injEq] at ha
          subst ha
          obtain ⟨h1, h2⟩ := ih hx (by simpa using hl) (fun i v' x' hv hx => hr (i + 1) v' x' (by simpa using hv) (by simpa using hx))
          refine ⟨by simp [h1], fun i v' x' hv hx => ?_⟩
          cases i with
          | zero => simp at hv hx; subst hv hx; exact hr 0 v (.d x) rfl rfl
          | succ i => exact h2 i v' x' (by simpa using hv) (by simpa using hx)
      | _ => simp [allD] at ha
theorem slice_len {v : Value} {xs : List D} (hv : RepD ok w v (.lst xs)) : ∃ a c, v = .slice a xs.length c := by
  cases hv with
  | nil0 => exact ⟨none, 0, rfl⟩
  | emp a cap => exact ⟨some a, cap, rfl⟩
  | lst b off cap n cells e fr xs vs sz _ _ _ h4 => subst h4; exact ⟨_, _, rfl⟩
theorem size_mk (l : List UInt8) : (⟨l.toArray⟩ : ByteArray).size = l.length := rfl
theorem evLen_sound {t : TypeId} {ty : TR} (ht : trOk P t ty = true) {x sv : SV} (he : evLen ty h x = some sv) {u : Value} (hu : RepSV σ h ok w u x) (rt : TypeId) (hh : ∀ p ∈ h, RepChunk σ h ok w (σ p.1) p.2) :
    ∃ z, (Builtin.len_ #[t] rt #[u]).run P w = .ok z w /\ RepSV σ h ok w z sv := by
  obtain ⟨d, i, hd, hi, -, -, -, hsl, hstr, -⟩ := tr_facts ht
  unfold evLen at he
  split at he
  . rename_i xs
    cases hs : ty.isSl with
    | false => rw [hs] at he; cases he
    | true =>
      rw [hs] at he
      simp only [Option.some.injEq] at he
      subst he
      have hdd := hsl hs
      subst hdd
      obtain ⟨a, c, rfl⟩ := slice_len hu
      exact ex_int (by simp [Builtin.len_, run_underlying hd, goInt])
  . cases hs : ty.isSl with
    | false => rw [hs] at he; cases he
    | true =>
      rw [hs] at he
      simp only [Option.some.injEq] at he
      subst he
      have hdd := hsl hs
      subst hdd
      have := RepD.nils_inv hu
      subst this
      exact ex_int (by simp [Builtin.len_, run_underlying hd, goInt])
  . cases hs : ty.isStr with
    | false => rw [hs] at he; cases he
    | true =>
      rw [hs] at he
      simp only [Option.some.injEq] at he
      subst he
      have hdd := hstr hs
      subst hdd
      have := RepD.str_inv hu
      subst this
      exact ex_int (by simp [Builtin.len_, run_underlying hd, goInt, size_mk])
  . rename_i id
    cases hs : ty.isSl with
    | false =>
      rw [hs] at he
      simp only at he
      split at he
      . rename_i km hm
        obtain ⟨k', e'⟩ := km
        have hdm := tr_map ht hm
        split at he
        . rename_i kvs hg
          simp only [Option.some.injEq] at he
          subst he
          simp only [RepSV, hg] at hu
          subst hu
          obtain ⟨p, hp, rfl, hp2⟩ := get_mem hg
          have hc := hh p hp
          rw [hp2] at hc
          obtain ⟨es, clock, m1, m2, _⟩ := hc
          exact ex_int (by simp [Builtin.len_, run_underlying hdm, go_map m1, goInt, m2])
        . cases he
      . cases he
    | true =>
      rw [hs] at he
      simp only at he
      have hdd := hsl hs
      subst hdd
      have fin : ∀ (e sz n : Nat) (l : Loc) (cl : List Value), w.ownsRow 0 e sz (sliceAt l n) n cl -> u = sliceAt l n -> ∃ z, (Builtin.len_ #[t] rt #[u]).run P w = .ok z w /\ RepSV σ h ok w z (.d (.int .i64 n)) := fun e sz n l cl ho hul => by
        subst hul
        obtain ⟨_, ho⟩ := ho
        rcases ho with ⟨ho, ho2⟩ | ⟨g, cap, cur, ho, _⟩
        . rw [ho, ho2]; exact ex_int (by simp [Builtin.len_, run_underlying hd, goInt])
        . rw [ho]; exact ex_int (by simp [Builtin.len_, run_underlying hd, goInt])
      split at he
      . rename_i e sz xs hg
        simp only [Option.some.injEq] at he
        subst he
        simp only [RepSV, hg] at hu
        obtain ⟨p, hp, rfl, hp2⟩ := get_mem hg
        have hc := hh p hp
        rw [hp2] at hc
        obtain ⟨_, cl, ho, _⟩ := hc
        exact fin _ _ _ _ _ ho hu
      . rename_i e e' sz xss hole hg
        simp only [Option.some.injEq] at he
        subst he
        simp only [RepSV, hg] at hu
        obtain ⟨p, hp, rfl, hp2⟩ := get_mem hg
        have hc := hh p hp
        rw [hp2] at hc
        obtain ⟨_, _, ⟨cl, ho, _⟩, _, _⟩ := hc
        exact fin _ _ _ _ _ ho hu
      . cases he
  . rename_i id i
    cases hs : ty.isSl with
    | false => rw [hs] at he; cases he
    | true =>
      rw [hs] at he
      simp only at he
      have hdd := hsl hs
      subst hdd
      split at he
      . rename_i e e' sz xss hole hg
        split at he
        . rename_i xs hx
          simp only [Option.some.injEq] at he
          subst he
          simp only [RepSV, hg, hx, Option.some.injEq] at hu
          obtain ⟨q, xs', hq, rfl, rfl⟩ := hu
          obtain ⟨p, hp, rfl, hp2⟩ := get_mem hg
          have hc := hh p hp
          rw [hp2] at hc
          obtain ⟨_, _, ⟨cl, _, ho⟩, _, _⟩ := hc
          have hnil := (ho i q xs hq hx).2
          unfold sliceAt kidLoc
          by_cases hn : q.2.2 = true
          . simp only [hn, if_true, hnil hn]
            exact ex_int (by simp [Builtin.len_, run_underlying hd, goInt])
          . simp only [hn, if_false]
            exact ex_int (by simp [Builtin.len_, run_underlying hd, goInt])
        . cases he
      . cases he
  . rename_i b xs
    cases hs : ty.isSl with
    | false => rw [hs] at he; cases he
    | true =>
      rw [hs] at he
      simp only [Option.some.injEq] at he
      subst he
      have hdd := hsl hs
      subst hdd
      cases hu with
      | rowb b cap n cells e xs vs sz _ _ _ h4 => subst h4; exact ex_int (by simp [Builtin.len_, run_underlying hd, goInt])
  . rename_i kvs
    split at he
    . rename_i km hm
      obtain ⟨k', e'⟩ := km
      have hdm := tr_map ht hm
      simp only [Option.some.injEq] at he
      subst he
      cases hu with
      | map b es clock kvs h1 h2 h3 _ _ => exact ex_int (by simp [Builtin.len_, run_underlying hdm, go_map h2, goInt, h3])
    . cases he
  . cases he
theorem map_toList_arr (ρ : Operand -> Value) (xs : Array Operand) : (xs.map ρ).toList = xs.toList.map ρ := by simp
theorem ev_sound {T : List (Nat × TR)} (hT : tabOk P T = true) {o : Oper} {r : Operand -> SV} {ρ : Operand -> Value} {sv : SV} (he : ev T h r o.op = some sv)
    (hr : ∀ x ∈ o.op.operands, RepSV σ h ok w (ρ x) (r x)) (hh : ∀ p ∈ h, RepChunk σ h ok w (σ p.1) p.2) :
    ∃ z, (execOp ρ o).run P w = .ok (.value z) w /\ RepSV σ h ok w z sv := by
  have lift : ∀ {m : Sem Value}, (∃ z, m.run P w = .ok z w /\ RepSV σ h ok w z sv) -> ∃ z, ((do pure (.value (<- m)) : Sem Next)).run P w = .ok (.value z) w /\ RepSV σ h ok w z sv := by
    rintro m ⟨z, h1, h2⟩
    exact ⟨z, by simp [h1], h2⟩
  obtain ⟨dst, op, type, pos, after, guard⟩ := o
  simp only at he hr
  cases op <;> simp only [ev, reduceCtorEq, Option.some.injEq] at he <;> simp only [execOp]
  case move x => rw [plainS_eq he]; exact ⟨_, rfl, hr x (by simp [Op.operands])⟩
  case assign x => rw [plainS_eq he]; exact ⟨_, rfl, hr x (by simp [Op.operands])⟩
  case pick c x y =>
    have hc := hr c (by simp [Op.operands])
    split at he
    . rename_i e
      rw [e] at hc
      have := RepD.bool_inv hc
      rw [plainS_eq he]
      exact ⟨ρ x, by simp [this, asBool], hr x (by simp [Op.operands])⟩
    . rename_i e
      rw [e] at hc
      have := RepD.bool_inv hc
      rw [plainS_eq he]
      exact ⟨ρ y, by simp [this, asBool], hr y (by simp [Op.operands])⟩
    . cases he
  case load t x =>
    split at he
    . rename_i ty ht
      exact lift (evLoad_sound (tget_ok hT ht) he (hr x (by simp [Op.operands])) hh)
    . cases he
  case fieldAddr t x f =>
    split at he
    . rename_i ty ht
      split at he
      . rename_i q hq
        exact lift (evFieldAddr_sound (tget_ok hT ht) hq he (hr x (by simp [Op.operands])))
      . cases he
    . cases he
  case field t x f =>
    split at he
    . rename_i ty ht
      split at he
      . rename_i q hq
        exact lift (evField_sound (tget_ok hT ht) hq he (hr x (by simp [Op.operands])))
      . cases he
    . cases he
  case nilCheck x => exact evNil_sound (dst := dst) (ty := type) (pos := pos) (af := after) (g := guard) he (hr x (by simp [Op.operands]))
  case binOp op t x y t' =>
    split at he
    . rename_i v hv
      simp only [Option.some.injEq] at he
      subst he
      exact lift (evBin_sound hv (hr x (by simp [Op.operands])) (hr y (by simp [Op.operands])) t x y)
    . exact lift (evBoolEq_sound hT he (hr x (by simp [Op.operands])) (hr y (by simp [Op.operands])) x y)
  case unOp op t x => exact lift (evUn_sound he (hr x (by simp [Op.operands])))
  case convert s t x =>
    split at he
    . rename_i ty ht
      split at he
      . rename_i k hk
        split at he
        . rename_i ty' ht'
          split at he
          . rename_i k' n e
            simp only [Option.some.injEq] at he
            subst he
            have hx := hr x (by simp [Op.operands])
            rw [e] at hx
            have hx' := RepD.int_inv hx
            obtain ⟨d, i, hd, hi, -, -, -, -, -, -, -, hk', -⟩ := tr_facts (tget_ok hT ht)
            obtain ⟨d', i', hd', -⟩ := tr_facts (tget_ok hT ht')
            have hdk := hk' k hk
            subst hdk
            refine lift ?_
            rw [hx']
            refine ex_int ?_
            simp only [convert, Sem.run_bind, run_underlying hd, run_underlying hd', Result.andThen_ok]
            cases d' <;> simp [Conv.intToInt]
          . cases he
        . cases he
      . cases he
    . cases he
  case extract x i =>
    split at he
    . rename_i xs e
      split at he
      . rename_i y hy
        simp only [Option.some.injEq] at he
        subst he
        have hx := hr x (by simp [Op.operands])
        rw [e] at hx
        have hx' : RepD ok w (ρ x) (.tup xs) := hx
        refine lift ?_
        generalize ρ x = u at hx'
        cases hx' with
        | tup cs _ j1 j2 =>
          have hlt : i < cs.size := by
            rw [j1]
            rcases Nat.lt_or_ge i xs.length with hh | hh
            . exact hh
            . simp [hh] at hy
          have hcs : cs[i]? = some cs[i] := Array.getElem?_eq_getElem hlt
          exact ⟨cs[i], by simp only [Instr.extract, hcs]; rfl, j2 i _ _ hcs hy⟩
      . cases he
    . rename_i l e
      split at he
      . rename_i y hy
        have he := plainS_eq he
        subst he
        have hx := hr x (by simp [Op.operands])
        rw [e] at hx
        obtain ⟨cs, hcs0, hl⟩ := hx
        obtain ⟨k1, k2⟩ := RepSVs.get hl
        refine lift ?_
        have hlt : i < cs.size := by
          rw [<- Array.length_toList, k1]
          rcases Nat.lt_or_ge i l.length with hh | hh
          . exact hh
          . simp [hh] at hy
        have hcs : cs[i]? = some cs[i] := Array.getElem?_eq_getElem hlt
        exact ⟨cs[i], by rw [hcs0]; simp only [Instr.extract, hcs]; rfl, (k2 i cs[i] _ (by simp) hy).1⟩
      . cases he
    . cases he
  case makeFunc fn first cap =>
    split at he
    . rename_i f
      split at he
      . split at he
        . rename_i xs hx
          simp only [Option.some.injEq] at he
          subst he
          have := allD_rep (vs := (cap.map ρ).toList) hx (by simp) (fun i v x hv hx => by
            simp only [map_toList_arr, List.getElem?_map, Option.map_eq_some_iff] at hv hx
            obtain ⟨u, hu, rfl⟩ := hv
            obtain ⟨u', hu', rfl⟩ := hx
            have : u = u' := Option.some.inj (hu.symm.trans hu')
            subst this
            exact hr u (by
              have := List.mem_of_getElem? hu
              simp [Op.operands]
              simpa using this))
          refine ⟨_, by simp [Instr.makeFunc]; rfl, ?_⟩
          refine RepD.fn f (cap.map ρ) xs (by simpa using this.1) fun i v x hv hx => this.2 i v x (by simpa using hv) hx
        . simp only [Option.some.injEq] at he
          subst he
          refine ⟨.func (.func f) #[] (cap.map ρ), by simp [Instr.makeFunc], ⟨cap.map ρ, rfl, RepSVs.mk (by simp) fun i v x hv hx => ⟨?_, by simp⟩⟩⟩
          simp only [map_toList_arr, List.getElem?_map, Option.map_eq_some_iff] at hv hx
          obtain ⟨u, hu, rfl⟩ := hv
          obtain ⟨u', hu', rfl⟩ := hx
          have : u = u' := Option.some.inj (hu.symm.trans hu')
          subst this
          exact hr u (by
            have := List.mem_of_getElem? hu
            simp [Op.operands]
            simpa using this)
      . cases he
    . cases he
  case call c =>
    unfold evCall at he
    split at he
    . split at he
      . split at he
        . split at he
          . rename_i hc _ x ha _ t hat _ ty ht
            have hx : RepSV σ h ok w (ρ x) (r x) := hr x (by simp [Op.operands, Call.operands, hc, ha])
            obtain ⟨z, h1, h2⟩ := evLen_sound (tget_ok hT ht) he hx type hh
            refine ⟨z, ?_, h2⟩
            simp [resolve, hc, invoke, builtin, ha, hat, h1]
          . cases he
        . cases he
      . cases he
    . cases he
theorem qt_ev {cx : Cx} {h : Heap} {o : Oper} {s : Nat -> SV} {sv : SV} (he : ev cx.T h (opv s) o.op = some sv) : Qt cx h o s sv := by
  intro s₁ hs σ a w hr K Q hK
  obtain ⟨z, h1, h2⟩ := ev_sound (P := cx.P) (σ := σ) (ok := okf cx σ h) (w := w) (ρ := a.eval) cx.tab he (fun x hx => by
    have := rep_eval hr x
    rwa [show opv s₁ x = opv s x from by cases x <;> first | rfl | exact hs _ hx] at this) hr.heap.rep
  unfold Oper.wp
  rw [h1]
  exact hK z w (Below.refl _ _) h2
end
end Go.Proofs.YtckpadnjldebaaaGreat
namespace Go.Proofs.YtckpadnjldebaaaGreat
open Go
open Go.RowKit (Below)
set_option linter.unusedVariables false
set_option linter.unusedSimpArgs false
def Callable (P : Program) (f : Nat) : Prop := ∃ fn, P.funcs[f]? = some fn /\ fn.body.isNone = false /\ (fn.name == "runtime.NumGoroutine") = false
def RepAll (ok : Nat -> Prop) (w : World) (vs : Array Value) (xs : List D) : Prop :=
  vs.size = xs.length /\ ∀ (i : Nat) v x, vs[i]? = some v -> xs[i]? = some x -> RepD ok w v x
def AC (P : Program) (f : Nat) (xs : List D) (r : D) : Prop :=
  Callable P f /\ ∀ (w : World) (ok : Nat -> Prop) (vs : Array Value), EnvAt P w -> (∀ b, ok b -> b < w.heap.size) -> RepAll ok w vs xs ->
    Calls P f vs w fun e w' => ∃ v, e = .returned v /\ RepD (fun b => ok b \/ w.heap.size <= b) w' v r /\ Below w.heap.size w w'
theorem exec_call {P : Program} {ρ : Operand -> Value} {o : Oper} {f : Operand} {args : Array Operand} {tys : Array TypeId} {g : Nat} {first cap : Array Value} {w : World}
    (ho : o.op = .call { callee := .value f, args := args, argTypes := tys }) (hf : ρ f = .func (.func g) first cap) (hc : Callable P g) :
    (execOp ρ o).run P w = .ok (.enter g (first ++ args.map ρ ++ cap)) w := by
  obtain ⟨fn, h1, h2, h3⟩ := hc
  have h3' : ¬ fn.name = "runtime.NumGoroutine" := by simpa using h3
  have h2' : ¬ fn.body = none := fun e => by simp [e] at h2
  simp [execOp, ho, resolve, hf, Deferred.ofValue, invoke, callFunc, h1, h2', h3']
theorem qt_call {cx : Cx} {h : Heap} {o : Oper} {s : Nat -> SV} {f : Operand} {args : Array Operand} {tys : Array TypeId} {g : Nat} {cap xs : List D} {r : D}
    (ho : o.op = .call { callee := .value f, args := args, argTypes := tys }) (hf : opv s f = .d (.fn g cap)) (ha : allD (args.toList.map (opv s)) = some xs) (hac : AC cx.P g (xs ++ cap) r) :
    Qt cx h o s (.d r) := by
  intro s₁ hs σ a w hr K Q hK
  have agree : ∀ x ∈ o.op.operands, opv s₁ x = opv s x := fun x hx => by cases x <;> first | rfl | exact hs _ hx
  have hfr := rep_eval hr f
  rw [agree f (by simp [ho, Op.operands, Call.operands]), hf] at hfr
  have hfr' : RepD (okf cx σ h) w (a.eval f) (.fn g cap) := hfr
  generalize hu : a.eval f = u at hfr'
  cases hfr' with
  | fn _ vs _ hc1 hc2 =>
    have har := allD_rep (σ := σ) (h := h) (ok := okf cx σ h) (w := w) (vs := (args.map a.eval).toList) ha (by simp) (fun i v x hv hx => by
      simp only [map_toList_arr, List.getElem?_map, Option.map_eq_some_iff] at hv hx
      obtain ⟨y, hy, rfl⟩ := hv
      obtain ⟨y', hy', rfl⟩ := hx
      have : y = y' := Option.some.inj (hy.symm.trans hy')
      subst this
      rw [<- agree y (by
        have := List.mem_of_getElem? hy
        simp [ho, Op.operands, Call.operands]
        exact .inr (by simpa using this))]
      exact rep_eval hr y)
    unfold Oper.wp
    rw [exec_call ho hu hac.1]
    rw [Oper.upon_enter]
    refine (hac.2 w (fun b => okf cx σ h b /\ b < w.heap.size) _ hr.evo.env (fun b hb => hb.2) ?_).mono ?_
    . refine ⟨by simp; have := har.1; simp at this; omega, fun i v x hv hx => ?_⟩
      have key : RepD (okf cx σ h) w v x := by
        simp only [Array.empty_append] at hv
        rw [Array.getElem?_append] at hv
        rw [List.getElem?_append] at hx
        have e1 := har.1
        simp only [map_toList_arr, List.length_map, Array.length_toList] at e1
        simp only [Array.size_map] at hv
        split at hv
        . rename_i hlt
          rw [if_pos (by omega)] at hx
          exact har.2 i v x (by simpa using hv) hx
        . rename_i hlt
          rw [if_neg (by omega)] at hx
          rw [e1] at hv
          exact hc2 _ v x hv hx
      exact key.mono fun b h1 h2 => ⟨⟨h1, h2⟩, rfl⟩
    . rintro e w' ⟨v, rfl, hv, hb⟩
      refine hK v w' hb ?_
      refine RepD.mono hv fun b h1 h2 => ⟨?_, rfl⟩
      rcases h1 with h1 | h1
      . exact h1.1
      . exact ⟨.inr (Nat.le_trans hr.evo.size h1), fun p hp e => by have := (hr.heap.mine p hp b e).2.2; omega⟩
def args0 : Nat -> List D -> Slots
  | _, [] => []
  | k, x :: xs => (k, .d x) :: args0 (k + 1) xs
mutual
def slotD (h : Heap) : SV -> Option D
  | .d x => some x
  | .own id => match h.get id with
    | some (.arr _ _ xs) => some (.lst xs)
    | some (.rows _ _ _ xss none) => some (.lst (xss.map .lst))
    | some (.map kvs) => some (.map kvs)
    | _ => none
  | .sub id i => match h.get id with
    | some (.rows _ _ _ xss none) => match xss[i]? with
      | some xs => some (.lst xs)
      | none => none
    | _ => none
  | .agg l => match slotDs h l with
    | some xs => match xs.all D.one with
      | true => some (.agg xs)
      | false => none
    | none => none
  | .tup l => match slotDs h l with
    | some xs => some (.tup xs)
    | none => none
  | .fn f l => match slotDs h l with
    | some xs => some (.fn f xs)
    | none => none
  | _ => none
def slotDs (h : Heap) : List SV -> Option (List D)
  | [] => some []
  | x :: l => match slotD h x with
    | some y => match slotDs h l with
      | some ys => some (y :: ys)
      | none => none
    | none => none
end
def resAll (s : Slots) (h : Heap) : List ResultVar -> Option (List D)
  | [] => some []
  | .tmp t :: l => match slotD h (lk s t) with
    | some x => match resAll s h l with
      | some xs => some (x :: xs)
      | none => none
    | none => none
  | _ :: _ => none
def resOf (s : Slots) (h : Heap) (l : List ResultVar) : Option D :=
  match resAll s h l with
  | some [x] => some x
  | some xs => some (.tup xs)
  | none => none
theorem own_rep {ok ok' : Nat -> Prop} {w : World} {l : Loc} {e sz : Nat} {xs : List D} (hc : RepArr ok w l e sz xs) (hk : ∀ b, ok b -> ok' b) (hb : l.nil = false -> ok' l.b) :
    RepD ok' w (sliceAt l xs.length) (.lst xs) := by
  obtain ⟨h0, cl, ⟨o1, o2⟩, r1, vs, r2, r3, r4⟩ := hc
  rcases o2 with ⟨o2, o3⟩ | ⟨g, cap, cur, o2, o3, o4, o5, o6, o7, o8⟩
  . rw [o2]
    have : xs = [] := List.eq_nil_of_length_eq_zero o3
    subst this
    exact .nil0
  . have hg : g = l.b /\ l.nil = false := by
      unfold sliceAt at o2
      split at o2
      . cases o2
      . rename_i hn
        cases o2; exact ⟨rfl, by simpa using hn⟩
    obtain ⟨rfl, hn⟩ := hg
    rw [o2]
    refine .lst l.b 0 cap xs.length cur e (0, 0) xs vs sz (hb hn) o4 r2 rfl o5 (by simp only [maxLen] at o6; omega) (fun i v x hv hx => (r3 i v x hv hx).mono fun b h1 _ => ⟨hk b h1, rfl⟩) fun i v hv => ⟨(r4 i v hv).1, fun j hj => ?_⟩
    rw [<- (r4 i v hv).2 j hj, <- o8]
    have hi : i < xs.length := by
      rw [<- r2]
      rcases Nat.lt_or_ge i vs.length with hh | hh
      . exact hh
      . simp [hh] at hv
    have hm : i * sz + sz <= xs.length * sz := by
      have := Nat.mul_le_mul_right sz (show i + 1 <= xs.length from hi)
      rw [Nat.add_mul] at this
      omega
    rw [List.getElem?_take, if_pos (by omega)]
    simp
theorem rows_rep {ok ok' : Nat -> Prop} {w : World} {l : Loc} {σ : Nat -> Loc} {h : Heap} {e e' sz : Nat} {xss : List (List D)} (hc : RepChunk σ h ok w l (.rows e e' sz xss none)) (hk : ∀ b, ok b -> ok' b) (hb : ∀ b, b ∈ blk l (.rows e e' sz xss none) -> ok' b) :
    RepD ok' w (sliceAt l xss.length) (.lst (xss.map .lst)) := by
  obtain ⟨h0, h1, ⟨cl, ho, h3⟩, h4, _⟩ := hc
  have hel : ∀ i, i < xss.length -> ∃ q xs, l.kids[i]? = some q /\ xss[i]? = some xs /\ cl[i]? = some (sliceAt (kidLoc q) xs.length) /\ RepArr ok w (kidLoc q) e' sz xs := fun i hi => by
    have e1 : l.kids[i]? = some l.kids[i] := List.getElem?_eq_getElem (by omega)
    have e2 : xss[i]? = some xss[i] := List.getElem?_eq_getElem hi
    exact ⟨_, _, e1, e2, (h3 i _ _ e1 e2).1, h4 i _ _ e1 e2 (by simp [hat])⟩
  have hlen : cl.length = xss.length := by simpa using ho.1
  cases hn : l.nil with
  | true =>
    have := rows_nil ho hn
    have : xss = [] := List.eq_nil_of_length_eq_zero this
    subst this
    simp only [sliceAt, hn, if_true]
    exact .nil0
  | false =>
    have pEl : ∀ (i : Nat) v x, cl[i]? = some v -> (xss.map D.lst)[i]? = some x -> RepD ok' w v x := fun i v x hv hx => by
      rw [List.getElem?_map, Option.map_eq_some_iff] at hx
      obtain ⟨xs, hx, rfl⟩ := hx
      have hi : i < xss.length := by
        rcases Nat.lt_or_ge i xss.length with hh | hh
        . exact hh
        . simp [hh] at hx
      obtain ⟨q, xs', q1, q2, q3, q4⟩ := hel i hi
      rw [hx] at q2
      cases q2
      rw [hv] at q3
      cases q3
      exact own_rep q4 hk fun hnk => hb _ (kid_blk hn q1 hnk (by simp [hat]))
    have pCell : ∀ (i : Nat) v, cl[i]? = some v -> v.cells.size = 1 /\ ∀ j, j < 1 -> cl[i * 1 + j]? = v.cells[j]? := fun i v hv => by
      have hi : i < xss.length := by
        rw [<- hlen]
        rcases Nat.lt_or_ge i cl.length with hh | hh
        . exact hh
        . simp [hh] at hv
      obtain ⟨q, xs', q1, q2, q3, q4⟩ := hel i hi
      rw [hv] at q3
      cases q3
      have hc1 : (sliceAt (kidLoc q) xs'.length).cells = #[sliceAt (kidLoc q) xs'.length] := by
        unfold sliceAt; split <;> rfl
      rw [hc1]
      exact ⟨rfl, fun j hj => by
        have : j = 0 := by omega
        subst this
        simpa using hv⟩
    have key : RepD ok' w (sliceAt l (xss.map D.lst).length) (.lst (xss.map .lst)) := by
      refine own_rep (e := e) (sz := 1) (ok := ok') ⟨Nat.one_pos, cl, by simpa using ho, by simpa using hlen, cl, by simpa using hlen, fun i v x hv hx => ?_, fun i v hv => ?_⟩ (fun _ h => h) (fun _ => hb _ (by simp [blk, hn]))
      . exact pEl i v x hv hx
      . exact pCell i v hv
    simpa using key
mutual
theorem slotG_rep {σ : Nat -> Loc} {h : Heap} {ok ok' : Nat -> Prop} {w : World} (hh : ∀ p ∈ h, RepChunk σ h ok w (σ p.1) p.2) (hk : ∀ b, ok b -> ok' b) (hb : ∀ p ∈ h, ∀ b, b ∈ blk (σ p.1) p.2 -> ok' b) :
    ∀ {sv : SV} {v : Value} {x : D}, RepSV σ h ok w v sv -> slotD h sv = some x -> RepD ok' w v x
  | .junk, v, x, _, hs => by simp [slotD] at hs
  | .und, v, x, _, hs => by simp [slotD] at hs
  | .ref _ _, v, x, _, hs => by simp [slotD] at hs
  | .elt _ _, v, x, _, hs => by simp [slotD] at hs
  | .d y, v, x, hv, hs => by
    simp only [slotD, Option.some.injEq] at hs
    subst hs
    exact RepD.mono hv fun b h1 _ => ⟨hk b h1, rfl⟩
  | .own id, v, x, hv, hs => by
    simp only [slotD] at hs
    split at hs
    . rename_i e sz xs hg
      simp only [Option.some.injEq] at hs
      subst hs
      simp only [RepSV, hg] at hv
      subst hv
      obtain ⟨p, hp, rfl, hp2⟩ := get_mem hg
      have hc := hh p hp
      have hbb := hb p hp
      rw [hp2] at hc hbb
      exact own_rep hc hk fun hn => hbb _ (by simp [blk, hn])
    . rename_i e e' sz xss hg
      simp only [Option.some.injEq] at hs
      subst hs
      simp only [RepSV, hg] at hv
      subst hv
      obtain ⟨p, hp, rfl, hp2⟩ := get_mem hg
      have hc := hh p hp
      have hbb := hb p hp
      rw [hp2] at hc hbb
      exact rows_rep hc hk hbb
    . rename_i kvs hg
      simp only [Option.some.injEq] at hs
      subst hs
      simp only [RepSV, hg] at hv
      subst hv
      obtain ⟨p, hp, rfl, hp2⟩ := get_mem hg
      have hc := hh p hp
      have hbb := hb p hp
      rw [hp2] at hc hbb
      obtain ⟨es, clock, h1, h2, h3⟩ := hc
      exact .map _ es clock kvs (hbb _ (by simp [blk])) h1 h2 (fun i e kv he hkv => (h3 i e kv he hkv).1.mono fun b h1 _ => ⟨hk b h1, rfl⟩) (fun i e kv he hkv => (h3 i e kv he hkv).2.mono fun b h1 _ => ⟨hk b h1, rfl⟩)
    . cases hs
  | .sub id i, v, x, hv, hs => by
    simp only [slotD] at hs
    split at hs
    . rename_i e e' sz xss hg
      split at hs
      . rename_i xs hx
        simp only [Option.some.injEq] at hs
        subst hs
        simp only [RepSV, hg, hx, Option.some.injEq] at hv
        obtain ⟨q, xs', hq, rfl, rfl⟩ := hv
        obtain ⟨p, hp, rfl, hp2⟩ := get_mem hg
        have hc := hh p hp
        have hbb := hb p hp
        rw [hp2] at hc hbb
        obtain ⟨h0, h1, ⟨cl, ho, h3⟩, h4, _⟩ := hc
        refine own_rep (h4 i q xs hq hx (by simp [hat])) hk fun hn => hbb _ ?_
        cases hnil : (σ p.1).nil with
        | true =>
          have := rows_nil ho hnil
          have : xss = [] := List.eq_nil_of_length_eq_zero this
          subst this
          simp at hx
        | false => exact kid_blk hnil hq hn (by simp [hat])
      . cases hs
    . cases hs
  | .agg l, v, x, hv, hs => by
    simp only [slotD] at hs
    split at hs
    . rename_i xs hx
      split at hs
      . rename_i ha
        simp only [Option.some.injEq] at hs
        subst hs
        simp only [RepSV] at hv
        obtain ⟨cs, rfl, hl⟩ := hv
        obtain ⟨k1, k2⟩ := slotGs_rep hh hk hb hl hx
        exact .agg cs xs (by simpa using k1) (fun y hy => List.all_eq_true.1 ha y hy) fun i v x hv hx => k2 i v x (by simpa using hv) hx
      . cases hs
    . cases hs
  | .tup l, v, x, hv, hs => by
    simp only [slotD] at hs
    split at hs
    . rename_i xs hx
      simp only [Option.some.injEq] at hs
      subst hs
      simp only [RepSV] at hv
      obtain ⟨cs, rfl, hl⟩ := hv
      obtain ⟨k1, k2⟩ := slotGs_rep hh hk hb hl hx
      exact .tup cs xs (by simpa using k1) fun i v x hv hx => k2 i v x (by simpa using hv) hx
    . cases hs
  | .fn f l, v, x, hv, hs => by
    simp only [slotD] at hs
    split at hs
    . rename_i xs hx
      simp only [Option.some.injEq] at hs
      subst hs
      simp only [RepSV] at hv
      obtain ⟨cs, rfl, hl⟩ := hv
      obtain ⟨k1, k2⟩ := slotGs_rep hh hk hb hl hx
      exact .fn f cs xs (by simpa using k1) fun i v x hv hx => k2 i v x (by simpa using hv) hx
    . cases hs
theorem slotGs_rep {σ : Nat -> Loc} {h : Heap} {ok ok' : Nat -> Prop} {w : World} (hh : ∀ p ∈ h, RepChunk σ h ok w (σ p.1) p.2) (hk : ∀ b, ok b -> ok' b) (hb : ∀ p ∈ h, ∀ b, b ∈ blk (σ p.1) p.2 -> ok' b) :
    ∀ {l : List SV} {one : Bool} {vs : List Value} {xs : List D}, RepSVs σ h ok w one vs l -> slotDs h l = some xs -> vs.length = xs.length /\ ∀ (i : Nat) v x, vs[i]? = some v -> xs[i]? = some x -> RepD ok' w v x
  | [], one, vs, xs, hv, hs => by
    simp only [slotDs, Option.some.injEq] at hs
    subst hs
    simp only [RepSVs] at hv
    subst hv
    exact ⟨rfl, by simp⟩
  | y :: l, one, vs, xs, hv, hs => by
    simp only [slotDs] at hs
    simp only [RepSVs] at hv
    obtain ⟨v, vs', rfl, h1, h2, h3⟩ := hv
    split at hs
    . rename_i z hz
      split at hs
      . rename_i zs hzs
        simp only [Option.some.injEq] at hs
        subst hs
        obtain ⟨k1, k2⟩ := slotGs_rep hh hk hb h3 hzs
        refine ⟨by simp [k1], fun i v' x' hv hx => ?_⟩
        cases i with
        | zero => simp at hv hx; subst hv hx; exact slotG_rep hh hk hb h1 hz
        | succ i => exact k2 i v' x' (by simpa using hv) (by simpa using hx)
      . cases hs
    . cases hs
end
theorem slotD_rep {cx : Cx} {σ : Nat -> Loc} {s : Nat -> SV} {h : Heap} {a : Act} {w : World} (hr : RW cx σ s h a w) (hx0 : ∀ i b, ¬ cx.X0 i b) {v : Value} {sv : SV} {x : D} (hv : RepSV σ h (okf cx σ h) w v sv) (hs : slotD h sv = some x) :
    RepD (fun b => cx.ok0 b \/ cx.w0.heap.size <= b) w v x :=
  slotG_rep hr.heap.rep (fun b h1 => h1.1.imp id (Nat.le_trans cx.nwle)) (fun p hp b hb => .inr ((hr.heap.mine p hp b hb).1.resolve_left (hx0 _ _))) hv hs
theorem resAll_run {cx : Cx} {σ : Nat -> Loc} {s : Slots} {h : Heap} {a : Act} {w : World} (hr : RW cx σ (lk s) h a w) (hx0 : ∀ i b, ¬ cx.X0 i b) : ∀ (l : List ResultVar) (xs : List D), resAll s h l = some xs ->
    ∃ vs : List Value, (l.mapM (fun | .tmp t => pure (a.tmps.getD t undef) | .cell p t => do loadVar t (<- asAddr (a.tmps.getD p undef)) : ResultVar -> Sem Value)).run cx.P w = .ok vs w /\
      vs.length = xs.length /\ ∀ (i : Nat) v x, vs[i]? = some v -> xs[i]? = some x -> RepD (fun b => cx.ok0 b \/ cx.w0.heap.size <= b) w v x
  | [], xs, hh => by
    simp only [resAll, Option.some.injEq] at hh
    subst hh
    exact ⟨[], by simp [List.mapM_nil], rfl, by simp⟩
  | .tmp t :: l, xs, hh => by
    simp only [resAll] at hh
    split at hh
    . rename_i x hx
      split at hh
      . rename_i ys hy
        simp only [Option.some.injEq] at hh
        subst hh
        obtain ⟨vs, h1, h2, h3⟩ := resAll_run hr hx0 l ys hy
        refine ⟨a.tmps.getD t undef :: vs, ?_, by simp [h2], fun i v x' hv hx' => ?_⟩
        . rw [List.mapM_cons]
          simp only [Sem.run_bind, Sem.run_pure, Result.andThen_ok, h1]
        . cases i with
          | zero => simp only [List.getElem?_cons_zero, Option.some.injEq] at hv hx'; subst hv hx'; exact slotD_rep hr hx0 (hr.slots t) hx
          | succ i => exact h3 i v x' (by simpa using hv) (by simpa using hx')
      . cases hh
    . cases hh
  | .cell p t :: l, xs, hh => by simp [resAll] at hh
theorem resOf_run {cx : Cx} {σ : Nat -> Loc} {s : Slots} {h : Heap} {a : Act} {w : World} (hr : RW cx σ (lk s) h a w) (hx0 : ∀ i b, ¬ cx.X0 i b) {fn : Func} {x : D} (hh : resOf s h fn.results.toList = some x) :
    ∃ v, (results fn a.tmps).run cx.P w = .ok v w /\ RepD (fun b => cx.ok0 b \/ cx.w0.heap.size <= b) w v x := by
  unfold resOf at hh
  have key : ∀ xs, resAll s h fn.results.toList = some xs -> ∃ vs : List Value, (results fn a.tmps).run cx.P w = .ok (if h : vs.length = 1 then vs[0] else .tuple vs.toArray) w /\
      vs.length = xs.length /\ ∀ (i : Nat) v x, vs[i]? = some v -> xs[i]? = some x -> RepD (fun b => cx.ok0 b \/ cx.w0.heap.size <= b) w v x := fun xs hx => by
    obtain ⟨vs, h1, h2, h3⟩ := resAll_run hr hx0 _ _ hx
    refine ⟨vs, ?_, h2, h3⟩
    unfold results
    rw [Array.mapM_eq_mapM_toList, Sem.run_bind, Sem.run_map]
    refine (congrArg (fun r => Result.andThen (Result.andThen r _) _) h1).trans ?_
    simp
  split at hh
  . rename_i y hy
    simp only [Option.some.injEq] at hh
    subst hh
    obtain ⟨vs, h1, h2, h3⟩ := key _ hy
    match vs, h2 with
    | [v], _ => exact ⟨v, by simpa using h1, h3 0 v y rfl rfl⟩
  . rename_i ys hne hy
    simp only [Option.some.injEq] at hh
    subst hh
    obtain ⟨vs, h1, h2, h3⟩ := key _ hy
    have hl : vs.length ≠ 1 := fun e => by
      rw [h2] at e
      obtain ⟨y, rfl⟩ := List.length_eq_one_iff.1 e
      exact hne y rfl
    rw [dif_neg hl] at h1
    exact ⟨_, h1, .tup _ _ (by simpa using h2) fun i v x hv hx => h3 i v x (by simpa using hv) hx⟩
  . cases hh
theorem args0_rep {ok : Nat -> Prop} {σ : Nat -> Loc} {w : World} {vs : List Value} : ∀ (xs : List D) (k : Nat) (tmps : Array Value), (∀ (i : Nat) x, xs[i]? = some x -> RepD ok w (tmps.getD (k + i) undef) x) ->
    ∀ t, RepSV σ [] ok w (tmps.getD t undef) (lk (args0 k xs) t)
  | [], k, tmps, _, t => trivial
  | x :: xs, k, tmps, hh, t => by
    simp only [args0, lk]
    split
    . rename_i e; subst e; exact hh 0 x rfl
    . exact args0_rep (vs := vs) xs (k + 1) tmps (fun i y hy => by have := hh (i + 1) y (by simpa using hy); rwa [show k + (i + 1) = k + 1 + i by omega] at this) t
theorem ac_intro {P : Program} {T : List (Nat × TR)} {f : Nat} {fn : Func} {c : Code} {xs : List D} {r : D} (tab : tabOk P T = true) (nt : Nat) (hf : P.funcs[f]? = some fn) (hb : fn.body = some c)
    (hname : (fn.name == "runtime.NumGoroutine") = false) (hnt : fn.ntmps = nt) (hle : Nat.ble xs.length nt = true) (hsm : Nat.ble nt 10000 = true)
    (hw : ∀ (w0 : World) (ok0 : Nat -> Prop) (he0 : EnvAt P w0), awp ⟨P, T, tab, w0, ok0, fun _ _ => False, fun _ => False, nt, fun _ => ⟨0, 0, true, []⟩, hsm, w0.heap.size, Nat.le_refl _, he0, envX_none⟩ c (args0 0 xs) [] (fun e s h => (e = .normal \/ e = .ret) /\ resOf s h fn.results.toList = some r)) : AC P f xs r := by
  refine ⟨⟨fn, hf, by simp [hb], hname⟩, fun w ok vs henv hok hvs => ?_⟩
  have hle' := Nat.le_of_ble_eq_true hle
  refine calls_of_wp hf hb (wp_mono (hw w ok henv _ w ⟨fun _ => ⟨0, 0, true, []⟩, ⟨rfl, rfl, rfl, Nat.le_refl _, fun _ _ _ => rfl⟩, rfl, ?_, ⟨by simp, by simp, by simp, by simp, by simp, by simp⟩, ?_⟩) ?_)
  . simp only [Array.size_append, Array.size_replicate, hvs.1, hnt]
    omega
  . refine args0_rep (vs := []) xs 0 _ fun i x hx => ?_
    have hi : i < xs.length := by
      rcases Nat.lt_or_ge i xs.length with hh | hh
      . exact hh
      . simp [hh] at hx
    have hiv : i < vs.size := by rw [hvs.1]; exact hi
    have hget : vs[i]? = some vs[i] := Array.getElem?_eq_getElem hiv
    have := hvs.2 i _ x hget hx
    rw [Nat.zero_add, Array.getD_eq_getD_getElem?, Array.getElem?_append_left hiv, hget]
    exact this.mono fun b h1 _ => ⟨⟨.inl h1, by simp⟩, rfl⟩
  . rintro e a' w' ⟨s', h', ⟨he, hres⟩, σ, hr⟩
    obtain ⟨v, h1, h2⟩ := resOf_run (fn := fn) hr (fun i b hb => by unfold Cx.X0 at hb; split at hb <;> exact hb) hres
    have hB : Below w.heap.size w w' := ⟨hr.evo.os, hr.evo.tape, hr.evo.output, hr.evo.size, fun k hk => hr.evo.block k hk (fun i hb => by unfold Cx.X0 at hb; split at hb <;> exact hb)⟩
    rcases he with rfl | rfl
    . exact ⟨hr.defers, v, h1, v, rfl, h2, hB⟩
    . exact ⟨hr.defers, v, h1, v, rfl, h2, hB⟩
end Go.Proofs.YtckpadnjldebaaaGreat
