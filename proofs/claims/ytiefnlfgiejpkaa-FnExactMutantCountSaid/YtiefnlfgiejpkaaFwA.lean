/- The ground of a logic over data: what a value in a world says as data (RepD), what a frame's slots and own blocks say (R), and that both outlast what a run does beside them. No condition. -/
import Derived.WalkKit
namespace Go.Proofs.Ytiefnlfgiejpkaa
open Go
set_option linter.unusedVariables false

/-- Data without addresses. A struct is the list of its cells. -/
inductive D where
  | int (k : IntKind) (n : Int)
  | bool (b : Bool)
  | str (l : List UInt8)
  | nils
  | lst (xs : List D)
  | agg (xs : List D)
  | tup (xs : List D)
  | ptr (x : D)
  | fn (f : Nat) (cap : List D)
  | nilp
  deriving Inhabited

def D.one : D → Bool
  | .agg _ => false
  | .tup _ => false
  | _ => true

def D.cells : D → List D
  | .agg xs => xs
  | x => [x]

/-- A value in a world says this; all memory that it leads to lies in blocks of which 'ok' holds. -/
inductive RepD (ok : Nat → Prop) (w : World) : Value → D → Prop where
  | int (k : IntKind) (n : Int) : RepD ok w (.int k n) (.int k n)
  | bool (b : Bool) : RepD ok w (.bool b) (.bool b)
  | str (l : List UInt8) (s : ByteArray) : s = ⟨l.toArray⟩ → RepD ok w (.string s) (.str l)
  | nils : RepD ok w (.slice none 0 0) .nils
  | nil0 : RepD ok w (.slice none 0 0) (.lst [])
  | emp (a : Addr) (cap : Nat) : RepD ok w (.slice (some a) 0 cap) (.lst [])
  | nilp : RepD ok w (.pointer none) .nilp
  | lst (b off cap n : Nat) (cells : Array Value) (e : Nat) (fr : Nat × Nat) (xs : List D) (vs : List Value) (sz : Nat) :
      ok b → w.heap[b]? = some (.cells cells e fr) → vs.length = xs.length → n = xs.length → n ≤ cap → n ≤ 9223372036854775807 →
      (∀ (i : Nat) v x, vs[i]? = some v → xs[i]? = some x → RepD ok w v x) →
      (∀ (i : Nat) v, vs[i]? = some v → v.cells.size = sz ∧ ∀ j, j < sz → cells[off + i * sz + j]? = v.cells[j]?) →
      RepD ok w (.slice (some ⟨b, off, none⟩) n cap) (.lst xs)
  | agg (cs : Array Value) (xs : List D) : cs.size = xs.length → (∀ x ∈ xs, x.one = true) →
      (∀ (i : Nat) v x, cs[i]? = some v → xs[i]? = some x → RepD ok w v x) → RepD ok w (.agg cs) (.agg xs)
  | tup (cs : Array Value) (xs : List D) : cs.size = xs.length →
      (∀ (i : Nat) v x, cs[i]? = some v → xs[i]? = some x → RepD ok w v x) → RepD ok w (.tuple cs) (.tup xs)
  | ptr (b off : Nat) (v : Value) (x : D) (cells : Array Value) (e : Nat) (fr : Nat × Nat) : ok b → w.heap[b]? = some (.cells cells e fr) →
      (∀ j, j < v.cells.size → cells[off + j]? = v.cells[j]?) → RepD ok w v x → RepD ok w (.pointer (some ⟨b, off, none⟩)) (.ptr x)
  | fn (f : Nat) (vs : Array Value) (cap : List D) : vs.size = cap.length →
      (∀ (i : Nat) v x, vs[i]? = some v → cap[i]? = some x → RepD ok w v x) → RepD ok w (.func (.func f) #[] vs) (.fn f cap)

theorem RepD.mono {ok ok' : Nat → Prop} {w w' : World} {v : Value} {x : D} (h : RepD ok w v x)
    (hk : ∀ b, ok b → b < w.heap.size → ok' b ∧ w'.heap[b]? = w.heap[b]?) : RepD ok' w' v x := by
  have lt : ∀ {b : Nat} {o : Obj}, w.heap[b]? = some o → b < w.heap.size := fun h => by
    rcases Nat.lt_or_ge _ w.heap.size with h' | h'
    · exact h'
    · simp [Array.getElem?_eq_none h'] at h
  induction h with
  | int k n => exact .int k n
  | bool b => exact .bool b
  | str l s h => exact .str l s h
  | nils => exact .nils
  | nil0 => exact .nil0
  | emp a cap => exact .emp a cap
  | nilp => exact .nilp
  | lst b off cap n cells e fr xs vs sz h1 h2 h3 h4 h5 h5b h6 h7 ih =>
    exact .lst b off cap n cells e fr xs vs sz (hk b h1 (lt h2)).1 ((hk b h1 (lt h2)).2.trans h2) h3 h4 h5 h5b ih h7
  | agg cs xs h1 h2 h3 ih => exact .agg cs xs h1 h2 ih
  | tup cs xs h1 h2 ih => exact .tup cs xs h1 ih
  | ptr b off v x cells e fr h1 h2 h3 h4 ih => exact .ptr b off v x cells e fr (hk b h1 (lt h2)).1 ((hk b h1 (lt h2)).2.trans h2) h3 ih
  | fn f vs cap h1 h2 ih => exact .fn f vs cap h1 ih

/-- One cell's data is one cell's value. -/
theorem RepD.oneCell {ok : Nat → Prop} {w : World} {v : Value} {x : D} (h : RepD ok w v x) (hx : x.one = true) : v.cells = #[v] := by
  cases h <;> first | rfl | (simp [D.one] at hx)

theorem RepD.oneCell' {ok : Nat → Prop} {w : World} {v : Value} {x : D} (h : RepD ok w v x) (hx : x.one = true) : v.oneCell' = true := by
  cases h <;> first | rfl | (simp [D.one] at hx)

theorem RepD.int_inv {ok : Nat → Prop} {w : World} {v : Value} {k : IntKind} {n : Int} (h : RepD ok w v (.int k n)) : v = .int k n := by cases h; rfl
theorem RepD.bool_inv {ok : Nat → Prop} {w : World} {v : Value} {b : Bool} (h : RepD ok w v (.bool b)) : v = .bool b := by cases h; rfl
theorem RepD.str_inv {ok : Nat → Prop} {w : World} {v : Value} {l : List UInt8} (h : RepD ok w v (.str l)) : v = .string ⟨l.toArray⟩ := by cases h; subst_vars; rfl
theorem RepD.nils_inv {ok : Nat → Prop} {w : World} {v : Value} (h : RepD ok w v .nils) : v = .slice none 0 0 := by cases h; rfl

/-! ### Slots and own blocks -/

structure Loc where
  b : Nat
  cap : Nat
  nil : Bool

/-- What a slot says. 'ref id off': a pointer into one's own block 'id'. 'own id': a slice that is all of one's own row 'id'. 'elt id i': a pointer to element i of one's own row. -/
inductive SV where
  | junk
  | und
  | d (x : D)
  | ref (id off : Nat)
  | own (id : Nat)
  | elt (id i : Nat)
  deriving Inhabited

/-- One's own block: a variable's cells, or a row of elements of type 'e', 'sz' cells each. -/
inductive Chunk where
  | box (cells : List SV)
  | arr (e sz : Nat) (xs : List D)

abbrev Heap := List (Nat × Chunk)
abbrev Slots := List (Nat × SV)

def Heap.get (h : Heap) (id : Nat) : Option Chunk :=
  match h with
  | [] => none
  | p :: h => if p.1 = id then some p.2 else Heap.get h id
def lk (s : Slots) (t : Nat) : SV :=
  match s with
  | [] => .junk
  | p :: s => if t = p.1 then p.2 else lk s t

def sliceAt (l : Loc) (n : Nat) : Value := if l.nil then .slice none 0 0 else .slice (some ⟨l.b, 0, none⟩) n l.cap

def RepSV (σ : Nat → Loc) (h : Heap) (ok : Nat → Prop) (w : World) (v : Value) : SV → Prop
  | .junk => True
  | .und => v = undef
  | .d x => RepD ok w v x
  | .ref id off => v = .pointer (some ⟨(σ id).b, off, none⟩)
  | .own id => match h.get id with
    | some (.arr _ _ xs) => v = sliceAt (σ id) xs.length
    | _ => True
  | .elt id i => match h.get id with
    | some (.arr _ sz _) => v = .pointer (some ⟨(σ id).b, i * sz, none⟩)
    | _ => True

/-- The cells of a row of elements. -/
def RepCells (ok : Nat → Prop) (w : World) (sz : Nat) (cl : List Value) (xs : List D) : Prop :=
  cl.length = xs.length * sz ∧ ∃ vs : List Value, vs.length = xs.length ∧ (∀ (i : Nat) v x, vs[i]? = some v → xs[i]? = some x → RepD ok w v x) ∧
    ∀ (i : Nat) v, vs[i]? = some v → v.cells.size = sz ∧ ∀ j, j < sz → cl[i * sz + j]? = v.cells[j]?

def RepChunk (σ : Nat → Loc) (h : Heap) (ok : Nat → Prop) (w : World) (l : Loc) : Chunk → Prop
  | .box cells => ∃ cs t, w.heap[l.b]? = some (.cells cs t (0, 0)) ∧ cs.size = cells.length ∧
      ∀ (i : Nat) v x, cs[i]? = some v → cells[i]? = some x → RepSV σ h ok w v x ∧ v.oneCell' = true
  | .arr e sz xs => 0 < sz ∧ l.b < w.heap.size ∧ ∃ cl, w.ownsRow 0 e sz (sliceAt l xs.length) xs.length cl ∧ RepCells ok w sz cl xs

/-- What is asked of a type: is it a struct; its cells and bytes; of a slice its element's type; of a struct its fields (offset, cells, is it a struct); of an integer type its kind; the cells of its zero value. -/
structure TR where
  agg : Bool
  size : Nat
  bytes : Nat
  isSl : Bool
  isStr : Bool
  isBool : Bool
  elem : Nat
  fields : List (Nat × Nat × Bool)
  kind : Option IntKind
  zero : List D

def isAggD : TypeDesc → Bool
  | .struct _ => true
  | .array _ _ => true
  | _ => false

def zeroIs : Value → D → Bool
  | .int k n, .int k' n' => decide (k = k') && decide (n = n')
  | .bool b, .bool b' => b == b'
  | .string s, .str l => decide (s.data.toList = l)
  | .slice none 0 0, .nils => true
  | .pointer none, .nilp => true
  | _, _ => false

def zeroAre : List Value → List D → Bool
  | [], [] => true
  | v :: vs, x :: xs => zeroIs v x && zeroAre vs xs
  | _, _ => false

def fieldIs (P : Program) (f : Field) (q : Nat × Nat × Bool) : Bool :=
  f.offset == q.1 && (match P.underlying f.type, P.info? f.type with
    | some d, some i => isAggD d == q.2.2 && i.size == q.2.1 && decide (0 < i.size) && (q.2.2 || decide (q.2.1 = 1))
    | _, _ => false)

def fieldsAre (P : Program) : List Field → List (Nat × Nat × Bool) → Bool
  | [], [] => true
  | f :: fs, q :: qs => fieldIs P f q && fieldsAre P fs qs
  | _, _ => false

def trOk (P : Program) (t : Nat) (r : TR) : Bool :=
  match P.underlying t, P.info? t with
  | some d, some i =>
    (isAggD d == r.agg) && (i.size == r.size) && (i.bytes == r.bytes) &&
    (match d with | .slice e => r.isSl && r.elem == e | _ => !r.isSl) &&
    (match d with | .string => r.isStr | _ => !r.isStr) &&
    (match d with | .bool => r.isBool | _ => !r.isBool) &&
    (match d with | .struct fs => fieldsAre P fs.toList r.fields | _ => r.fields.isEmpty) &&
    (match d with | .int k => decide (r.kind = some k) | _ => decide (r.kind = none)) &&
    (match i.zero with | some z => zeroAre z.cells.toList r.zero | none => false)
  | _, _ => false

def tabOk (P : Program) (T : List (Nat × TR)) : Bool := T.all fun p => trOk P p.1 p.2

def tget (T : List (Nat × TR)) (t : Nat) : Option TR :=
  match T with
  | [] => none
  | p :: T => if p.1 = t then some p.2 else tget T t

theorem tget_ok {P : Program} {T : List (Nat × TR)} (h : tabOk P T = true) {t : Nat} {r : TR} (hg : tget T t = some r) : trOk P t r = true := by
  induction T with
  | nil => cases hg
  | cons p T ih =>
    simp only [tabOk, List.all_cons, Bool.and_eq_true] at h
    simp only [tget] at hg
    split at hg
    · rename_i e; cases hg; subst e; exact h.1
    · exact ih h.2 hg

/-- What stays the same through one call: the program, the world at its beginning, the blocks that its arguments may lead to, the blocks that it was handed to change, the number of slots. -/
structure Cx where
  P : Program
  T : List (Nat × TR)
  tab : tabOk P T = true
  w0 : World
  ok0 : Nat → Prop
  X0 : Nat → Prop
  nt : Nat

structure Evo (cx : Cx) (w : World) : Prop where
  os : w.os = cx.w0.os
  tape : w.tape = cx.w0.tape
  output : w.output = cx.w0.output
  size : cx.w0.heap.size ≤ w.heap.size
  block : ∀ b, b < cx.w0.heap.size → ¬ cx.X0 b → w.heap[b]? = cx.w0.heap[b]?

/-- Where the data of a frame may lie: not in its own blocks. -/
def okf (cx : Cx) (σ : Nat → Loc) (h : Heap) (b : Nat) : Prop := (cx.ok0 b ∨ cx.w0.heap.size ≤ b) ∧ ∀ p ∈ h, b ≠ (σ p.1).b

structure HeapOk (cx : Cx) (σ : Nat → Loc) (h : Heap) (w : World) : Prop where
  nodup : (h.map (·.1)).Nodup
  inj : ∀ p ∈ h, ∀ q ∈ h, (σ p.1).b = (σ q.1).b → p.1 = q.1
  mine : ∀ p ∈ h, (cx.X0 (σ p.1).b ∨ cx.w0.heap.size ≤ (σ p.1).b) ∧ (σ p.1).b < w.heap.size
  rep : ∀ p ∈ h, RepChunk σ h (okf cx σ h) w (σ p.1) p.2

structure RW (cx : Cx) (σ : Nat → Loc) (s : Nat → SV) (h : Heap) (a : Act) (w : World) : Prop where
  evo : Evo cx w
  defers : a.defers = []
  size : a.tmps.size = cx.nt
  heap : HeapOk cx σ h w
  slots : ∀ t, RepSV σ h (okf cx σ h) w (a.tmps.getD t undef) (s t)

def R (cx : Cx) (s : Nat → SV) (h : Heap) (a : Act) (w : World) : Prop := ∃ σ, RW cx σ s h a w

def upd (s : Nat → SV) (t : Nat) (v : SV) : Nat → SV := fun u => if u = t then v else s u
def fput (s : Nat → SV) (dst : Option Nat) (v : SV) : Nat → SV :=
  match dst with
  | some t => upd s t v
  | none => s
def put (s : Slots) (dst : Option Nat) (v : SV) : Slots :=
  match dst with
  | some t => (t, v) :: s
  | none => s
theorem lk_put (s : Slots) (dst : Option Nat) (v : SV) : lk (put s dst v) = fput (lk s) dst v := by
  cases dst <;> rfl

/-! ### What outlasts a change of the world -/

theorem RepSV.mono {σ σ' : Nat → Loc} {h : Heap} {ok ok' : Nat → Prop} {w w' : World} {v : Value} {x : SV} (hr : RepSV σ h ok w v x)
    (hk : ∀ b, ok b → b < w.heap.size → ok' b ∧ w'.heap[b]? = w.heap[b]?) (hσ : σ' = σ) : RepSV σ' h ok' w' v x := by
  subst hσ
  cases x with
  | junk => trivial
  | und => exact hr
  | d x => exact RepD.mono hr hk
  | ref id off => exact hr
  | own id => exact hr
  | elt id i => exact hr

theorem RepCells.mono {ok ok' : Nat → Prop} {w w' : World} {sz : Nat} {cl : List Value} {xs : List D} (hr : RepCells ok w sz cl xs)
    (hk : ∀ b, ok b → b < w.heap.size → ok' b ∧ w'.heap[b]? = w.heap[b]?) : RepCells ok' w' sz cl xs := by
  obtain ⟨h1, vs, h2, h3, h4⟩ := hr
  exact ⟨h1, vs, h2, fun i v x hv hx => (h3 i v x hv hx).mono hk, h4⟩

theorem RepChunk.mono {σ : Nat → Loc} {h : Heap} {ok ok' : Nat → Prop} {w w' : World} {l : Loc} {c : Chunk} (hr : RepChunk σ h ok w l c)
    (hk : ∀ b, ok b → b < w.heap.size → ok' b ∧ w'.heap[b]? = w.heap[b]?) (hl : w'.heap[l.b]? = w.heap[l.b]?) (hs : w.heap.size ≤ w'.heap.size) : RepChunk σ h ok' w' l c := by
  cases c with
  | box cells =>
    obtain ⟨cs, t, h1, h2, h3⟩ := hr
    exact ⟨cs, t, hl.trans h1, h2, fun i v x hv hx => ⟨(h3 i v x hv hx).1.mono hk rfl, (h3 i v x hv hx).2⟩⟩
  | arr e sz xs =>
    obtain ⟨h0, hlt, cl, h1, h2⟩ := hr
    refine ⟨h0, by omega, cl, ?_, h2.mono hk⟩
    obtain ⟨h1, h3⟩ := h1
    refine ⟨h1, ?_⟩
    rcases h3 with h3 | ⟨g, cap, cur, hv, hb, hg, hrest⟩
    · exact .inl h3
    · refine .inr ⟨g, cap, cur, hv, hb, ?_, hrest⟩
      unfold sliceAt at hv
      split at hv
      · cases hv
      · cases hv
        exact hl.trans hg

open RowKit in
theorem RW.ext {cx : Cx} {σ : Nat → Loc} {s : Nat → SV} {h : Heap} {a : Act} {w w' : World} (hr : RW cx σ s h a w) (hb : Below w.heap.size w w') : RW cx σ s h a w' := by
  have hk : ∀ b, okf cx σ h b → b < w.heap.size → okf cx σ h b ∧ w'.heap[b]? = w.heap[b]? := fun b h1 h2 => ⟨h1, hb.block b h2⟩
  refine ⟨⟨hb.os.trans hr.evo.os, hb.tape.trans hr.evo.tape, hb.output.trans hr.evo.output, Nat.le_trans hr.evo.size hb.size, fun b h1 h2 => ?_⟩, hr.defers, hr.size, ⟨hr.heap.nodup, hr.heap.inj, fun p hp => ?_, fun p hp => ?_⟩, fun t => (hr.slots t).mono hk rfl⟩
  · exact (hb.block b (Nat.lt_of_lt_of_le h1 hr.evo.size)).trans (hr.evo.block b h1 h2)
  · exact ⟨(hr.heap.mine p hp).1, Nat.lt_of_lt_of_le (hr.heap.mine p hp).2 hb.size⟩
  · exact (hr.heap.rep p hp).mono hk (hb.block _ (hr.heap.mine p hp).2) hb.size

theorem getD_set (xs : Array Value) (t u : Nat) (v : Value) (h : t < xs.size) : (xs.setIfInBounds t v).getD u undef = if u = t then v else xs.getD u undef := by
  by_cases e : u = t
  · subst e; simp [h]
  · rw [if_neg e]
    simp only [Array.getD_eq_getD_getElem?]
    rw [Array.getElem?_setIfInBounds_ne (Ne.symm e)]

theorem RW.put {cx : Cx} {σ : Nat → Loc} {s : Nat → SV} {h : Heap} {a : Act} {w : World} (hr : RW cx σ s h a w) {dst : Option Nat} {v : Value} {sv : SV}
    (hd : ∀ t, dst = some t → t < cx.nt) (hv : RepSV σ h (okf cx σ h) w v sv) : RW cx σ (fput s dst sv) h (a.put dst v) w := by
  cases dst with
  | none => exact hr
  | some t =>
    refine ⟨hr.evo, hr.defers, by simp [Act.put, hr.size], hr.heap, fun u => ?_⟩
    have hlt : t < a.tmps.size := by rw [hr.size]; exact hd t rfl
    simp only [Act.put, getD_set _ _ _ _ hlt, fput, upd]
    split
    · exact hv
    · exact hr.slots u

end Go.Proofs.Ytiefnlfgiejpkaa
