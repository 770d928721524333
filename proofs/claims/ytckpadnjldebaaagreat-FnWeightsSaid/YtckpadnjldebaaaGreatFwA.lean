/- The ground of a logic over data: what a value in a world says as data (RepD), what a frame's slots and own blocks say (R), and that both outlast what a run does beside them. No condition. -/
import Derived.WalkKit
import Derived.StillTail
import Derived.Deep.Quiet
import Derived.Test.YtckpadnjldebaaaGreatEn
namespace Go.Proofs.YtckpadnjldebaaaGreat
open Go
set_option linter.unusedVariables false
inductive D where
  | int (k : IntKind) (n : Int)
  | bool (b : Bool)
  | str (l : List UInt8)
  | nils
  | lst (xs : List D)
  | agg (xs : List D)
  | tup (xs : List D)
  | ptr (x : D)
  | fn (f : Nat) (cap : List D)
  | nilp
  | rowb (b e sz : Nat) (xs : List D)
  | map (kvs : List (D × D))
  | nilm
  | full (xs : List D)
  deriving Inhabited
def D.one : D -> Bool
  | .agg _ => false
  | .tup _ => false
  | _ => true
def D.cells : D -> List D
  | .agg xs => xs
  | x => [x]
inductive RepD (ok : Nat -> Prop) (w : World) : Value -> D -> Prop where
  | int (k : IntKind) (n : Int) : RepD ok w (.int k n) (.int k n)
  | bool (b : Bool) : RepD ok w (.bool b) (.bool b)
  | str (l : List UInt8) (s : ByteArray) : s = ⟨l.toArray⟩ -> RepD ok w (.string s) (.str l)
  | nils : RepD ok w (.slice none 0 0) .nils
  | nil0 : RepD ok w (.slice none 0 0) (.lst [])
  | emp (a : Addr) (cap : Nat) : RepD ok w (.slice (some a) 0 cap) (.lst [])
  | nilp : RepD ok w (.pointer none) .nilp
  | nilm : RepD ok w (.map none) .nilm
  | lst (b off cap n : Nat) (cells : Array Value) (e : Nat) (fr : Nat × Nat) (xs : List D) (vs : List Value) (sz : Nat) :
      ok b -> w.heap[b]? = some (.cells cells e fr) -> vs.length = xs.length -> n = xs.length -> n <= cap -> n <= 9223372036854775807 ->
      (∀ (i : Nat) v x, vs[i]? = some v -> xs[i]? = some x -> RepD ok w v x) ->
      (∀ (i : Nat) v, vs[i]? = some v -> v.cells.size = sz /\ ∀ j, j < sz -> cells[off + i * sz + j]? = v.cells[j]?) ->
      RepD ok w (.slice (some ⟨b, off, none⟩) n cap) (.lst xs)
  | rowb (b cap n : Nat) (cells : Array Value) (e : Nat) (xs : List D) (vs : List Value) (sz : Nat) :
      ok b -> w.heap[b]? = some (.cells cells e (0, 0)) -> vs.length = xs.length -> n = xs.length -> n <= cap -> cap <= maxLen -> cells.size = cap * sz -> 0 < sz ->
      (∀ (i : Nat) v x, vs[i]? = some v -> xs[i]? = some x -> RepD ok w v x) ->
      (∀ (i : Nat) v, vs[i]? = some v -> v.cells.size = sz /\ ∀ j, j < sz -> cells[i * sz + j]? = v.cells[j]?) ->
      RepD ok w (.slice (some ⟨b, 0, none⟩) n cap) (.rowb b e sz xs)
  | fullN : RepD ok w (.slice none 0 0) (.full [])
  | fullE (a : Addr) : RepD ok w (.slice (some a) 0 0) (.full [])
  | full (b off n : Nat) (cells : Array Value) (e : Nat) (fr : Nat × Nat) (xs : List D) (vs : List Value) (sz : Nat) :
      ok b -> w.heap[b]? = some (.cells cells e fr) -> vs.length = xs.length -> n = xs.length -> n <= 9223372036854775807 ->
      (∀ (i : Nat) v x, vs[i]? = some v -> xs[i]? = some x -> RepD ok w v x) ->
      (∀ (i : Nat) v, vs[i]? = some v -> v.cells.size = sz /\ ∀ j, j < sz -> cells[off + i * sz + j]? = v.cells[j]?) ->
      RepD ok w (.slice (some ⟨b, off, none⟩) n n) (.full xs)
  | map (b : Nat) (es : Array MapEntry) (clock : Nat) (kvs : List (D × D)) : ok b -> w.heap[b]? = some (.map es clock) -> es.size = kvs.length ->
      (∀ (i : Nat) e kv, es[i]? = some e -> kvs[i]? = some kv -> RepD ok w e.key kv.1) -> (∀ (i : Nat) e kv, es[i]? = some e -> kvs[i]? = some kv -> RepD ok w e.val kv.2) ->
      RepD ok w (.map (some b)) (.map kvs)
  | agg (cs : Array Value) (xs : List D) : cs.size = xs.length -> (∀ x ∈ xs, x.one = true) ->
      (∀ (i : Nat) v x, cs[i]? = some v -> xs[i]? = some x -> RepD ok w v x) -> RepD ok w (.agg cs) (.agg xs)
  | tup (cs : Array Value) (xs : List D) : cs.size = xs.length ->
      (∀ (i : Nat) v x, cs[i]? = some v -> xs[i]? = some x -> RepD ok w v x) -> RepD ok w (.tuple cs) (.tup xs)
  | ptr (b off : Nat) (v : Value) (x : D) (cells : Array Value) (e : Nat) (fr : Nat × Nat) : ok b -> w.heap[b]? = some (.cells cells e fr) ->
      (∀ j, j < v.cells.size -> cells[off + j]? = v.cells[j]?) -> RepD ok w v x -> RepD ok w (.pointer (some ⟨b, off, none⟩)) (.ptr x)
  | fn (f : Nat) (vs : Array Value) (cap : List D) : vs.size = cap.length ->
      (∀ (i : Nat) v x, vs[i]? = some v -> cap[i]? = some x -> RepD ok w v x) -> RepD ok w (.func (.func f) #[] vs) (.fn f cap)
theorem RepD.mono {ok ok' : Nat -> Prop} {w w' : World} {v : Value} {x : D} (h : RepD ok w v x)
    (hk : ∀ b, ok b -> b < w.heap.size -> ok' b /\ w'.heap[b]? = w.heap[b]?) : RepD ok' w' v x := by
  have lt : ∀ {b : Nat} {o : Obj}, w.heap[b]? = some o -> b < w.heap.size := fun h => by
    rcases Nat.lt_or_ge _ w.heap.size with h' | h'
    . exact h'
    . simp [Array.getElem?_eq_none h'] at h
  induction h with
  | int k n => exact .int k n
  | bool b => exact .bool b
  | str l s h => exact .str l s h
  | nils => exact .nils
  | nil0 => exact .nil0
  | emp a cap => exact .emp a cap
  | nilp => exact .nilp
  | nilm => exact .nilm
  | lst b off cap n cells e fr xs vs sz h1 h2 h3 h4 h5 h5b h6 h7 ih =>
    exact .lst b off cap n cells e fr xs vs sz (hk b h1 (lt h2)).1 ((hk b h1 (lt h2)).2.trans h2) h3 h4 h5 h5b ih h7
  | rowb b cap n cells e xs vs sz h1 h2 h3 h4 h5 h5b h5c h5d h6 h7 ih =>
    exact .rowb b cap n cells e xs vs sz (hk b h1 (lt h2)).1 ((hk b h1 (lt h2)).2.trans h2) h3 h4 h5 h5b h5c h5d ih h7
  | fullN => exact .fullN
  | fullE a => exact .fullE a
  | full b off n cells e fr xs vs sz h1 h2 h3 h4 h5b h6 h7 ih =>
    exact .full b off n cells e fr xs vs sz (hk b h1 (lt h2)).1 ((hk b h1 (lt h2)).2.trans h2) h3 h4 h5b ih h7
  | map b es clock kvs h1 h2 h3 h4 h5 ih1 ih2 =>
    exact .map b es clock kvs (hk b h1 (lt h2)).1 ((hk b h1 (lt h2)).2.trans h2) h3 ih1 ih2
  | agg cs xs h1 h2 h3 ih => exact .agg cs xs h1 h2 ih
  | tup cs xs h1 h2 ih => exact .tup cs xs h1 ih
  | ptr b off v x cells e fr h1 h2 h3 h4 ih => exact .ptr b off v x cells e fr (hk b h1 (lt h2)).1 ((hk b h1 (lt h2)).2.trans h2) h3 ih
  | fn f vs cap h1 h2 ih => exact .fn f vs cap h1 ih
theorem RepD.oneCell {ok : Nat -> Prop} {w : World} {v : Value} {x : D} (h : RepD ok w v x) (hx : x.one = true) : v.cells = #[v] := by
  cases h <;> first | rfl | (simp [D.one] at hx)
theorem RepD.oneCell' {ok : Nat -> Prop} {w : World} {v : Value} {x : D} (h : RepD ok w v x) (hx : x.one = true) : v.oneCell' = true := by
  cases h <;> first | rfl | (simp [D.one] at hx)
theorem RepD.int_inv {ok : Nat -> Prop} {w : World} {v : Value} {k : IntKind} {n : Int} (h : RepD ok w v (.int k n)) : v = .int k n := by cases h; rfl
theorem RepD.bool_inv {ok : Nat -> Prop} {w : World} {v : Value} {b : Bool} (h : RepD ok w v (.bool b)) : v = .bool b := by cases h; rfl
theorem RepD.str_inv {ok : Nat -> Prop} {w : World} {v : Value} {l : List UInt8} (h : RepD ok w v (.str l)) : v = .string ⟨l.toArray⟩ := by cases h; subst_vars; rfl
theorem RepD.nils_inv {ok : Nat -> Prop} {w : World} {v : Value} (h : RepD ok w v .nils) : v = .slice none 0 0 := by cases h; rfl
structure Loc where
  b : Nat
  cap : Nat
  nil : Bool
  kids : List (Nat × Nat × Bool)
inductive SV where
  | junk
  | und
  | d (x : D)
  | ref (id off : Nat)
  | own (id : Nat)
  | elt (id i : Nat)
  | sub (id i : Nat)
  | agg (l : List SV)
  | tup (l : List SV)
  | fn (f : Nat) (l : List SV)
  | cel (id i off : Nat)
  deriving Inhabited
inductive Chunk where
  | box (cells : List SV)
  | arr (e sz : Nat) (xs : List D)
  | rows (e e' sz : Nat) (xss : List (List D)) (hole : Option (Nat × SV))
  | map (kvs : List (D × D))
abbrev Heap := List (Nat × Chunk)
abbrev Slots := List (Nat × SV)
def Heap.get (h : Heap) (id : Nat) : Option Chunk :=
  match h with
  | [] => none
  | p :: h => if p.1 = id then some p.2 else Heap.get h id
def lk (s : Slots) (t : Nat) : SV :=
  match s with
  | [] => .junk
  | p :: s => if t = p.1 then p.2 else lk s t
def sliceAt (l : Loc) (n : Nat) : Value := if l.nil then .slice none 0 0 else .slice (some ⟨l.b, 0, none⟩) n l.cap
def viewAt (l : Loc) (i sz n : Nat) : Value := if l.nil then .slice none 0 0 else if i % 2 = 0 then .slice (some ⟨l.b, if l.cap = i / 2 then 0 else i / 2 * sz, none⟩) (n - i / 2) (l.cap - i / 2) else .slice (some ⟨l.b, 0, none⟩) (i / 2) l.cap
def ViewIs (v : Value) (l : Loc) (i sz n : Nat) : Prop := v = viewAt l i sz n \/ (l.nil = false /\ i % 2 = 0 /\ l.cap = i / 2 /\ n = i / 2 /\ ∃ o, v = .slice (some ⟨l.b, o, none⟩) 0 0)
theorem view_from {l : Loc} {m sz n : Nat} (h : l.nil = false) : viewAt l (2 * m) sz n = .slice (some ⟨l.b, if l.cap = m then 0 else m * sz, none⟩) (n - m) (l.cap - m) := by
  unfold viewAt
  rw [h, if_neg (by simp), if_pos (by omega), show 2 * m / 2 = m by omega]
theorem view_to {l : Loc} {m sz n : Nat} (h : l.nil = false) : viewAt l (2 * m + 1) sz n = .slice (some ⟨l.b, 0, none⟩) m l.cap := by
  unfold viewAt
  rw [h, if_neg (by simp), if_neg (by omega), show (2 * m + 1) / 2 = m by omega]
theorem ViewIs.odd {v : Value} {l : Loc} {m sz n : Nat} (h : ViewIs v l (2 * m + 1) sz n) : v = viewAt l (2 * m + 1) sz n := h.resolve_right fun h => by omega
theorem ViewIs.lt {v : Value} {l : Loc} {m sz n : Nat} (h : ViewIs v l (2 * m) sz n) (hm : m < n) : v = viewAt l (2 * m) sz n := h.resolve_right fun h => by omega
theorem ViewIs.ex {v : Value} {l : Loc} {m sz n : Nat} (h : ViewIs v l (2 * m) sz n) (hn : l.nil = false) : ∃ o, v = .slice (some ⟨l.b, o, none⟩) (n - m) (l.cap - m) /\ (l.cap ≠ m -> o = m * sz) := by
  rcases h with h | ⟨-, -, h2, h3, o, h4⟩
  . rw [view_from hn] at h
    exact ⟨_, h, fun hc => if_neg hc⟩
  . exact ⟨o, by rw [h4, show n - m = 0 by omega, show l.cap - m = 0 by omega], fun hc => absurd h2 (by omega)⟩
def kidLoc (q : Nat × Nat × Bool) : Loc := ⟨q.1, q.2.1, q.2.2, []⟩
def kidBlk (hole : Option Nat) : Nat -> List (Nat × Nat × Bool) -> List Nat
  | _, [] => []
  | i, q :: l => match q.2.2 with
    | true => kidBlk hole (i + 1) l
    | false => if hole = some i then kidBlk hole (i + 1) l else q.1 :: kidBlk hole (i + 1) l
def hat : Option (Nat × SV) -> Option Nat
  | some p => some p.1
  | none => none
def blk (l : Loc) : Chunk -> List Nat
  | .box _ => [l.b]
  | .map _ => [l.b]
  | .arr _ _ _ => match l.nil with
    | true => []
    | false => [l.b]
  | .rows _ _ _ _ hole => match l.nil with
    | true => []
    | false => l.b :: kidBlk (hat hole) 0 l.kids
mutual
def RepSV (σ : Nat -> Loc) (h : Heap) (ok : Nat -> Prop) (w : World) (v : Value) : SV -> Prop
  | .junk => True
  | .und => v = undef
  | .d x => RepD ok w v x
  | .ref id off => v = .pointer (some ⟨(σ id).b, off, none⟩)
  | .own id => match h.get id with
    | some (.arr _ _ xs) => v = sliceAt (σ id) xs.length
    | some (.rows _ _ _ xss _) => v = sliceAt (σ id) xss.length
    | some (.map _) => v = .map (some (σ id).b)
    | _ => True
  | .elt id i => match h.get id with
    | some (.arr _ sz _) => v = .pointer (some ⟨(σ id).b, i * sz, none⟩)
    | some (.rows _ _ _ _ _) => v = .pointer (some ⟨(σ id).b, i, none⟩)
    | _ => True
  | .sub id i => match h.get id with
    | some (.rows _ _ _ xss _) => ∃ q xs, (σ id).kids[i]? = some q /\ xss[i]? = some xs /\ v = sliceAt (kidLoc q) xs.length
    | some (.arr _ sz xs) => ViewIs v (σ id) i sz xs.length
    | _ => True
  | .agg l => ∃ cs : Array Value, v = .agg cs /\ RepSVs σ h ok w true cs.toList l
  | .tup l => ∃ cs : Array Value, v = .tuple cs /\ RepSVs σ h ok w false cs.toList l
  | .fn f l => ∃ cs : Array Value, v = .func (.func f) #[] cs /\ RepSVs σ h ok w false cs.toList l
  | .cel id i off => ∃ q, (σ id).kids[i]? = some q /\ v = .pointer (some ⟨q.1, off, none⟩)
def RepSVs (σ : Nat -> Loc) (h : Heap) (ok : Nat -> Prop) (w : World) (one : Bool) (vs : List Value) : List SV -> Prop
  | [] => vs = []
  | x :: l => ∃ v vs', vs = v :: vs' /\ RepSV σ h ok w v x /\ (one = true -> v.oneCell' = true) /\ RepSVs σ h ok w one vs' l
end
def RepCells (ok : Nat -> Prop) (w : World) (sz : Nat) (cl : List Value) (xs : List D) : Prop :=
  cl.length = xs.length * sz /\ ∃ vs : List Value, vs.length = xs.length /\ (∀ (i : Nat) v x, vs[i]? = some v -> xs[i]? = some x -> RepD ok w v x) /\
    ∀ (i : Nat) v, vs[i]? = some v -> v.cells.size = sz /\ ∀ j, j < sz -> cl[i * sz + j]? = v.cells[j]?
def RepArr (ok : Nat -> Prop) (w : World) (l : Loc) (e sz : Nat) (xs : List D) : Prop :=
  0 < sz /\ ∃ cl, w.ownsRow 0 e sz (sliceAt l xs.length) xs.length cl /\ RepCells ok w sz cl xs
def RepMap (ok : Nat -> Prop) (w : World) (b : Nat) (kvs : List (D × D)) : Prop :=
  ∃ (es : Array MapEntry) (clock : Nat), w.heap[b]? = some (.map es clock) /\ es.size = kvs.length /\
    (∀ (i : Nat) e kv, es[i]? = some e -> kvs[i]? = some kv -> RepD ok w e.key kv.1 /\ RepD ok w e.val kv.2)
def RepChunk (σ : Nat -> Loc) (h : Heap) (ok : Nat -> Prop) (w : World) (l : Loc) : Chunk -> Prop
  | .box cells => l.nil = false /\ ∃ cs t, w.heap[l.b]? = some (.cells cs t (0, 0)) /\ cs.size = cells.length /\
      ∀ (i : Nat) v x, cs[i]? = some v -> cells[i]? = some x -> RepSV σ h ok w v x /\ v.oneCell' = true
  | .arr e sz xs => RepArr ok w l e sz xs
  | .rows e e' sz xss hole => 0 < sz /\ l.kids.length = xss.length /\
      (∃ cl, w.ownsRow 0 e 1 (sliceAt l xss.length) xss.length cl /\ ∀ (i : Nat) q xs, l.kids[i]? = some q -> xss[i]? = some xs -> cl[i]? = some (sliceAt (kidLoc q) xs.length) /\ (q.2.2 = true -> xs = [])) /\
      (∀ (i : Nat) q xs, l.kids[i]? = some q -> xss[i]? = some xs -> hat hole ≠ some i -> RepArr ok w (kidLoc q) e' sz xs) /\
      ∀ (p : Nat × SV), hole = some p -> ∀ q xs, l.kids[p.1]? = some q -> xss[p.1]? = some xs -> RepSV σ h ok w (sliceAt (kidLoc q) xs.length) p.2
  | .map kvs => RepMap ok w l.b kvs
structure TR where
  agg : Bool
  size : Nat
  bytes : Nat
  isSl : Bool
  isStr : Bool
  isBool : Bool
  elem : Nat
  fields : List (Nat × Nat × Bool)
  kind : Option IntKind
  zero : List D
  mp : Option (Nat × Nat)
def isAggD : TypeDesc -> Bool
  | .struct _ => true
  | .array _ _ => true
  | _ => false
def zeroIs : Value -> D -> Bool
  | .int k n, .int k' n' => decide (k = k') && decide (n = n')
  | .bool b, .bool b' => b == b'
  | .string s, .str l => decide (s.data.toList = l)
  | .slice none 0 0, .nils => true
  | .pointer none, .nilp => true
  | .map none, .nilm => true
  | _, _ => false
def zeroAre : List Value -> List D -> Bool
  | [], [] => true
  | v :: vs, x :: xs => zeroIs v x && zeroAre vs xs
  | _, _ => false
def fieldIs (P : Program) (f : Field) (q : Nat × Nat × Bool) : Bool :=
  f.offset == q.1 && (match P.underlying f.type, P.info? f.type with
    | some d, some i => isAggD d == q.2.2 && i.size == q.2.1 && decide (0 < i.size) && (q.2.2 || decide (q.2.1 = 1))
    | _, _ => false)
def fieldsAre (P : Program) : List Field -> List (Nat × Nat × Bool) -> Bool
  | [], [] => true
  | f :: fs, q :: qs => fieldIs P f q && fieldsAre P fs qs
  | _, _ => false
def mpOk (P : Program) (t : Nat) (r : TR) : Bool :=
  match P.underlying t with
  | some (.map k e) => decide (r.mp = some (k, e))
  | _ => decide (r.mp = none)
def trOk0 (P : Program) (t : Nat) (r : TR) : Bool :=
  match P.underlying t, P.info? t with
  | some d, some i =>
    (isAggD d == r.agg) && (i.size == r.size) && (i.bytes == r.bytes) &&
    (match d with | .slice e => r.isSl && r.elem == e | _ => !r.isSl) &&
    (match d with | .string => r.isStr | _ => !r.isStr) &&
    (match d with | .bool => r.isBool | _ => !r.isBool) &&
    (match d with | .struct fs => fieldsAre P fs.toList r.fields | _ => r.fields.isEmpty) &&
    (match d with | .int k => decide (r.kind = some k) | _ => decide (r.kind = none)) &&
    (match i.zero with | some z => zeroAre z.cells.toList r.zero | none => false)
  | _, _ => false
def zOk (P : Program) (t : Nat) (r : TR) : Bool :=
  r.agg || match P.info? t with
    | some i => match i.zero with
      | some z => z.oneCell'
      | none => true
    | none => true
def trOk (P : Program) (t : Nat) (r : TR) : Bool := trOk0 P t r && (mpOk P t r && zOk P t r)
theorem tr_zone {P : Program} {t : Nat} {r : TR} (h : trOk P t r = true) (ha : r.agg = false) {i : TypeInfo} {z : Value} (hi : P.info? t = some i) (hz : i.zero = some z) : z.oneCell' = true := by
  simp only [trOk, Bool.and_eq_true] at h
  have h2 := h.2.2
  unfold zOk at h2
  rw [ha, hi] at h2
  simp only [hz, Bool.false_or] at h2
  exact h2
theorem tr_map {P : Program} {t : Nat} {r : TR} (h : trOk P t r = true) {k e : Nat} (hm : r.mp = some (k, e)) : P.underlying t = some (.map k e) := by
  simp only [trOk, Bool.and_eq_true] at h
  have h2 := h.2.1
  unfold mpOk at h2
  rw [hm] at h2
  split at h2
  . rename_i k' e' hd
    simp at h2
    rw [hd, <- h2.1, <- h2.2]
  . simp at h2
def tabOk (P : Program) (T : List (Nat × TR)) : Bool := T.all fun p => trOk P p.1 p.2
def tget (T : List (Nat × TR)) (t : Nat) : Option TR :=
  match T with
  | [] => none
  | p :: T => if p.1 = t then some p.2 else tget T t
theorem tget_ok {P : Program} {T : List (Nat × TR)} (h : tabOk P T = true) {t : Nat} {r : TR} (hg : tget T t = some r) : trOk P t r = true := by
  induction T with
  | nil => cases hg
  | cons p T ih =>
    simp only [tabOk, List.all_cons, Bool.and_eq_true] at h
    simp only [tget] at hg
    split at hg
    . rename_i e; cases hg; subst e; exact h.1
    . exact ih h.2 hg
def EnvX (P : Program) (XM : Nat -> Nat -> Prop) (XA : Nat -> Prop) : Prop := (∀ i b, XM i b -> ¬ envBlk P b) /\ ∀ b, XA b -> ¬ envBlk P b
theorem envX_none {P : Program} : EnvX P (fun _ _ => False) fun _ => False := ⟨fun _ _ h => h.elim, fun _ h => h.elim⟩
structure Cx where
  P : Program
  T : List (Nat × TR)
  tab : tabOk P T = true
  w0 : World
  ok0 : Nat -> Prop
  XM : Nat -> Nat -> Prop
  XA : Nat -> Prop
  nt : Nat
  anc : Nat -> Loc
  ntle : Nat.ble nt 10000 = true
  nw : Nat
  nwle : w0.heap.size <= nw
  env0 : EnvAt P w0
  envX : EnvX P XM XA
def isMov (id : Nat) : Bool := Nat.ble 20000 id && Nat.blt id 30000
def Cx.X0 (cx : Cx) (i b : Nat) : Prop := match isMov i with
  | true => cx.XM i b
  | false => cx.XA b
structure Evo (cx : Cx) (w : World) : Prop where
  os : w.os = cx.w0.os
  tape : w.tape = cx.w0.tape
  output : w.output = cx.w0.output
  size : cx.nw <= w.heap.size
  block : ∀ b, b < cx.w0.heap.size -> (∀ i, ¬ cx.X0 i b) -> w.heap[b]? = cx.w0.heap[b]?
def okf (cx : Cx) (σ : Nat -> Loc) (h : Heap) (b : Nat) : Prop := (cx.ok0 b \/ cx.nw <= b) /\ ∀ p ∈ h, b ∉ blk (σ p.1) p.2
def isAnc (id : Nat) : Bool := Nat.ble 10000 id && Nat.blt id 20000
structure HeapOk (cx : Cx) (σ : Nat -> Loc) (h : Heap) (w : World) : Prop where
  nodup : (h.map (·.1)).Nodup
  nd : ∀ p ∈ h, (blk (σ p.1) p.2).Nodup
  inj : ∀ p ∈ h, ∀ q ∈ h, ∀ b, b ∈ blk (σ p.1) p.2 -> b ∈ blk (σ q.1) q.2 -> p.1 = q.1
  mine : ∀ p ∈ h, ∀ b, b ∈ blk (σ p.1) p.2 -> (cx.X0 p.1 b \/ cx.w0.heap.size <= b) /\ (p.1 < 10000 -> cx.w0.heap.size <= b) /\ b < w.heap.size
  rep : ∀ p ∈ h, RepChunk σ h (okf cx σ h) w (σ p.1) p.2
  anc : ∀ p ∈ h, isAnc p.1 = true -> σ p.1 = cx.anc p.1
structure RW (cx : Cx) (σ : Nat -> Loc) (s : Nat -> SV) (h : Heap) (a : Act) (w : World) : Prop where
  evo : Evo cx w
  defers : a.defers = []
  size : a.tmps.size = cx.nt
  heap : HeapOk cx σ h w
  slots : ∀ t, RepSV σ h (okf cx σ h) w (a.tmps.getD t undef) (s t)
theorem Cx.noX {cx : Cx} {b : Nat} (hb : envBlk cx.P b) (i : Nat) : ¬ cx.X0 i b := fun h => by
  unfold Cx.X0 at h
  split at h
  . exact cx.envX.1 i b h hb
  . exact cx.envX.2 b h hb
theorem Evo.env {cx : Cx} {w : World} (h : Evo cx w) : EnvAt cx.P w := envAt_keep cx.env0 fun b hb => h.block b (envBlk_lt cx.env0 hb) (cx.noX hb)
theorem HeapOk.env {cx : Cx} {σ : Nat -> Loc} {h : Heap} {w : World} (hh : HeapOk cx σ h w) : ∀ p ∈ h, ∀ b, b ∈ blk (σ p.1) p.2 -> ¬ envBlk cx.P b := fun p hp b hb he => by
  rcases (hh.mine p hp b hb).1 with h1 | h1
  . exact cx.noX he _ h1
  . have := envBlk_lt cx.env0 he; omega
def R (cx : Cx) (s : Nat -> SV) (h : Heap) (a : Act) (w : World) : Prop := ∃ σ, RW cx σ s h a w
def upd (s : Nat -> SV) (t : Nat) (v : SV) : Nat -> SV := fun u => if u = t then v else s u
def fput (s : Nat -> SV) (dst : Option Nat) (v : SV) : Nat -> SV :=
  match dst with
  | some t => upd s t v
  | none => s
def put (s : Slots) (dst : Option Nat) (v : SV) : Slots :=
  match dst with
  | some t => (t, v) :: s
  | none => s
theorem lk_put (s : Slots) (dst : Option Nat) (v : SV) : lk (put s dst v) = fput (lk s) dst v := by
  cases dst <;> rfl
mutual
theorem RepSV.mono {σ : Nat -> Loc} {h : Heap} {ok ok' : Nat -> Prop} {w w' : World} (hk : ∀ b, ok b -> b < w.heap.size -> ok' b /\ w'.heap[b]? = w.heap[b]?) :
    ∀ {x : SV} {v : Value}, RepSV σ h ok w v x -> RepSV σ h ok' w' v x
  | .junk, _, _ => trivial
  | .und, _, hr => hr
  | .d x, _, hr => RepD.mono hr hk
  | .ref id off, _, hr => hr
  | .own id, _, hr => hr
  | .elt id i, _, hr => hr
  | .sub id i, _, hr => hr
  | .cel id i j, _, hr => hr
  | .agg l, _, ⟨cs, e, hr⟩ => ⟨cs, e, RepSVs.mono hk hr⟩
  | .tup l, _, ⟨cs, e, hr⟩ => ⟨cs, e, RepSVs.mono hk hr⟩
  | .fn f l, _, ⟨cs, e, hr⟩ => ⟨cs, e, RepSVs.mono hk hr⟩
theorem RepSVs.mono {σ : Nat -> Loc} {h : Heap} {ok ok' : Nat -> Prop} {w w' : World} (hk : ∀ b, ok b -> b < w.heap.size -> ok' b /\ w'.heap[b]? = w.heap[b]?) :
    ∀ {l : List SV} {one : Bool} {vs : List Value}, RepSVs σ h ok w one vs l -> RepSVs σ h ok' w' one vs l
  | [], _, _, hr => hr
  | x :: l, _, _, ⟨v, vs', e, h1, h2, h3⟩ => ⟨v, vs', e, RepSV.mono hk h1, h2, RepSVs.mono hk h3⟩
end
theorem RepCells.mono {ok ok' : Nat -> Prop} {w w' : World} {sz : Nat} {cl : List Value} {xs : List D} (hr : RepCells ok w sz cl xs)
    (hk : ∀ b, ok b -> b < w.heap.size -> ok' b /\ w'.heap[b]? = w.heap[b]?) : RepCells ok' w' sz cl xs := by
  obtain ⟨h1, vs, h2, h3, h4⟩ := hr
  exact ⟨h1, vs, h2, fun i v x hv hx => (h3 i v x hv hx).mono hk, h4⟩
theorem ownsRow_mono {w w' : World} {e sz n : Nat} {l : Loc} {cl : List Value} (hr : w.ownsRow 0 e sz (sliceAt l n) n cl) (hl : l.nil = false -> w'.heap[l.b]? = w.heap[l.b]?) : w'.ownsRow 0 e sz (sliceAt l n) n cl := by
  obtain ⟨h1, h3⟩ := hr
  refine ⟨h1, ?_⟩
  rcases h3 with h3 | ⟨g, cap, cur, hv, hb, hg, hrest⟩
  . exact .inl h3
  . refine .inr ⟨g, cap, cur, hv, hb, ?_, hrest⟩
    unfold sliceAt at hv
    split at hv
    . cases hv
    . rename_i hn
      cases hv
      exact (hl (by simpa using hn)).trans hg
theorem ownsRow_lt {w : World} {e sz n : Nat} {l : Loc} {cl : List Value} (hr : w.ownsRow 0 e sz (sliceAt l n) n cl) (hn : l.nil = false) : l.b < w.heap.size := by
  obtain ⟨_, h3⟩ := hr
  rcases h3 with ⟨h3, _⟩ | ⟨g, cap, cur, hv, hb, hg, hrest⟩
  . simp [sliceAt, hn] at h3
  . simp [sliceAt, hn] at hv
    obtain ⟨⟨rfl⟩, _⟩ := hv
    rcases Nat.lt_or_ge l.b w.heap.size with h' | h'
    . exact h'
    . simp [Array.getElem?_eq_none h'] at hg
theorem RepArr.mono {ok ok' : Nat -> Prop} {w w' : World} {l : Loc} {e sz : Nat} {xs : List D} (hr : RepArr ok w l e sz xs)
    (hk : ∀ b, ok b -> b < w.heap.size -> ok' b /\ w'.heap[b]? = w.heap[b]?) (hl : l.nil = false -> w'.heap[l.b]? = w.heap[l.b]?) : RepArr ok' w' l e sz xs := by
  obtain ⟨h0, cl, h1, h2⟩ := hr
  exact ⟨h0, cl, ownsRow_mono h1 hl, h2.mono hk⟩
theorem RepMap.mono {ok ok' : Nat -> Prop} {w w' : World} {b : Nat} {kvs : List (D × D)} (hr : RepMap ok w b kvs)
    (hk : ∀ b, ok b -> b < w.heap.size -> ok' b /\ w'.heap[b]? = w.heap[b]?) (hl : w'.heap[b]? = w.heap[b]?) : RepMap ok' w' b kvs := by
  obtain ⟨es, clock, h1, h2, h3⟩ := hr
  exact ⟨es, clock, hl.trans h1, h2, fun i e kv he hkv => ⟨(h3 i e kv he hkv).1.mono hk, (h3 i e kv he hkv).2.mono hk⟩⟩
theorem mem_kidBlk {hole : Option Nat} : ∀ {l : List (Nat × Nat × Bool)} {k : Nat} {b : Nat}, b ∈ kidBlk hole k l ↔ ∃ i q, l[i]? = some q /\ q.2.2 = false /\ hole ≠ some (k + i) /\ q.1 = b
  | [], k, b => by simp [kidBlk]
  | q :: l, k, b => by
    have ih := @mem_kidBlk hole l (k + 1) b
    have shift : (∃ i p, (q :: l)[i]? = some p /\ p.2.2 = false /\ hole ≠ some (k + i) /\ p.1 = b) ↔ (q.2.2 = false /\ hole ≠ some k /\ q.1 = b) \/ ∃ i p, l[i]? = some p /\ p.2.2 = false /\ hole ≠ some (k + 1 + i) /\ p.1 = b := by
      constructor
      . rintro ⟨i, p, h1, h2, h3, h4⟩
        cases i with
        | zero => simp at h1; subst h1; exact .inl ⟨h2, h3, h4⟩
        | succ i => exact .inr ⟨i, p, by simpa using h1, h2, by rwa [show k + 1 + i = k + (i + 1) by omega], h4⟩
      . rintro (⟨h2, h3, h4⟩ | ⟨i, p, h1, h2, h3, h4⟩)
        . exact ⟨0, q, rfl, h2, h3, h4⟩
        . exact ⟨i + 1, p, by simpa using h1, h2, by rwa [show k + (i + 1) = k + 1 + i by omega], h4⟩
    rw [shift]
    unfold kidBlk
    split
    . rename_i hq
      rw [ih]
      simp [hq]
    . rename_i hq
      split
      . rename_i hh
        rw [ih]
        simp [hh]
      . rename_i hh
        rw [List.mem_cons, ih]
        simp only [hq, ne_eq, hh, not_false_eq_true, true_and]
        constructor
        . rintro (rfl | h)
          . exact .inl rfl
          . exact .inr h
        . rintro (rfl | h)
          . exact .inl rfl
          . exact .inr h
theorem kid_blk {l : Loc} {e e' sz : Nat} {xss : List (List D)} {hole : Option (Nat × SV)} (hn : l.nil = false) {i : Nat} {q : Nat × Nat × Bool} (hq : l.kids[i]? = some q) (hnil : q.2.2 = false) (hh : hat hole ≠ some i) : q.1 ∈ blk l (.rows e e' sz xss hole) := by
  unfold blk
  rw [hn]
  exact List.mem_cons_of_mem _ (mem_kidBlk.2 ⟨i, q, hq, hnil, by simpa using hh, rfl⟩)
theorem rows_nil {w : World} {l : Loc} {e n : Nat} {cl : List Value} (ho : w.ownsRow 0 e 1 (sliceAt l n) n cl) (hn : l.nil = true) : n = 0 := by
  rcases ho.2 with ⟨_, h⟩ | ⟨_, _, _, h, _⟩
  . exact h
  . simp [sliceAt, hn] at h
theorem RepChunk.mono {σ : Nat -> Loc} {h : Heap} {ok ok' : Nat -> Prop} {w w' : World} {l : Loc} {c : Chunk} (hr : RepChunk σ h ok w l c)
    (hk : ∀ b, ok b -> b < w.heap.size -> ok' b /\ w'.heap[b]? = w.heap[b]?) (hl : ∀ b, b ∈ blk l c -> w'.heap[b]? = w.heap[b]?) : RepChunk σ h ok' w' l c := by
  cases c with
  | box cells =>
    obtain ⟨h0, cs, t, h1, h2, h3⟩ := hr
    exact ⟨h0, cs, t, (hl _ (by simp [blk])).trans h1, h2, fun i v x hv hx => ⟨(h3 i v x hv hx).1.mono hk, (h3 i v x hv hx).2⟩⟩
  | arr e sz xs => exact RepArr.mono hr hk fun hn => hl _ (by simp [blk, hn])
  | rows e e' sz xss hole =>
    obtain ⟨h0, h1, ⟨cl, h2, h3⟩, h4, h5⟩ := hr
    refine ⟨h0, h1, ⟨cl, ownsRow_mono h2 fun hn => hl _ (by simp [blk, hn]), h3⟩, fun i q xs hq hx hh => (h4 i q xs hq hx hh).mono hk fun hn => hl _ ?_, fun p hp q xs hq hx => (h5 p hp q xs hq hx).mono hk⟩
    cases hnil : l.nil with
    | true =>
      have := rows_nil h2 hnil
      rw [this] at h1
      have : l.kids = [] := List.eq_nil_of_length_eq_zero h1
      rw [this] at hq
      simp at hq
    | false => exact kid_blk hnil hq hn hh
  | map kvs => exact RepMap.mono hr hk (hl _ (by simp [blk]))
open RowKit in
theorem RW.ext {cx : Cx} {σ : Nat -> Loc} {s : Nat -> SV} {h : Heap} {a : Act} {w w' : World} (hr : RW cx σ s h a w) (hb : Below w.heap.size w w') : RW cx σ s h a w' := by
  have hk : ∀ b, okf cx σ h b -> b < w.heap.size -> okf cx σ h b /\ w'.heap[b]? = w.heap[b]? := fun b h1 h2 => ⟨h1, hb.block b h2⟩
  refine ⟨⟨hb.os.trans hr.evo.os, hb.tape.trans hr.evo.tape, hb.output.trans hr.evo.output, Nat.le_trans hr.evo.size hb.size, fun b h1 h2 => ?_⟩, hr.defers, hr.size, ⟨hr.heap.nodup, hr.heap.nd, hr.heap.inj, fun p hp b hbb => ?_, fun p hp => ?_, hr.heap.anc⟩, fun t => (hr.slots t).mono hk⟩
  . exact (hb.block b (Nat.lt_of_lt_of_le h1 (Nat.le_trans cx.nwle hr.evo.size))).trans (hr.evo.block b h1 h2)
  . obtain ⟨m1, m2, m3⟩ := hr.heap.mine p hp b hbb
    exact ⟨m1, m2, Nat.lt_of_lt_of_le m3 hb.size⟩
  . exact (hr.heap.rep p hp).mono hk fun b hbb => hb.block b (hr.heap.mine p hp b hbb).2.2
theorem getD_set (xs : Array Value) (t u : Nat) (v : Value) (h : t < xs.size) : (xs.setIfInBounds t v).getD u undef = if u = t then v else xs.getD u undef := by
  by_cases e : u = t
  . subst e; simp [h]
  . rw [if_neg e]
    simp only [Array.getD_eq_getD_getElem?]
    rw [Array.getElem?_setIfInBounds_ne (Ne.symm e)]
theorem RW.put {cx : Cx} {σ : Nat -> Loc} {s : Nat -> SV} {h : Heap} {a : Act} {w : World} (hr : RW cx σ s h a w) {dst : Option Nat} {v : Value} {sv : SV}
    (hd : ∀ t, dst = some t -> t < cx.nt) (hv : RepSV σ h (okf cx σ h) w v sv) : RW cx σ (fput s dst sv) h (a.put dst v) w := by
  cases dst with
  | none => exact hr
  | some t =>
    refine ⟨hr.evo, hr.defers, by simp [Act.put, hr.size], hr.heap, fun u => ?_⟩
    have hlt : t < a.tmps.size := by rw [hr.size]; exact hd t rfl
    simp only [Act.put, getD_set _ _ _ _ hlt, fput, upd]
    split
    . exact hv
    . exact hr.slots u
end Go.Proofs.YtckpadnjldebaaaGreat
namespace Go.Proofs.YtckpadnjldebaaaGreat
open Go.RowKit (Below)
set_option linter.unusedVariables false
def dstOk (nt : Nat) : Option Nat -> Bool
  | some t => Nat.blt t nt
  | none => true
theorem dstOk_lt {nt : Nat} {dst : Option Nat} (h : dstOk nt dst = true) : ∀ t, dst = some t -> t < nt := by
  rintro t rfl
  exact Nat.le_of_ble_eq_true h
def OpTo (cx : Cx) (o : Oper) (s : Slots) (h : Heap) (s' : Slots) (h' : Heap) : Prop :=
  ∀ a w, R cx (lk s) h a w -> ∀ (K : Act -> World -> Prop) (Q : Exit -> Act -> World -> Prop), (∀ a' w', R cx (lk s') h' a' w' -> K a' w') -> o.wp cx.P a w K Q
def Qt (cx : Cx) (h : Heap) (o : Oper) (s : Nat -> SV) (sv : SV) : Prop :=
  ∀ s₁ : Nat -> SV, (∀ t, .tmp t ∈ o.op.operands -> s₁ t = s t) -> ∀ σ a w, RW cx σ s₁ h a w ->
    ∀ (K : Act -> World -> Prop) (Q : Exit -> Act -> World -> Prop), (∀ v w', Below w.heap.size w w' -> RepSV σ h (okf cx σ h) w' v sv -> K (a.put o.dst v) w') -> o.wp cx.P a w K Q
theorem opTo_of_qt {cx : Cx} {o : Oper} {s : Slots} {h : Heap} {sv : SV} (hq : Qt cx h o (lk s) sv) (hd : dstOk cx.nt o.dst = true) : OpTo cx o s h (put s o.dst sv) h := by
  rintro a w ⟨σ, hr⟩ K Q hK
  refine hq (lk s) (fun _ _ => rfl) σ a w hr K Q fun v w' hb hv => hK _ _ ⟨σ, ?_⟩
  rw [lk_put]
  exact (hr.ext hb).put (dstOk_lt hd) hv
def lift (cx : Cx) (Q : Exit -> Slots -> Heap -> Prop) : Exit -> Act -> World -> Prop := fun e a w => ∃ s h, Q e s h /\ R cx (lk s) h a w
def awpL (cx : Cx) (ops : Array Oper) (l : List Oper) (s : Slots) (h : Heap) (Q : Exit -> Slots -> Heap -> Prop) : Prop := ∀ a w, R cx (lk s) h a w -> wpList cx.P ops (lift cx Q) l a w
def awp (cx : Cx) (c : Code) (s : Slots) (h : Heap) (Q : Exit -> Slots -> Heap -> Prop) : Prop := ∀ a w, R cx (lk s) h a w -> c.wp cx.P (lift cx Q) a w
section
variable {cx : Cx} {ops : Array Oper} {o : Oper} {rest : List Oper} {s s' : Slots} {h h' : Heap} {Q : Exit -> Slots -> Heap -> Prop}
theorem awpL_nil (hq : Q .normal s h) : awpL cx ops [] s h Q := fun a w hr => ⟨s, h, hq, hr⟩
theorem awpL_to (hg : o.guard = none) (ho : OpTo cx o s h s' h') (hn : awpL cx ops rest s' h' Q) : awpL cx ops (o :: rest) s h Q := fun a w hr => by
  unfold wpList
  rw [if_pos (by simp [Region.wanted, hg])]
  exact .inl (ho a w hr _ _ fun a' w' hr' => hn a' w' hr')
theorem awpL_q {sv : SV} (hg : o.guard = none) (hd : dstOk cx.nt o.dst = true) (hq : Qt cx h o (lk s) sv) (hn : awpL cx ops rest (put s o.dst sv) h Q) : awpL cx ops (o :: rest) s h Q :=
  awpL_to hg (opTo_of_qt hq hd) hn
theorem rep_bool {σ : Nat -> Loc} {s : Nat -> SV} {a : Act} {w : World} (hr : RW cx σ s h a w) {t : Nat} {b : Bool} (ht : s t = .d (.bool b)) : a.tmps[t]? = some (.bool b) := by
  have h1 := hr.slots t
  rw [ht] at h1
  have h2 : a.tmps.getD t undef = .bool b := RepD.bool_inv h1
  rw [Array.getD_eq_getD_getElem?] at h2
  cases h3 : a.tmps[t]? with
  | none => rw [h3] at h2; cases h2
  | some v => rw [h3] at h2; simpa using h2
theorem rep_und {σ : Nat -> Loc} {s : Nat -> SV} {a : Act} {w : World} (hr : RW cx σ s h a w) {t : Nat} (ht : s t = .und) : ∀ b, a.tmps[t]? ≠ some (.bool b) := by
  intro b hb
  have h1 := hr.slots t
  rw [ht] at h1
  have h2 : a.tmps.getD t undef = undef := h1
  rw [Array.getD_eq_getD_getElem?, hb] at h2
  cases h2
def wantedA (ops : Array Oper) (o : Oper) (s : Nat -> SV) : Option Bool :=
  match o.guard with
  | none => some true
  | some (j, want) =>
    match (ops[j]?).bind (·.dst) with
    | none => none
    | some t => match s t with
      | .d (.bool b) => some (b == want)
      | .und => some false
      | _ => none
theorem wanted_of {σ : Nat -> Loc} {s : Nat -> SV} {a : Act} {w : World} (hr : RW cx σ s h a w) {b : Bool} (hw : wantedA ops o s = some b) : Region.wanted o (yielded ops a.tmps) = b := by
  unfold wantedA at hw
  unfold Region.wanted
  cases hg : o.guard with
  | none => rw [hg] at hw; simpa using hw
  | some q =>
    obtain ⟨j, want⟩ := q
    rw [hg] at hw
    simp only at hw ⊢
    unfold yielded
    cases hj : (ops[j]?).bind (·.dst) with
    | none => rw [hj] at hw; cases hw
    | some t =>
      rw [hj] at hw
      simp only [Option.bind_some] at hw ⊢
      cases ht : s t with
      | d x =>
        rw [ht] at hw
        cases x <;> simp at hw
        rw [rep_bool hr ht, <- hw]
        simp
      | und =>
        rw [ht] at hw
        simp at hw
        subst hw
        have := rep_und hr ht
        cases hv : a.tmps[t]? with
        | none => simp
        | some v => cases v <;> first | (exact absurd hv (this _)) | simp
      | _ => rw [ht] at hw; cases hw
theorem awpL_run {sv : SV} (hw : wantedA ops o (lk s) = some true) (hd : dstOk cx.nt o.dst = true) (hq : Qt cx h o (lk s) sv) (hn : awpL cx ops rest (put s o.dst sv) h Q) : awpL cx ops (o :: rest) s h Q := fun a w hr => by
  unfold wpList
  rw [if_pos (by obtain ⟨σ, hr⟩ := hr; exact wanted_of hr hw)]
  exact .inl (opTo_of_qt hq hd a w hr _ _ fun a' w' hr' => hn a' w' hr')
theorem awpL_skip (hw : wantedA ops o (lk s) = some false) (hd : dstOk cx.nt o.dst = true) (hn : awpL cx ops rest (put s o.dst .und) h Q) : awpL cx ops (o :: rest) s h Q := fun a w hr => by
  unfold wpList
  obtain ⟨σ, hr⟩ := hr
  rw [if_neg (by rw [wanted_of hr hw]; simp)]
  refine hn _ _ ⟨σ, ?_⟩
  rw [lk_put]
  exact hr.put (dstOk_lt hd) rfl
theorem R_set {a : Act} {w : World} {t : Nat} {v v' : SV} (hr : R cx (lk s) h a w) (ht : lk s t = v) (hv : v = v') : R cx (lk ((t, v') :: s)) h a w := by
  obtain ⟨σ, hr⟩ := hr
  refine ⟨σ, hr.evo, hr.defers, hr.size, hr.heap, fun u => ?_⟩
  simp only [lk]
  split
  . rename_i e; subst e; rw [<- hv, <- ht]; exact hr.slots u
  . exact hr.slots u
theorem awpL_split {j t : Nat} {want b : Bool} (hg : o.guard = some (j, want)) (hj : (ops[j]?).bind (·.dst) = some t) (hb : lk s t = .d (.bool b))
    (h1 : b = true -> awpL cx ops (o :: rest) ((t, .d (.bool true)) :: s) h Q) (h2 : b = false -> awpL cx ops (o :: rest) ((t, .d (.bool false)) :: s) h Q) : awpL cx ops (o :: rest) s h Q := fun a w hr => by
  cases b with
  | true => exact h1 rfl a w (R_set hr hb rfl)
  | false => exact h2 rfl a w (R_set hr hb rfl)
def thenQ (cx : Cx) (y : Code) (Q : Exit -> Slots -> Heap -> Prop) : Exit -> Slots -> Heap -> Prop
  | .normal, s, h => awp cx y s h Q
  | e, s, h => Q e s h
def blockQ (id : Nat) (Q : Exit -> Slots -> Heap -> Prop) : Exit -> Slots -> Heap -> Prop
  | .exit i, s, h => if i = id then Q .normal s h else Q (.exit i) s h
  | e, s, h => Q e s h
def Subs (s : Slots) : Slots -> Prop
  | [] => True
  | p :: l => lk s p.1 = p.2 /\ Subs s l
theorem Subs.all {s l : Slots} (hs : Subs s l) : ∀ p ∈ l, lk s p.1 = p.2 := by
  induction l with
  | nil => simp
  | cons p l ih =>
    intro q hq
    rcases List.mem_cons.1 hq with rfl | hq
    . exact hs.1
    . exact ih hs.2 q hq
def loopQ {ι : Type} (I : ι -> Prop) (St : ι -> Slots) (Hp : ι -> Heap) (μ : ι -> Nat) (i : ι) (Q : Exit -> Slots -> Heap -> Prop) : Exit -> Slots -> Heap -> Prop
  | .normal, s, h => ∃ j, I j /\ Subs s (St j) /\ Hp j = h /\ μ j < μ i
  | e, s, h => Q e s h
theorem awp_seq {x y : Code} (hx : awp cx x s h (thenQ cx y Q)) : awp cx (.seq x y) s h Q := fun a w hr => by
  refine wp_seq (wp_mono (hx a w hr) ?_)
  rintro e a' w' ⟨s', h', hq, hr'⟩
  cases e with
  | normal => exact hq a' w' hr'
  | exit _ => exact ⟨s', h', hq, hr'⟩
  | goto _ => exact ⟨s', h', hq, hr'⟩
  | ret => exact ⟨s', h', hq, hr'⟩
  | panic _ => exact ⟨s', h', hq, hr'⟩
  | outgrown => exact ⟨s', h', hq, hr'⟩
theorem awp_skip (hq : Q .normal s h) : awp cx .skip s h Q := fun a w hr => wp_skip ⟨s, h, hq, hr⟩
theorem awp_exit {id : Nat} (hq : Q (.exit id) s h) : awp cx (.exit id) s h Q := fun a w hr => wp_exit ⟨s, h, hq, hr⟩
theorem awp_ret (hq : Q .ret s h) : awp cx .ret s h Q := fun a w hr => wp_ret ⟨s, h, hq, hr⟩
theorem awp_label {l : Nat} (hq : Q .normal s h) : awp cx (.label l) s h Q := fun a w hr => wp_label ⟨s, h, hq, hr⟩
theorem awp_block {id : Nat} {c : Code} (hc : awp cx c s h (blockQ id Q)) : awp cx (.block id c) s h Q := fun a w hr => by
  refine wp_block (wp_mono (hc a w hr) ?_)
  rintro e a' w' ⟨s', h', hq, hr'⟩
  cases e with
  | exit i =>
    simp only [Exit.inBlock, blockQ] at hq ⊢
    split
    . rename_i e; rw [if_pos e] at hq; exact ⟨s', h', hq, hr'⟩
    . rename_i e; rw [if_neg e] at hq; exact ⟨s', h', hq, hr'⟩
  | normal => exact ⟨s', h', hq, hr'⟩
  | goto _ => exact ⟨s', h', hq, hr'⟩
  | ret => exact ⟨s', h', hq, hr'⟩
  | panic _ => exact ⟨s', h', hq, hr'⟩
  | outgrown => exact ⟨s', h', hq, hr'⟩
def opvB (s : Nat -> SV) : Operand -> SV
  | .tmp t => s t
  | .const (.bool b) => .d (.bool b)
  | _ => .junk
theorem eval_bool {σ : Nat -> Loc} {s : Nat -> SV} {a : Act} {w : World} (hr : RW cx σ s h a w) {c : Operand} {b : Bool} (hc : opvB s c = .d (.bool b)) : a.eval c = .bool b := by
  cases c with
  | tmp t =>
    have h1 := hr.slots t
    rw [show s t = .d (.bool b) from hc] at h1
    exact RepD.bool_inv h1
  | const v => cases v <;> simp [opvB] at hc; subst hc; rfl
  | global g => cases hc
  | func f => cases hc
theorem awp_cond {c : Operand} {x y : Code} (b : Bool) (hc : opvB (lk s) c = .d (.bool b)) (ht : b = true -> awp cx x s h Q) (hf : b = false -> awp cx y s h Q) : awp cx (.cond c x y) s h Q := fun a w hr => by
  obtain ⟨σ, hr'⟩ := hr
  refine wp_cond_split (eval_bool hr' hc) (fun e => ht e a w ⟨σ, hr'⟩) (fun e => hf e a w ⟨σ, hr'⟩)
theorem awp_region {id : Nat} {l : List Oper} (hl : awpL cx l.toArray l s h Q) : awp cx (.region id l.toArray false) s h Q := fun a w hr =>
  wp_region_lit (hl a w hr)
theorem awp_mono {c : Code} {Q' : Exit -> Slots -> Heap -> Prop} (hc : awp cx c s h Q') (hq : ∀ e s h, Q' e s h -> Q e s h) : awp cx c s h Q := fun a w hr =>
  wp_mono (hc a w hr) fun e a' w' ⟨s', h', q, r⟩ => ⟨s', h', hq _ _ _ q, r⟩
theorem R_sub {a : Act} {w : World} (hr : R cx (lk s) h a w) (hs : ∀ p ∈ s', lk s p.1 = p.2) : R cx (lk s') h a w := by
  obtain ⟨σ, hr⟩ := hr
  refine ⟨σ, hr.evo, hr.defers, hr.size, hr.heap, fun t => ?_⟩
  have key : ∀ l : Slots, (∀ p ∈ l, lk s p.1 = p.2) -> lk l t = .junk \/ lk l t = lk s t := by
    intro l
    induction l with
    | nil => exact fun _ => .inl rfl
    | cons p l ih =>
      intro hl
      simp only [lk]
      split
      . rename_i e; right; rw [e]; exact (hl p (List.mem_cons_self ..)).symm
      . exact ih fun q hq => hl q (List.mem_cons_of_mem _ hq)
  rcases key s' hs with e | e
  . rw [e]; trivial
  . rw [e]; exact hr.slots t
theorem awp_sub {c : Code} (hs : Subs s s') (hc : awp cx c s' h Q) : awp cx c s h Q := fun a w hr => hc a w (R_sub hr hs.all)
theorem then_n {y : Code} (hh : awp cx y s h Q) : thenQ cx y Q .normal s h := hh
theorem then_r {y : Code} (hh : Q .ret s h) : thenQ cx y Q .ret s h := hh
theorem then_x {y : Code} {i : Nat} (hh : Q (.exit i) s h) : thenQ cx y Q (.exit i) s h := hh
theorem block_n {id : Nat} (hh : Q .normal s h) : blockQ id Q .normal s h := hh
theorem block_r {id : Nat} (hh : Q .ret s h) : blockQ id Q .ret s h := hh
theorem block_x {id : Nat} (hh : Q .normal s h) : blockQ id Q (.exit id) s h := by simp only [blockQ, if_true]; exact hh
theorem block_y {id i : Nat} (hne : Nat.beq i id = false) (hh : Q (.exit i) s h) : blockQ id Q (.exit i) s h := by
  simp only [blockQ]
  rw [if_neg (Nat.ne_of_beq_eq_false hne)]
  exact hh
theorem loop_r {ι : Type} {I : ι -> Prop} {St : ι -> Slots} {Hp : ι -> Heap} {μ : ι -> Nat} {i : ι} (hh : Q .ret s h) : loopQ I St Hp μ i Q .ret s h := hh
theorem loop_x {ι : Type} {I : ι -> Prop} {St : ι -> Slots} {Hp : ι -> Heap} {μ : ι -> Nat} {i : ι} {j : Nat} (hh : Q (.exit j) s h) : loopQ I St Hp μ i Q (.exit j) s h := hh
theorem loop_n {ι : Type} {I : ι -> Prop} {St : ι -> Slots} {Hp : ι -> Heap} {μ : ι -> Nat} {i : ι} (j : ι) (hj : I j) (h1 : Subs s (St j)) (h2 : Hp j = h) (h3 : μ j < μ i) : loopQ I St Hp μ i Q .normal s h := ⟨j, hj, h1, h2, h3⟩
theorem awp_loop {ι : Type} {c : Code} (I : ι -> Prop) (St : ι -> Slots) (Hp : ι -> Heap) (μ : ι -> Nat) (i : ι) (hi : I i) (h0 : Subs s (St i)) (hh : Hp i = h)
    (round : ∀ i, I i -> awp cx c (St i) (Hp i) (loopQ I St Hp μ i Q)) : awp cx (.loop c) s h Q := by
  subst hh
  intro a w hr b k cs
  have key : ∀ n i, μ i = n -> I i -> ∀ a w, R cx (lk (St i)) (Hp i) a w ->
      ∃ e a' w', lift cx Q e a' w' /\ Arrives cx.P (lone (b.at a (.code c :: .inLoop c :: k)) cs w) b k cs e a' w' := by
    intro n
    induction n using Nat.strongRecOn with
    | _ n ih =>
      intro i hn hI a w hR
      obtain ⟨e, a₁, w₁, ⟨s', h', hq, hr'⟩, harr⟩ := round i hI a w hR b (.inLoop c :: k) cs
      cases e with
      | normal =>
        obtain ⟨j, hIj, hj, hh, hlt⟩ := hq
        subst hh
        obtain ⟨e₂, a₂, w₂, hq₂, harr₂⟩ := ih (μ j) (hn ▸ hlt) j rfl hIj a₁ w₁ (R_sub hr' hj.all)
        exact ⟨e₂, a₂, w₂, hq₂, .of_steps (Steps.trans harr (.one step_inLoop)) harr₂⟩
      | exit id => exact ⟨_, a₁, w₁, ⟨s', h', hq, hr'⟩, .pass (x := .inLoop c) rfl (fun _ _ => .inl (by simp)) harr⟩
      | goto l => exact ⟨_, a₁, w₁, ⟨s', h', hq, hr'⟩, .pass (x := .inLoop c) rfl (fun _ _ => .inl (by simp)) harr⟩
      | ret => exact ⟨_, a₁, w₁, ⟨s', h', hq, hr'⟩, .pass (x := .inLoop c) rfl (fun _ _ => .inl (by simp)) harr⟩
      | panic ch => exact ⟨_, a₁, w₁, ⟨s', h', hq, hr'⟩, .pass (x := .inLoop c) rfl (fun _ _ => .inl (by simp)) harr⟩
      | outgrown => exact ⟨_, a₁, w₁, ⟨s', h', hq, hr'⟩, .pass (x := .inLoop c) rfl (fun _ _ => .inl (by simp)) harr⟩
  obtain ⟨e, a', w', hq, harr⟩ := key _ i rfl hi a w (R_sub hr h0.all)
  exact ⟨e, a', w', hq, .of_steps (.one step_loop) harr⟩
def awpQ (cx : Cx) (ops : Array Oper) (h : Heap) (K : (Nat -> SV) -> Prop) : List Oper -> (Nat -> SV) -> Prop
  | [], s => K s
  | o :: rest, s => (wantedA ops o s = some true /\ ∃ sv, Qt cx h o s sv /\ awpQ cx ops h K rest (fput s o.dst sv)) \/ (wantedA ops o s = some false /\ awpQ cx ops h K rest (fput s o.dst .und))
def YieldsA (cx : Cx) (ops : Array Oper) (h : Heap) (o : Oper) (sv : SV) (s : Nat -> SV) : Prop :=
  (wantedA ops o s = some true /\ Qt cx h o s sv) \/ (wantedA ops o s = some false /\ sv = .und)
def aOp (cx : Cx) (ops : Array Oper) (h : Heap) (i : Nat) (K : (Nat -> SV) -> Prop) (s : Nat -> SV) : Prop :=
  match ops[i]? with
  | none => K s
  | some o => ∃ sv, YieldsA cx ops h o sv s /\ K (fput s o.dst sv)
theorem aOp_mono {i : Nat} {s : Nat -> SV} {K K' : (Nat -> SV) -> Prop} (hk : ∀ s, K s -> K' s) (hh : aOp cx ops h i K s) : aOp cx ops h i K' s := by
  unfold aOp at *
  split
  . rename_i e; simp only [e] at hh; exact hk _ hh
  . rename_i o e
    simp only [e] at hh
    obtain ⟨sv, h1, h2⟩ := hh
    exact ⟨sv, h1, hk _ h2⟩
def aAny (cx : Cx) (ops : Array Oper) (h : Heap) (n : Nat) (L : Array Bool -> (Nat -> SV) -> Prop) : Nat -> Array Bool -> (Nat -> SV) -> Prop
  | 0, listed, s => L listed s
  | f + 1, listed, s => Region.ready .any ops listed ≠ [] /\ ∀ i ∈ Region.ready .any ops listed, i < n /\ aOp cx ops h i (aAny cx ops h n L f (listed.setIfInBounds i true)) s
theorem wanted_same {s s₁ : Nat -> SV} (hs : ∀ t ∈ o.looksAt ops, s₁ t = s t) : wantedA ops o s₁ = wantedA ops o s := by
  unfold wantedA
  cases hg : o.guard with
  | none => rfl
  | some q =>
    obtain ⟨j, want⟩ := q
    simp only
    cases hj : (ops[j]?).bind (·.dst) with
    | none => rfl
    | some t =>
      simp only
      rw [hs t (List.mem_append_right _ (by simp [hg, hj]))]
theorem YieldsA.of_same {sv : SV} {s s₁ : Nat -> SV} (hy : YieldsA cx ops h o sv s) (hs : ∀ t ∈ o.looksAt ops, s₁ t = s t) : YieldsA cx ops h o sv s₁ := by
  have hw := wanted_same (ops := ops) hs
  rcases hy with ⟨h1, h2⟩ | ⟨h1, h2⟩
  . refine .inl ⟨hw.trans h1, fun s₂ h3 => h2 s₂ fun t ht => (h3 t ht).trans (hs t ?_)⟩
    exact List.mem_append_left _ (List.mem_filterMap.2 ⟨.tmp t, by simpa using ht, rfl⟩)
  . exact .inr ⟨hw.trans h1, h2⟩
theorem fput_ne {s : Nat -> SV} {dst : Option Nat} {sv : SV} {t : Nat} (ht : ∀ d, dst = some d -> d ≠ t) : fput s dst sv t = s t := by
  cases dst with
  | none => rfl
  | some d => simp only [fput, upd]; rw [if_neg (Ne.symm (ht d rfl))]
theorem fput_comm {s : Nat -> SV} {x y : Option Nat} {u v : SV} (hxy : ∀ d, x = some d -> y ≠ some d) : fput (fput s x u) y v = fput (fput s y v) x u := by
  cases x with
  | none => rfl
  | some d =>
    cases y with
    | none => rfl
    | some e =>
      funext t
      simp only [fput, upd]
      have hne : e ≠ d := fun he => hxy d rfl (by rw [he])
      by_cases h1 : t = e
      . subst h1; simp [hne]
      . by_cases h2 : t = d
        . subst h2; simp [h1]
        . simp [h1, h2]
theorem aOp_put {j : Nat} {oi oj : Oper} {sv : SV} (hj : ops[j]? = some oj) (hap : oi.apart ops oj = true) {K : (Nat -> SV) -> Prop} {s : Nat -> SV}
    (hy : YieldsA cx ops h oi sv s) (hh : aOp cx ops h j K (fput s oi.dst sv)) : aOp cx ops h j (fun s' => YieldsA cx ops h oi sv s' /\ K (fput s' oi.dst sv)) s := by
  obtain ⟨h1, h2, h3⟩ := Oper.apart_spec hap
  unfold aOp at *
  simp only [hj] at *
  obtain ⟨u, hu, hk⟩ := hh
  refine ⟨u, hu.of_same fun t ht => (fput_ne fun d hd e => ?_).symm, hy.of_same fun t ht => fput_ne fun d hd e => ?_, ?_⟩
  . subst e; exact h1 d hd ht
  . subst e; exact h3 d hd ht
  . rw [<- fput_comm h2]; exact hk
theorem aAny_first {n i : Nat} {oi : Oper} {sv : SV} {L : Array Bool -> (Nat -> SV) -> Prop} (hi : ops[i]? = some oi)
    (htw : ∀ listed, HeadInv .any ops n listed -> listed.getD i true = false -> ∀ j ∈ Region.ready .any ops listed, j < n) (hin : i < n)
    (hdone : ∀ listed s, L listed s -> ∀ j ∈ Region.ready .any ops listed, n <= j) :
    ∀ (f : Nat) (listed : Array Bool) (s : Nat -> SV), HeadInv .any ops n listed ->
      (∀ j oj, ops[j]? = some oj -> j ≠ i -> listed.getD j true = false -> (∀ e ∈ oj.after, Region.binds .any e = true -> e.on ≠ i) -> oi.apart ops oj = true) ->
      i ∈ Region.ready .any ops listed -> YieldsA cx ops h oi sv s ->
      aAny cx ops h n L f (listed.setIfInBounds i true) (fput s oi.dst sv) -> aAny cx ops h n L (f + 1) listed s := by
  intro f
  induction f with
  | zero =>
    intro listed s inv _ hr hy H
    have hun := (mem_ready.1 hr).1
    refine ⟨fun h => (by rw [h] at hr; cases hr), fun j hj => ?_⟩
    have hjn : j < n := htw listed inv hun j hj
    refine ⟨hjn, ?_⟩
    by_cases hji : j = i
    . subst hji; unfold aOp; simp only [hi]; exact ⟨sv, hy, H⟩
    . have := hdone _ _ H j (ready_mono hj hji)
      omega
  | succ f ih =>
    intro listed s inv hfree hr hy H
    have hun := (mem_ready.1 hr).1
    refine ⟨fun h => (by rw [h] at hr; cases hr), fun j hj => ?_⟩
    have hjn : j < n := htw listed inv hun j hj
    refine ⟨hjn, ?_⟩
    by_cases hji : j = i
    . subst hji; unfold aOp; simp only [hi]; exact ⟨sv, hy, H⟩
    . have h1 := (H.2 j (ready_mono hj hji)).2
      obtain ⟨hjun, oj, hoj, hall⟩ := mem_ready.1 hj
      have hnot : ∀ e ∈ oj.after, Region.binds .any e = true -> e.on ≠ i := fun e he hb heq => by
        have h1 := hall e he hb
        rw [heq, getD_both hun] at h1
        cases h1
      have h2 := aOp_put hoj (hfree j oj hoj hji hjun hnot) hy h1
      have hfree' : ∀ k ok, ops[k]? = some ok -> k ≠ i -> (listed.setIfInBounds j true).getD k true = false ->
          (∀ e ∈ ok.after, Region.binds .any e = true -> e.on ≠ i) -> oi.apart ops ok = true := fun k ok hk hki hun hno => by
        refine hfree k ok hk hki ?_ hno
        by_cases hjk : j = k
        . subst hjk; exact hjun
        . rw [getD_set_ne true hjk] at hun; exact hun
      refine aOp_mono (fun s' h3 => ih (listed.setIfInBounds j true) s' (inv.set hj hjn) hfree' (ready_mono hr (Ne.symm hji)) h3.1 ?_) h2
      rw [Array.setIfInBounds_comm _ _ hji]
      exact h3.2
theorem aAny_lex {n g : Nat} {Lq : (Nat -> SV) -> Prop} (htw : ∀ i, i < n -> ∀ listed, HeadInv .any ops n listed -> listed.getD i true = false -> ∀ j ∈ Region.ready .any ops listed, j < n) :
    ∀ (l : List Oper) (k : Nat) (listed : Array Bool) (s : Nat -> SV), (∀ j, j < l.length -> l[j]? = ops[k + j]?) -> k + l.length = n -> HeadInv .any ops n listed ->
    Region.lexHead .any ops g l.length k listed = true -> awpQ cx ops h Lq l s ->
    aAny cx ops h n (fun listed' s' => Region.seqB .any ops g n listed' = true /\ Lq s') l.length listed s
  | [], k, listed, s, _, hk, _, hB, hh => by
    have : k = n := by simpa using hk
    subst this
    exact ⟨by simpa [Region.lexHead] using hB, hh⟩
  | o :: l, k, listed, s, hl, hk, inv, hB, hh => by
    have h0 : ops[k]? = some o := by simpa using (hl 0 (by simp)).symm
    simp only [List.length_cons, Region.lexHead, Bool.and_eq_true] at hB
    obtain ⟨⟨hr, hf⟩, hB'⟩ := hB
    have hkn : k < n := by simp only [List.length_cons] at hk; omega
    have hr' : k ∈ Region.ready .any ops listed := by simpa using hr
    have hy : ∃ sv, YieldsA cx ops h o sv s /\ awpQ cx ops h Lq l (fput s o.dst sv) := by
      rcases hh with ⟨h1, sv, h2, h3⟩ | ⟨h1, h2⟩
      . exact ⟨sv, .inl ⟨h1, h2⟩, h3⟩
      . exact ⟨.und, .inr ⟨h1, rfl⟩, h2⟩
    obtain ⟨sv, hy, hK⟩ := hy
    exact aAny_first h0 (htw k hkn) hkn (fun listed' a' hL => seqB_ready hL.1) l.length listed s inv (Region.free_spec h0 hf) hr' hy
      (aAny_lex htw l (k + 1) _ _ (fun j hj => by have := hl (j + 1) (by simp; omega); simpa [Nat.add_assoc, Nat.add_comm 1 j] using this) (by simp only [List.length_cons] at hk; omega) (inv.set hr' hkn) hB' hK)
theorem wpAny_of_aAny {n g : Nat} {σ : Nat -> Loc} {L : Array Bool -> (Nat -> SV) -> Prop} {Q' : Exit -> Act -> World -> Prop} (hdst : ∀ o ∈ ops, dstOk cx.nt o.dst = true)
    (hL : ∀ listed s a w, L listed s -> RW cx σ s h a w -> wpAny cx.P .any ops Q' g listed a w) :
    ∀ (f : Nat) (listed : Array Bool) (s : Nat -> SV) (a : Act) (w : World), aAny cx ops h n L f listed s -> RW cx σ s h a w -> wpAny cx.P .any ops Q' (f + g) listed a w
  | 0, listed, s, a, w, hh, hr => by rw [Nat.zero_add]; exact hL _ _ _ _ hh hr
  | f + 1, listed, s, a, w, hh, hr => by
    rw [show f + 1 + g = (f + g) + 1 by omega]
    refine ⟨fun h0 => absurd h0 hh.1, fun i hi => ?_⟩
    have h1 := (hh.2 i hi).2
    unfold aOp at h1
    unfold wpOp
    split
    . rename_i e
      simp only [e] at h1
      exact wpAny_of_aAny hdst hL f _ _ _ _ h1 hr
    . rename_i o e
      simp only [e] at h1
      obtain ⟨sv, hy, h2⟩ := h1
      have hd := dstOk_lt (hdst o (Array.mem_of_getElem? e))
      rcases hy with ⟨hw, hq⟩ | ⟨hw, rfl⟩
      . rw [if_pos (wanted_of hr hw)]
        exact .inl (hq s (fun _ _ => rfl) σ a w hr _ _ fun v w' hb hv => wpAny_of_aAny hdst hL f _ _ _ _ h2 ((hr.ext hb).put hd hv))
      . rw [if_neg (by rw [wanted_of hr hw]; simp)]
        exact wpAny_of_aAny hdst hL f _ _ _ _ h2 (hr.put hd rfl)
theorem below_drew (w : World) : Below w.heap.size w { w with drawn := w.drawn + 1 } := ⟨rfl, rfl, rfl, Nat.le_refl _, fun _ _ => rfl⟩
def awpQL (cx : Cx) (ops : Array Oper) (h : Heap) (K : Slots -> Prop) (l : List Oper) (s : Slots) : Prop := awpQ cx ops h (fun f => ∃ s', lk s' = f /\ K s') l (lk s)
theorem awpQL_nil {K : Slots -> Prop} (hk : K s) : awpQL cx ops h K [] s := ⟨s, rfl, hk⟩
theorem awpQL_q {K : Slots -> Prop} {sv : SV} (hg : o.guard = none) (hq : Qt cx h o (lk s) sv) (hn : awpQL cx ops h K rest (put s o.dst sv)) : awpQL cx ops h K (o :: rest) s := by
  refine .inl ⟨by simp [wantedA, hg], sv, hq, ?_⟩
  rw [<- lk_put]; exact hn
theorem awpQL_run {K : Slots -> Prop} {sv : SV} (hw : wantedA ops o (lk s) = some true) (hq : Qt cx h o (lk s) sv) (hn : awpQL cx ops h K rest (put s o.dst sv)) : awpQL cx ops h K (o :: rest) s := by
  refine .inl ⟨hw, sv, hq, ?_⟩
  rw [<- lk_put]; exact hn
theorem awpQL_skip {K : Slots -> Prop} (hw : wantedA ops o (lk s) = some false) (hn : awpQL cx ops h K rest (put s o.dst .und)) : awpQL cx ops h K (o :: rest) s := by
  refine .inr ⟨hw, ?_⟩
  rw [<- lk_put]; exact hn
theorem awpQL_split {K : Slots -> Prop} {j t : Nat} {want b : Bool} (hg : o.guard = some (j, want)) (hj : (ops[j]?).bind (·.dst) = some t) (hb : lk s t = .d (.bool b))
    (h1 : b = true -> awpQL cx ops h K (o :: rest) ((t, .d (.bool true)) :: s)) (h2 : b = false -> awpQL cx ops h K (o :: rest) ((t, .d (.bool false)) :: s)) : awpQL cx ops h K (o :: rest) s := by
  have e : ∀ v, lk s t = v -> lk ((t, v) :: s) = lk s := fun v hv => by
    funext u
    simp only [lk]
    split
    . rename_i e; subst e; exact hv.symm
    . rfl
  cases b with
  | true => have := h1 rfl; unfold awpQL at this; rwa [e _ hb] at this
  | false => have := h2 rfl; unfold awpQL at this; rwa [e _ hb] at this
theorem awp_draw_tail {id : Nat} {l : List Oper} (n : Nat) (hm : cx.P.follows .mixedOrders = true) (hB : Region.lexTailB .any l.toArray n = true) (hdst : (l.all fun o => dstOk cx.nt o.dst) = true)
    (hq : awpQL cx l.toArray h (fun s' => awpL cx l.toArray (l.drop n) s' h Q) (l.take n) s) : awp cx (.region id l.toArray true) s h Q := fun a w hr => by
  obtain ⟨σ, hr⟩ := hr
  simp only [Region.lexTailB, Bool.and_eq_true, decide_eq_true_eq] at hB
  obtain ⟨⟨⟨⟨hsel, hn⟩, hs⟩, hc⟩, hlex⟩ := hB
  have hn' : n < l.length := by simpa using hn
  have htl : (l.take n).length = n := by simp; omega
  have hdl : (l.drop n).length = l.toArray.size - n := by simp
  have inv0 : HeadInv .any l.toArray n (Array.replicate l.toArray.size false) :=
    ⟨by simp, fun j oj _ hl => (by rw [getD_replicate_false] at hl; cases hl), fun t _ ht => getD_in (by simpa using ht) (getD_replicate_false _ _)⟩
  have H := aAny_lex (g := l.toArray.size - n) (fun i hi listed inv hun j hj => by
    rcases Nat.lt_or_ge j n with h | h
    . exact h
    . exact absurd hj (tail_waits hs hc hn inv _ i rfl hi hun j h)) (l.take n) 0 _ (lk s) (fun j hj => by
    have hj' : j < n := by rw [htl] at hj; exact hj
    simp [hj']) (by simpa using htl) inv0 (by rw [htl]; exact hlex) hq
  refine wp_region_any hm ?_
  have := wpAny_of_aAny (Q' := lift cx Q) (g := l.toArray.size - n) (σ := σ) (fun o ho => by simpa using List.all_eq_true.1 hdst o (by simpa using ho)) (fun listed f a' w' hL hr' => by
    obtain ⟨hL1, s', rfl, hL2⟩ := hL
    have := wpAny_of_seq (md := .any) (Q' := lift cx Q) (l.drop n) n listed a' w' (fun j => by simp [List.getElem?_drop]) (by rw [hdl]; exact hL1) (hL2 a' w' ⟨σ, hr'⟩)
    rwa [hdl] at this) _ _ _ _ _ H (hr.ext (below_drew w))
  rw [htl, show n + (l.toArray.size - n) = l.toArray.size by omega] at this
  exact this
def lexAllB (ops : Array Oper) : Bool := Region.lexHead .any ops 0 ops.size 0 (Array.replicate ops.size false)
theorem awp_draw {id : Nat} {l : List Oper} (hm : cx.P.follows .mixedOrders = true) (hB : lexAllB l.toArray = true) (hdst : (l.all fun o => dstOk cx.nt o.dst) = true)
    (hq : awpQL cx l.toArray h (fun s' => Q .normal s' h) l s) : awp cx (.region id l.toArray true) s h Q := fun a w hr => by
  obtain ⟨σ, hr⟩ := hr
  have inv0 : HeadInv .any l.toArray l.toArray.size (Array.replicate l.toArray.size false) :=
    ⟨by simp, fun j oj _ hl => (by rw [getD_replicate_false] at hl; cases hl), fun t _ ht => getD_in (by simpa using ht) (getD_replicate_false _ _)⟩
  have H := aAny_lex (g := 0) (n := l.toArray.size) (fun i hi listed inv hun j hj => by
    obtain ⟨_, o, ho, _⟩ := mem_ready.1 hj
    exact (Array.getElem?_eq_some_iff.1 ho).1) l 0 _ (lk s) (fun j hj => by simp) (by simp) inv0 (by simpa [lexAllB] using hB) hq
  refine wp_region_any hm ?_
  have := wpAny_of_aAny (Q' := lift cx Q) (g := 0) (σ := σ) (fun o ho => by simpa using List.all_eq_true.1 hdst o (by simpa using ho)) (fun listed f a' w' hL hr' => by
    obtain ⟨hL1, s', rfl, hL2⟩ := hL
    exact ⟨by simpa [Region.seqB] using hL1, s', h, hL2, σ, hr'⟩) _ _ _ _ _ H (hr.ext (below_drew w))
  simpa using this
end
end Go.Proofs.YtckpadnjldebaaaGreat
