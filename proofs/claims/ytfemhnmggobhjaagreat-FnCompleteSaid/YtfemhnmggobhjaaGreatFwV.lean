/- Maps whose keys are pairs of numbers: asked, written. No condition. -/
import Derived.Test.YtfemhnmggobhjaaGreatFwT
import Derived.Laws.StructEq
namespace Go.Proofs.YtfemhnmggobhjaaGreat
open Go
open Go.RowKit (Below)
set_option linter.unusedVariables false
set_option linter.unusedSimpArgs false
def isI64 (P : Program) (t : Nat) : Bool := match P.underlying t with
  | some (.int .i64) => true
  | _ => false
def keyPair (P : Program) (t : Nat) : Bool :=
  !P.stoodInHeld t && match P.underlying t with
  | some (.struct fs) => match fs.toList with
    | [f, g] => f.name != "_" && g.name != "_" && Nat.beq f.offset 0 && Nat.beq g.offset 1 && isI64 P f.type && isI64 P g.type
    | _ => false
  | _ => false
def pairD (a b : Int) : D := .agg [.int .i64 a, .int .i64 b]
def pairV (a b : Int) : Value := .agg #[.int .i64 a, .int .i64 b]
theorem isI64_eq {P : Program} {t : Nat} (h : isI64 P t = true) : P.underlying t = some (.int .i64) := by
  unfold isI64 at h
  split at h
  . assumption
  . cases h
section
variable {P : Program} {t : Nat} {w : World}
theorem keyPair_facts (h : keyPair P t = true) : P.stoodInHeld t = false /\ ∃ fs f g, P.underlying t = some (.struct fs) /\ fs.toList = [f, g] /\ f.name ≠ "_" /\ g.name ≠ "_" /\ f.offset = 0 /\ g.offset = 1 /\ P.underlying f.type = some (.int .i64) /\ P.underlying g.type = some (.int .i64) := by
  unfold keyPair at h
  simp only [Bool.and_eq_true, Bool.not_eq_true'] at h
  refine ⟨h.1, ?_⟩
  have h2 := h.2
  split at h2
  . rename_i fs hfs
    split at h2
    . rename_i f g hl
      simp only [Bool.and_eq_true, bne_iff_ne, ne_eq] at h2
      obtain ⟨⟨⟨⟨⟨h3, h4⟩, h5⟩, h6⟩, h7⟩, h8⟩ := h2
      exact ⟨fs, f, g, hfs, hl, h3, h4, Nat.eq_of_beq_eq_true h5, Nat.eq_of_beq_eq_true h6, isI64_eq h7, isI64_eq h8⟩
    . cases h2
  . cases h2
theorem run_part_int {ft : Nat} (hf : P.underlying ft = some (.int .i64)) {cs : Array Value} {off : Nat} {v : Value} (hv : cs[off]? = some v) : (part ft cs off).run P w = .ok v w := by
  simp [part, isAgg, run_underlying hf, hv]
theorem pair_equal (h : keyPair P t = true) (d : Nat) (a b c e : Int) : (Op.equalIn (d + 2) t (pairV a b) (pairV c e)).run P w = .ok (decide (a = c) && decide (b = e)) w := by
  obtain ⟨h0, fs, f, g, h1, h2, h3, h4, h5, h6, h7, h8⟩ := keyPair_facts h
  have hfo : P.fieldsOf t = fs := by unfold Program.fieldsOf; rw [h1]
  unfold pairV
  rw [run_equalIn_struct w (d + 1) t _ _ (by rw [hfo]; exact h1) h0, hfo, h2]
  have p1 : ∀ x y : Int, (part f.type #[.int .i64 x, .int .i64 y] f.offset).run P w = .ok (.int .i64 x) w := fun x y => run_part_int h7 (by rw [h5]; rfl)
  have p2 : ∀ x y : Int, (part g.type #[.int .i64 x, .int .i64 y] g.offset).run P w = .ok (.int .i64 y) w := fun x y => run_part_int h8 (by rw [h6]; rfl)
  have q1 := run_equalIn_int (P := P) w d f.type .i64 .i64 a c h7
  have q2 := run_equalIn_int (P := P) w d g.type .i64 .i64 b e h8
  have b1 : (a == c) = decide (a = c) := by by_cases hh : a = c <;> simp [hh]
  have b2 : (b == e) = decide (b = e) := by by_cases hh : b = e <;> simp [hh]
  rw [b1] at q1
  rw [b2] at q2
  clear b1 b2
  simp only [Op.eqFields, if_pos h3, if_pos h4, Sem.run_bind, p1, p2, q1, q2, Result.andThen_ok]
  generalize decide (a = c) = u at *
  generalize decide (b = e) = v at *
  cases u <;> cases v <;> simp [q2, p2, Sem.run_pure]
theorem pair_check (h : keyPair P t = true) (em : Bool) (n : Nat) (a b : Int) : (Instr.checkKey em (n + 2) t (pairV a b)).run P w = .ok () w := by
  obtain ⟨h0, fs, f, g, h1, h2, h3, h4, h5, h6, h7, h8⟩ := keyPair_facts h
  have p1 : (part f.type #[.int .i64 a, .int .i64 b] f.offset).run P w = .ok (.int .i64 a) w := run_part_int h7 (by rw [h5]; rfl)
  have p2 : (part g.type #[.int .i64 a, .int .i64 b] g.offset).run P w = .ok (.int .i64 b) w := run_part_int h8 (by rw [h6]; rfl)
  have c1 : (Instr.checkKey em (n + 1) f.type (.int .i64 a)).run P w = .ok () w := by unfold Instr.checkKey; simp [run_underlying h7]
  have c2 : (Instr.checkKey em (n + 1) g.type (.int .i64 b)).run P w = .ok () w := by unfold Instr.checkKey; simp [run_underlying h8]
  unfold pairV Instr.checkKey
  simp only [Sem.run_bind, run_underlying h1, Result.andThen_ok]
  rw [<- Array.forIn_toList, h2]
  simp [List.forIn_cons, h3, h4, p1, p2, c1, c2, Sem.run_bind]
theorem pair_inv {ok : Nat -> Prop} {v : Value} {a b : Int} (h : RepD ok w v (pairD a b)) : v = pairV a b := by
  unfold pairD at h
  cases h with
  | agg cs _ hs _ hr =>
    have e0 : cs.size = 2 := hs
    have c0 : cs[0]? = some cs[0] := Array.getElem?_eq_getElem (by omega)
    have c1 : cs[1]? = some cs[1] := Array.getElem?_eq_getElem (by omega)
    have r0 := RepD.int_inv (hr 0 _ _ c0 rfl)
    have r1 := RepD.int_inv (hr 1 _ _ c1 rfl)
    unfold pairV
    congr 1
    apply Array.ext
    . simpa using e0
    . intro i h1 h2
      match i with
      | 0 => exact r0
      | 1 => exact r1
      | i + 2 => omega
theorem pair_rep {ok : Nat -> Prop} (a b : Int) : RepD ok w (pairV a b) (pairD a b) := RepD.agg _ _ rfl (fun x hx => by
  simp only [List.mem_cons, List.not_mem_nil, or_false] at hx
  rcases hx with rfl | rfl <;> rfl) fun i v x hv hx => by
    match i with
    | 0 => simp at hv hx; subst hv hx; exact RepD.int _ _
    | 1 => simp at hv hx; subst hv hx; exact RepD.int _ _
    | i + 2 => simp at hv
end
def keysP : List (D × D) -> Bool
  | [] => true
  | p :: l => match p.1 with
    | .agg [.int .i64 _, .int .i64 _] => keysP l
    | _ => false
def mgetP (a b : Int) : List (D × D) -> Option D
  | [] => none
  | p :: l => match p.1 with
    | .agg [.int .i64 x, .int .i64 y] => if a = x /\ b = y then some p.2 else mgetP a b l
    | _ => mgetP a b l
def mputP (a b : Int) (v : D) : List (D × D) -> List (D × D)
  | [] => [(pairD a b, v)]
  | p :: l => match p.1 with
    | .agg [.int .i64 x, .int .i64 y] => if a = x /\ b = y then (pairD a b, v) :: l else p :: mputP a b v l
    | _ => p :: mputP a b v l
theorem keysP_cons {p : D × D} {l : List (D × D)} (h : keysP (p :: l) = true) : ∃ x y, p.1 = pairD x y /\ keysP l = true := by
  unfold keysP at h
  split at h
  . rename_i x y hp; exact ⟨x, y, hp, h⟩
  . cases h
theorem ask_pair {P : Program} {ok : Nat -> Prop} {w : World} {kt : Nat} (hkp : keyPair P kt = true) (a b : Int) : ∀ {es : List MapEntry} {kvs : List (D × D)}, es.length = kvs.length ->
    (∀ (i : Nat) e kv, es[i]? = some e -> kvs[i]? = some kv -> RepD ok w e.key kv.1 /\ RepD ok w e.val kv.2) -> keysP kvs = true -> ∀ i0,
    (mgetP a b kvs = none /\ (Instr.findAsking kt (pairV a b) es i0).run P w = .ok none w /\ ∀ v, mputP a b v kvs = kvs ++ [(pairD a b, v)]) \/
    (∃ j e u, es[j]? = some e /\ kvs[j]? = some (pairD a b, u) /\ e.key = pairV a b /\ mgetP a b kvs = some u /\ (Instr.findAsking kt (pairV a b) es i0).run P w = .ok (some (i0 + j, e.val)) w /\ ∀ v, mputP a b v kvs = kvs.set j (pairD a b, v))
  | [], [], _, _, _, i0 => .inl ⟨rfl, by simp [Instr.findAsking], fun _ => rfl⟩
  | [], _ :: _, hl, _, _, _ => by simp at hl
  | _ :: _, [], hl, _, _, _ => by simp at hl
  | e :: es, p :: kvs, hl, hr, hk, i0 => by
    obtain ⟨x, y, hp, hk'⟩ := keysP_cons hk
    obtain ⟨p1, u⟩ := p
    simp only at hp
    subst hp
    have h0 := hr 0 e (pairD x y, u) rfl rfl
    have hkey := pair_inv h0.1
    have heq : (Op.equal kt (pairV a b) e.key).run P w = .ok (decide (a = x) && decide (b = y)) w := by
      rw [hkey]
      exact pair_equal hkp 9998 a b x y
    have hun : (Instr.findAsking kt (pairV a b) (e :: es) i0).run P w = (if (decide (a = x) && decide (b = y)) = true then Result.ok (some (i0, e.val)) w else (Instr.findAsking kt (pairV a b) es (i0 + 1)).run P w) := by
      show (do if <- Op.equal kt (pairV a b) e.key then pure (some (i0, e.val)) else Instr.findAsking kt (pairV a b) es (i0 + 1) : Sem _).run P w = _
      rw [Sem.run_bind, heq]
      simp only [Result.andThen_ok]
      cases (decide (a = x) && decide (b = y)) <;> simp [Sem.run_pure]
    by_cases hxy : a = x /\ b = y
    . obtain ⟨rfl, rfl⟩ := hxy
      refine .inr ⟨0, e, u, rfl, rfl, hkey, by simp [mgetP, pairD], ?_, fun v => by simp [mputP, pairD]⟩
      rw [hun, if_pos (by simp)]
      rfl
    . have hf : (decide (a = x) && decide (b = y)) = false := by
        rw [Bool.and_eq_false_iff]
        by_cases h1 : a = x
        . right; exact decide_eq_false fun h2 => hxy ⟨h1, h2⟩
        . left; exact decide_eq_false h1
      rw [hun, if_neg (by simp [hf])]
      rcases ask_pair hkp a b (es := es) (kvs := kvs) (by simpa using hl) (fun i e' kv h1 h2 => hr (i + 1) e' kv (by simpa using h1) (by simpa using h2)) hk' (i0 + 1) with ⟨h1, h2, h3⟩ | ⟨j, e', u', h1, h2, h3, h4, h5, h6⟩
      . refine .inl ⟨by simp [mgetP, pairD, hxy]; exact h1, h2, fun v => by simp [mputP, pairD, hxy]; exact h3 v⟩
      . refine .inr ⟨j + 1, e', u', by simpa using h1, by simpa using h2, h3, by simp [mgetP, pairD, hxy]; exact h4, by rw [h5]; congr 2; simp; omega, fun v => by simp [mputP, pairD, hxy]; exact h6 v⟩
theorem findKey_pair {P : Program} {ok : Nat -> Prop} {w : World} {kt : Nat} (hkp : keyPair P kt = true) (a b : Int) {es : List MapEntry} {kvs : List (D × D)} (hl : es.length = kvs.length)
    (hr : ∀ (i : Nat) e kv, es[i]? = some e -> kvs[i]? = some kv -> RepD ok w e.key kv.1 /\ RepD ok w e.val kv.2) (hk : keysP kvs = true) :
    (mgetP a b kvs = none /\ (Instr.findKey kt (pairV a b) es).run P w = .ok none w /\ ∀ v, mputP a b v kvs = kvs ++ [(pairD a b, v)]) \/
    (∃ j e u, es[j]? = some e /\ kvs[j]? = some (pairD a b, u) /\ e.key = pairV a b /\ mgetP a b kvs = some u /\ (Instr.findKey kt (pairV a b) es).run P w = .ok (some (0 + j, e.val)) w /\ ∀ v, mputP a b v kvs = kvs.set j (pairD a b, v)) := by
  obtain ⟨h0, fs, f, g, h1, h2, _⟩ := keyPair_facts hkp
  have hfind : (Instr.findKey kt (pairV a b) es).run P w = (Instr.findAsking kt (pairV a b) es 0).run P w := by
    cases es with
    | nil => simp [Instr.findKey, run_underlying h1, Instr.findNow, Instr.findAsking]
    | cons e es =>
      have hnone : Instr.findNow (.struct fs) (pairV a b) (e :: es) 0 = none := by simp [Instr.findNow, Instr.sameNow, pairV]
      simp [Instr.findKey, run_underlying h1, hnone]
  rw [hfind]
  exact ask_pair hkp a b hl hr hk 0
section
variable {cx : Cx} {s : Slots} {h : Heap} {dst : Option Nat} {t ty : Nat} {pos : String} {af : Array Edge} {gd : Option (Nat × Bool)}
structure KP (P : Program) (t : Nat) : Prop where
  h : keyPair P t = true
structure MGetP (a b : Int) (kvs : List (D × D)) (r : Option D) : Prop where
  h : mgetP a b kvs = r
theorem wa_gotP {T : Nat} {x i : Operand} {tr te : TR} {kt et : Nat} {f : Nat -> SV} {kvs : List (D × D)} {a b : Int} {okc : Bool} {r : Option D} (hx : mapOf h (opv f x) = some kvs) (hi : opv f i = .d (pairD a b)) (ht : tget cx.T T = some tr) (hm : tr.mp = some (kt, et))
    (hte : tget cx.T et = some te) (ha : te.agg = false) (hz : Nat.beq te.zero.length 1 = true) (hkp : KP cx.P kt) (hk : keysP kvs = true) (hr : MGetP a b kvs r) :
    Qt cx h ⟨dst, .lookup T x i okc, ty, pos, af, gd⟩ f (.d (mans te okc r)) :=
  qt_of fun r' hr' σ aa w hv hh _ => by
    have h1 := hv x
    have h2 := hv i
    rw [hr' x (by simp [Op.operands])] at h1
    rw [hr' i (by simp [Op.operands]), hi] at h2
    have h2' := pair_inv h2
    obtain ⟨bb, es, clock, e1, e2, e3, e4⟩ := mapOf_rep hh.rep h1 hx
    have hd := tr_map (tget_ok cx.tab ht) hm
    obtain ⟨ie, z, hie, hz', hzr⟩ := zero_val (tget_ok cx.tab hte) ha hz (ok := okf cx σ h) (w := w)
    have hck : (Instr.checkKey es.isEmpty 10000 kt (pairV a b)).run cx.P w = .ok () w := pair_check hkp.h _ 9998 a b
    have hzv : (zeroValue et).run cx.P w = .ok z w := by simp [zeroValue, typeInfo, hie, hz']
    have hrr := hr.h
    rcases findKey_pair hkp.h a b (es := es.toList) (by simpa using e3) (fun j e kv h3 h4 => e4 j e kv (by simpa using h3) h4) hk with ⟨g1, g2, g3⟩ | ⟨j, e, u, g1, g2, g3, g4, g5, g6⟩
    . rw [g1] at hrr
      subst hrr
      cases okc with
      | false =>
        refine ⟨z, w, ?_, Below.refl _ _, hzr⟩
        simp [execOp, e1, h2', Instr.lookup, run_underlying hd, go_map e2, hck, g2, hzv]
      | true =>
        refine ⟨.tuple #[z, .bool false], w, ?_, Below.refl _ _, ?_⟩
        . simp [execOp, e1, h2', Instr.lookup, run_underlying hd, go_map e2, hck, g2, hzv]
        . refine RepD.tup _ _ (by simp) fun i v x hv hx => ?_
          match i with
          | 0 => simp at hv hx; subst hv hx; exact hzr
          | 1 => simp at hv hx; subst hv hx; exact RepD.bool _
          | i + 2 => simp at hv
    . have hval := (e4 j e _ (by simpa using g1) g2).2
      rw [g4] at hrr
      subst hrr
      cases okc with
      | false =>
        refine ⟨e.val, w, ?_, Below.refl _ _, hval⟩
        simp [execOp, e1, h2', Instr.lookup, run_underlying hd, go_map e2, hck, g5]
      | true =>
        refine ⟨.tuple #[e.val, .bool true], w, ?_, Below.refl _ _, ?_⟩
        . simp [execOp, e1, h2', Instr.lookup, run_underlying hd, go_map e2, hck, g5]
        . refine RepD.tup _ _ (by simp) fun i v x hv hx => ?_
          match i with
          | 0 => simp at hv hx; subst hv hx; exact hval
          | 1 => simp at hv hx; subst hv hx; exact RepD.bool _
          | i + 2 => simp at hv
theorem op_mapPutP {T : Nat} {m i y : Operand} {tr : TR} {kt et id : Nat} {kvs : List (D × D)} {a b : Int} {u : D} {o : Oper} (ho : execOp = execOp -> ∀ ρ : Operand -> Value, execOp ρ o = (do Instr.mapUpdate T (ρ m) (ρ i) (ρ y); pure .skip)) (hdn : o.dst = none)
    (hx : opv (lk s) m = .own id) (hg : h.get id = some (.map kvs)) (hi : opv (lk s) i = .d (pairD a b)) (hy : opv (lk s) y = .d u) (ht : tget cx.T T = some tr) (hm : tr.mp = some (kt, et))
    (hkp : keyPair cx.P kt = true) (hk : keysP kvs = true) :
    OpTo cx o s h s (setH id (.map (mputP a b u kvs)) h) := by
  rintro aa w ⟨σ, hr⟩ K Q hK
  have h1 := rep_eval hr m
  rw [hx] at h1
  simp only [RepSV, hg] at h1
  have h2 := rep_eval hr i
  rw [hi] at h2
  have h2' := pair_inv h2
  have h3 := rep_eval hr y
  rw [hy] at h3
  have h3' : RepD (okf cx σ h) w (aa.eval y) u := h3
  obtain ⟨p0, hp0, rfl, hp2⟩ := get_mem hg
  have hc := hr.heap.rep p0 hp0
  rw [hp2] at hc
  obtain ⟨es, clock, c1, c2, c3⟩ := hc
  have hd := tr_map (tget_ok cx.tab ht) hm
  have hck : (Instr.checkKey false 10000 kt (pairV a b)).run cx.P w = .ok () w := pair_check hkp _ 9998 a b
  have hlt : (σ p0.1).b < w.heap.size := by
    rcases Nat.lt_or_ge (σ p0.1).b w.heap.size with h' | h'
    . exact h'
    . simp [Array.getElem?_eq_none h'] at c1
  have fin : ∀ (es' : Array MapEntry) (clock' : Nat) (kvs' : List (D × D)), es'.size = kvs'.length -> (∀ (i : Nat) e kv, es'[i]? = some e -> kvs'[i]? = some kv -> RepD (okf cx σ h) w e.key kv.1 /\ RepD (okf cx σ h) w e.val kv.2) ->
      (execOp aa.eval o).run cx.P w = .ok .skip (wset w (σ p0.1).b (.map es' clock')) -> R cx (lk s) (setH p0.1 (.map kvs') h) aa (wset w (σ p0.1).b (.map es' clock')) := fun es' clock' kvs' k1 k2 _ => by
    refine ⟨σ, hr.set (w' := wset w (σ p0.1).b (.map es' clock')) (c' := .map kvs') hg (by simp [Chunk.like]) rfl rfl rfl (by simp [wset]) (fun b hb => ?_) fun hok => ?_⟩
    . have hne : (σ p0.1).b ≠ b := fun e => hb (by simp [blk, e])
      simp [wset, Array.getElem?_setIfInBounds_ne hne]
    . exact ⟨es', clock', by simp [wset, hlt], k1, fun i e kv he hkv => ⟨(k2 i e kv he hkv).1.mono hok, (k2 i e kv he hkv).2.mono hok⟩⟩
  have hset : ∀ (ob : Obj), (setObj (σ p0.1).b ob).run cx.P w = .ok () (wset w (σ p0.1).b ob) := fun ob => by simp [setObj, Sem.run, c1, wset]
  unfold Oper.wp
  rcases findKey_pair hkp a b (es := es.toList) (by simpa using c2) (fun j e kv h3 h4 => c3 j e kv (by simpa using h3) h4) hk with ⟨g1, g2, g3⟩ | ⟨j, e, u', g1, g2, g3, g4, g5, g6⟩
  . have run : (execOp aa.eval o).run cx.P w = .ok .skip (wset w (σ p0.1).b (.map (es.push { key := pairV a b, val := aa.eval y, born := clock }) (clock + 1))) := by
      rw [ho rfl]
      simp [h1, h2', Instr.mapUpdate, run_underlying hd, go_map c1, hck, g2, hset]
    have := fin _ _ (kvs ++ [(pairD a b, u)]) (by simp [c2]) (fun i e kv he hkv => by
      by_cases hi2 : i < kvs.length
      . rw [List.getElem?_append_left hi2] at hkv
        rw [Array.getElem?_push_lt (by omega)] at he
        exact c3 i e kv (by rw [Array.getElem?_eq_getElem (by omega)]; exact he) hkv
      . by_cases hi3 : i = kvs.length
        . subst hi3
          simp at hkv
          subst hkv
          rw [<- c2] at he
          simp at he
          subst he
          exact ⟨pair_rep a b, h3'⟩
        . rw [List.getElem?_eq_none (by simp; omega)] at hkv
          cases hkv) run
    rw [<- g3 u] at this
    rw [run]
    exact hK _ _ (by rw [hdn]; exact this)
  . have hj : es[j]? = some e := by simpa using g1
    have hst : (Instr.keyThatStays (pairV a b) (pairV a b)).run cx.P w = .ok (pairV a b) w := by
      have : Instr.sameBits 10000 (pairV a b) (pairV a b) = true := by simp [Instr.sameBits, pairV]
      simp [Instr.keyThatStays, this]
    have run : (execOp aa.eval o).run cx.P w = .ok .skip (wset w (σ p0.1).b (.map (es.modify j fun e => { e with key := pairV a b, val := aa.eval y }) clock)) := by
      rw [ho rfl]
      simp [h1, h2', Instr.mapUpdate, run_underlying hd, go_map c1, hck, g5, hset, hj, g3, hst]
    have := fin _ _ (kvs.set j (pairD a b, u)) (by simp [c2]) (fun i e' kv he hkv => by
      by_cases hij : j = i
      . subst hij
        have hjl : j < kvs.length := by
          rcases Nat.lt_or_ge j kvs.length with h' | h'
          . exact h'
          . simp [h'] at g2
        rw [List.getElem?_set_self hjl] at hkv
        cases hkv
        rw [Array.getElem?_modify, if_pos rfl, hj] at he
        cases he
        exact ⟨pair_rep a b, h3'⟩
      . rw [List.getElem?_set_ne hij] at hkv
        rw [Array.getElem?_modify, if_neg hij] at he
        exact c3 i e' kv he hkv) run
    rw [<- g6 u] at this
    rw [run]
    exact hK _ _ (by rw [hdn]; exact this)
theorem wo_mapUpdateP {T : Nat} {m i y : Operand} {tr : TR} {kt et id : Nat} {kvs : List (D × D)} {a b : Int} {u : D} (hx : opv (lk s) m = .own id) (hg : h.get id = some (.map kvs)) (hi : opv (lk s) i = .d (pairD a b)) (hy : opv (lk s) y = .d u) (ht : tget cx.T T = some tr) (hm : tr.mp = some (kt, et))
    (hkp : KP cx.P kt) (hk : keysP kvs = true) :
    OpTo cx ⟨none, .mapUpdate T m i y, ty, pos, af, none⟩ s h s (setH id (.map (mputP a b u kvs)) h) := op_mapPutP (fun _ ρ => by simp [execOp]) rfl hx hg hi hy ht hm hkp.h hk
theorem wo_mapInsertP {T : Nat} {m i y : Operand} {tr : TR} {kt et id : Nat} {kvs : List (D × D)} {a b : Int} {u : D} (hx : opv (lk s) m = .own id) (hg : h.get id = some (.map kvs)) (hi : opv (lk s) i = .d (pairD a b)) (hy : opv (lk s) y = .d u) (ht : tget cx.T T = some tr) (hm : tr.mp = some (kt, et))
    (hkp : KP cx.P kt) (hk : keysP kvs = true) :
    OpTo cx ⟨none, .insert T m i y, ty, pos, af, none⟩ s h s (setH id (.map (mputP a b u kvs)) h) := op_mapPutP (fun _ ρ => by simp [execOp]) rfl hx hg hi hy ht hm hkp.h hk
end
end Go.Proofs.YtfemhnmggobhjaaGreat
