/- Contracts of functions over data, calls, the way into a function's body and out of it; elements of slices, boxed values, integer arithmetic, strings. No condition. -/
import Derived.Test.YtampglcgipefnaaGreatFwC
namespace Go.Proofs.YtampglcgipefnaaGreat
open Go
open Go.RowKit (Below)
set_option linter.unusedVariables false
set_option linter.unusedSimpArgs false

/-! ### Contracts -/

def Callable (P : Program) (f : Nat) : Prop := ∃ fn, P.funcs[f]? = some fn ∧ fn.body.isNone = false ∧ (fn.name == "runtime.NumGoroutine") = false

def RepAll (ok : Nat → Prop) (w : World) (vs : Array Value) (xs : List D) : Prop :=
  vs.size = xs.length ∧ ∀ (i : Nat) v x, vs[i]? = some v → xs[i]? = some x → RepD ok w v x

/-- Called with these data the function returns that one; old memory stays as it was; what is returned lies in new blocks and in those of the arguments. -/
def AC (P : Program) (f : Nat) (xs : List D) (r : D) : Prop :=
  Callable P f ∧ ∀ (w : World) (ok : Nat → Prop) (vs : Array Value), (∀ b, ok b → b < w.heap.size) → RepAll ok w vs xs →
    Calls P f vs w fun e w' => ∃ v, e = .returned v ∧ RepD (fun b => ok b ∨ w.heap.size ≤ b) w' v r ∧ Below w.heap.size w w'

theorem exec_call {P : Program} {ρ : Operand → Value} {o : Oper} {f : Operand} {args : Array Operand} {tys : Array TypeId} {g : Nat} {first cap : Array Value} {w : World}
    (ho : o.op = .call { callee := .value f, args := args, argTypes := tys }) (hf : ρ f = .func (.func g) first cap) (hc : Callable P g) :
    (execOp ρ o).run P w = .ok (.enter g (first ++ args.map ρ ++ cap)) w := by
  obtain ⟨fn, h1, h2, h3⟩ := hc
  have h3' : ¬ fn.name = "runtime.NumGoroutine" := by simpa using h3
  have h2' : ¬ fn.body = none := fun e => by simp [e] at h2
  simp [execOp, ho, resolve, hf, Deferred.ofValue, invoke, callFunc, h1, h2', h3']

theorem qt_call {cx : Cx} {h : Heap} {o : Oper} {s : Nat → SV} {f : Operand} {args : Array Operand} {tys : Array TypeId} {g : Nat} {cap xs : List D} {r : D}
    (ho : o.op = .call { callee := .value f, args := args, argTypes := tys }) (hf : opv s f = .d (.fn g cap)) (ha : allD (args.toList.map (opv s)) = some xs) (hac : AC cx.P g (xs ++ cap) r) :
    Qt cx h o s (.d r) := by
  intro s₁ hs σ a w hr K Q hK
  have agree : ∀ x ∈ o.op.operands, opv s₁ x = opv s x := fun x hx => by cases x <;> first | rfl | exact hs _ hx
  have hfr := rep_eval hr f
  rw [agree f (by simp [ho, Op.operands, Call.operands]), hf] at hfr
  have hfr' : RepD (okf cx σ h) w (a.eval f) (.fn g cap) := hfr
  generalize hu : a.eval f = u at hfr'
  cases hfr' with
  | fn _ vs _ hc1 hc2 =>
    have har := allD_rep (σ := σ) (h := h) (ok := okf cx σ h) (w := w) (vs := (args.map a.eval).toList) ha (by simp) (fun i v x hv hx => by
      simp only [map_toList_arr, List.getElem?_map, Option.map_eq_some_iff] at hv hx
      obtain ⟨y, hy, rfl⟩ := hv
      obtain ⟨y', hy', rfl⟩ := hx
      have : y = y' := Option.some.inj (hy.symm.trans hy')
      subst this
      rw [← agree y (by
        have := List.mem_of_getElem? hy
        simp [ho, Op.operands, Call.operands]
        exact .inr (by simpa using this))]
      exact rep_eval hr y)
    unfold Oper.wp
    rw [exec_call ho hu hac.1]
    rw [Oper.upon_enter]
    refine (hac.2 w (fun b => okf cx σ h b ∧ b < w.heap.size) _ (fun b hb => hb.2) ?_).mono ?_
    · refine ⟨by simp; have := har.1; simp at this; omega, fun i v x hv hx => ?_⟩
      have key : RepD (okf cx σ h) w v x := by
        simp only [Array.empty_append] at hv
        rw [Array.getElem?_append] at hv
        rw [List.getElem?_append] at hx
        have e1 := har.1
        simp only [map_toList_arr, List.length_map, Array.length_toList] at e1
        simp only [Array.size_map] at hv
        split at hv
        · rename_i hlt
          rw [if_pos (by omega)] at hx
          exact har.2 i v x (by simpa using hv) hx
        · rename_i hlt
          rw [if_neg (by omega)] at hx
          rw [e1] at hv
          exact hc2 _ v x hv hx
      exact key.mono fun b h1 h2 => ⟨⟨h1, h2⟩, rfl⟩
    · rintro e w' ⟨v, rfl, hv, hb⟩
      refine hK v w' hb ?_
      refine RepD.mono hv fun b h1 h2 => ⟨?_, rfl⟩
      rcases h1 with h1 | h1
      · exact h1.1
      · exact ⟨.inr (Nat.le_trans hr.evo.size h1), fun p hp e => by have := (hr.heap.mine p hp b e).2.2; omega⟩

/-! ### Into a body and out of it -/

def args0 : Nat → List D → Slots
  | _, [] => []
  | k, x :: xs => (k, .d x) :: args0 (k + 1) xs

mutual
def slotD (h : Heap) : SV → Option D
  | .d x => some x
  | .own id => match h.get id with
    | some (.arr _ _ xs) => some (.lst xs)
    | some (.rows _ _ _ xss none) => some (.lst (xss.map .lst))
    | some (.map kvs) => some (.map kvs)
    | _ => none
  | .sub id i => match h.get id with
    | some (.rows _ _ _ xss none) => match xss[i]? with
      | some xs => some (.lst xs)
      | none => none
    | _ => none
  | .agg l => match slotDs h l with
    | some xs => match xs.all D.one with
      | true => some (.agg xs)
      | false => none
    | none => none
  | .tup l => match slotDs h l with
    | some xs => some (.tup xs)
    | none => none
  | .fn f l => match slotDs h l with
    | some xs => some (.fn f xs)
    | none => none
  | _ => none
def slotDs (h : Heap) : List SV → Option (List D)
  | [] => some []
  | x :: l => match slotD h x with
    | some y => match slotDs h l with
      | some ys => some (y :: ys)
      | none => none
    | none => none
end

def resAll (s : Slots) (h : Heap) : List ResultVar → Option (List D)
  | [] => some []
  | .tmp t :: l => match slotD h (lk s t) with
    | some x => match resAll s h l with
      | some xs => some (x :: xs)
      | none => none
    | none => none
  | _ :: _ => none

def resOf (s : Slots) (h : Heap) (l : List ResultVar) : Option D :=
  match resAll s h l with
  | some [x] => some x
  | some xs => some (.tup xs)
  | none => none

theorem own_rep {ok ok' : Nat → Prop} {w : World} {l : Loc} {e sz : Nat} {xs : List D} (hc : RepArr ok w l e sz xs) (hk : ∀ b, ok b → ok' b) (hb : l.nil = false → ok' l.b) :
    RepD ok' w (sliceAt l xs.length) (.lst xs) := by
  obtain ⟨h0, cl, ⟨o1, o2⟩, r1, vs, r2, r3, r4⟩ := hc
  rcases o2 with ⟨o2, o3⟩ | ⟨g, cap, cur, o2, o3, o4, o5, o6, o7, o8⟩
  · rw [o2]
    have : xs = [] := List.eq_nil_of_length_eq_zero o3
    subst this
    exact .nil0
  · have hg : g = l.b ∧ l.nil = false := by
      unfold sliceAt at o2
      split at o2
      · cases o2
      · rename_i hn
        cases o2; exact ⟨rfl, by simpa using hn⟩
    obtain ⟨rfl, hn⟩ := hg
    rw [o2]
    refine .lst l.b 0 cap xs.length cur e (0, 0) xs vs sz (hb hn) o4 r2 rfl o5 (by simp only [maxLen] at o6; omega) (fun i v x hv hx => (r3 i v x hv hx).mono fun b h1 _ => ⟨hk b h1, rfl⟩) fun i v hv => ⟨(r4 i v hv).1, fun j hj => ?_⟩
    rw [← (r4 i v hv).2 j hj, ← o8]
    have hi : i < xs.length := by
      rw [← r2]
      rcases Nat.lt_or_ge i vs.length with hh | hh
      · exact hh
      · simp [hh] at hv
    have hm : i * sz + sz ≤ xs.length * sz := by
      have := Nat.mul_le_mul_right sz (show i + 1 ≤ xs.length from hi)
      rw [Nat.add_mul] at this
      omega
    rw [List.getElem?_take, if_pos (by omega)]
    simp

/-- Rows of one's own as data. -/
theorem rows_rep {ok ok' : Nat → Prop} {w : World} {l : Loc} {σ : Nat → Loc} {h : Heap} {e e' sz : Nat} {xss : List (List D)} (hc : RepChunk σ h ok w l (.rows e e' sz xss none)) (hk : ∀ b, ok b → ok' b) (hb : ∀ b, b ∈ blk l (.rows e e' sz xss none) → ok' b) :
    RepD ok' w (sliceAt l xss.length) (.lst (xss.map .lst)) := by
  obtain ⟨h0, h1, ⟨cl, ho, h3⟩, h4, _⟩ := hc
  have hel : ∀ i, i < xss.length → ∃ q xs, l.kids[i]? = some q ∧ xss[i]? = some xs ∧ cl[i]? = some (sliceAt (kidLoc q) xs.length) ∧ RepArr ok w (kidLoc q) e' sz xs := fun i hi => by
    have e1 : l.kids[i]? = some l.kids[i] := List.getElem?_eq_getElem (by omega)
    have e2 : xss[i]? = some xss[i] := List.getElem?_eq_getElem hi
    exact ⟨_, _, e1, e2, (h3 i _ _ e1 e2).1, h4 i _ _ e1 e2 (by simp [hat])⟩
  have hlen : cl.length = xss.length := by simpa using ho.1
  cases hn : l.nil with
  | true =>
    have := rows_nil ho hn
    have : xss = [] := List.eq_nil_of_length_eq_zero this
    subst this
    simp only [sliceAt, hn, if_true]
    exact .nil0
  | false =>
    have pEl : ∀ (i : Nat) v x, cl[i]? = some v → (xss.map D.lst)[i]? = some x → RepD ok' w v x := fun i v x hv hx => by
      rw [List.getElem?_map, Option.map_eq_some_iff] at hx
      obtain ⟨xs, hx, rfl⟩ := hx
      have hi : i < xss.length := by
        rcases Nat.lt_or_ge i xss.length with hh | hh
        · exact hh
        · simp [hh] at hx
      obtain ⟨q, xs', q1, q2, q3, q4⟩ := hel i hi
      rw [hx] at q2
      cases q2
      rw [hv] at q3
      cases q3
      exact own_rep q4 hk fun hnk => hb _ (kid_blk hn q1 hnk (by simp [hat]))
    have pCell : ∀ (i : Nat) v, cl[i]? = some v → v.cells.size = 1 ∧ ∀ j, j < 1 → cl[i * 1 + j]? = v.cells[j]? := fun i v hv => by
      have hi : i < xss.length := by
        rw [← hlen]
        rcases Nat.lt_or_ge i cl.length with hh | hh
        · exact hh
        · simp [hh] at hv
      obtain ⟨q, xs', q1, q2, q3, q4⟩ := hel i hi
      rw [hv] at q3
      cases q3
      have hc1 : (sliceAt (kidLoc q) xs'.length).cells = #[sliceAt (kidLoc q) xs'.length] := by
        unfold sliceAt; split <;> rfl
      rw [hc1]
      exact ⟨rfl, fun j hj => by
        have : j = 0 := by omega
        subst this
        simpa using hv⟩
    have key : RepD ok' w (sliceAt l (xss.map D.lst).length) (.lst (xss.map .lst)) := by
      refine own_rep (e := e) (sz := 1) (ok := ok') ⟨Nat.one_pos, cl, by simpa using ho, by simpa using hlen, cl, by simpa using hlen, fun i v x hv hx => ?_, fun i v hv => ?_⟩ (fun _ h => h) (fun _ => hb _ (by simp [blk, hn]))
      · exact pEl i v x hv hx
      · exact pCell i v hv
    simpa using key

mutual
theorem slotG_rep {σ : Nat → Loc} {h : Heap} {ok ok' : Nat → Prop} {w : World} (hh : ∀ p ∈ h, RepChunk σ h ok w (σ p.1) p.2) (hk : ∀ b, ok b → ok' b) (hb : ∀ p ∈ h, ∀ b, b ∈ blk (σ p.1) p.2 → ok' b) :
    ∀ {sv : SV} {v : Value} {x : D}, RepSV σ h ok w v sv → slotD h sv = some x → RepD ok' w v x
  | .junk, v, x, _, hs => by simp [slotD] at hs
  | .und, v, x, _, hs => by simp [slotD] at hs
  | .ref _ _, v, x, _, hs => by simp [slotD] at hs
  | .elt _ _, v, x, _, hs => by simp [slotD] at hs
  | .d y, v, x, hv, hs => by
    simp only [slotD, Option.some.injEq] at hs
    subst hs
    exact RepD.mono hv fun b h1 _ => ⟨hk b h1, rfl⟩
  | .own id, v, x, hv, hs => by
    simp only [slotD] at hs
    split at hs
    · rename_i e sz xs hg
      simp only [Option.some.injEq] at hs
      subst hs
      simp only [RepSV, hg] at hv
      subst hv
      obtain ⟨p, hp, rfl, hp2⟩ := get_mem hg
      have hc := hh p hp
      have hbb := hb p hp
      rw [hp2] at hc hbb
      exact own_rep hc hk fun hn => hbb _ (by simp [blk, hn])
    · rename_i e e' sz xss hg
      simp only [Option.some.injEq] at hs
      subst hs
      simp only [RepSV, hg] at hv
      subst hv
      obtain ⟨p, hp, rfl, hp2⟩ := get_mem hg
      have hc := hh p hp
      have hbb := hb p hp
      rw [hp2] at hc hbb
      exact rows_rep hc hk hbb
    · rename_i kvs hg
      simp only [Option.some.injEq] at hs
      subst hs
      simp only [RepSV, hg] at hv
      subst hv
      obtain ⟨p, hp, rfl, hp2⟩ := get_mem hg
      have hc := hh p hp
      have hbb := hb p hp
      rw [hp2] at hc hbb
      obtain ⟨es, clock, h1, h2, h3⟩ := hc
      exact .map _ es clock kvs (hbb _ (by simp [blk])) h1 h2 (fun i e kv he hkv => (h3 i e kv he hkv).1.mono fun b h1 _ => ⟨hk b h1, rfl⟩) (fun i e kv he hkv => (h3 i e kv he hkv).2.mono fun b h1 _ => ⟨hk b h1, rfl⟩)
    · cases hs
  | .sub id i, v, x, hv, hs => by
    simp only [slotD] at hs
    split at hs
    · rename_i e e' sz xss hg
      split at hs
      · rename_i xs hx
        simp only [Option.some.injEq] at hs
        subst hs
        simp only [RepSV, hg, hx, Option.some.injEq] at hv
        obtain ⟨q, xs', hq, rfl, rfl⟩ := hv
        obtain ⟨p, hp, rfl, hp2⟩ := get_mem hg
        have hc := hh p hp
        have hbb := hb p hp
        rw [hp2] at hc hbb
        obtain ⟨h0, h1, ⟨cl, ho, h3⟩, h4, _⟩ := hc
        refine own_rep (h4 i q xs hq hx (by simp [hat])) hk fun hn => hbb _ ?_
        cases hnil : (σ p.1).nil with
        | true =>
          have := rows_nil ho hnil
          have : xss = [] := List.eq_nil_of_length_eq_zero this
          subst this
          simp at hx
        | false => exact kid_blk hnil hq hn (by simp [hat])
      · cases hs
    · cases hs
  | .agg l, v, x, hv, hs => by
    simp only [slotD] at hs
    split at hs
    · rename_i xs hx
      split at hs
      · rename_i ha
        simp only [Option.some.injEq] at hs
        subst hs
        simp only [RepSV] at hv
        obtain ⟨cs, rfl, hl⟩ := hv
        obtain ⟨k1, k2⟩ := slotGs_rep hh hk hb hl hx
        exact .agg cs xs (by simpa using k1) (fun y hy => List.all_eq_true.1 ha y hy) fun i v x hv hx => k2 i v x (by simpa using hv) hx
      · cases hs
    · cases hs
  | .tup l, v, x, hv, hs => by
    simp only [slotD] at hs
    split at hs
    · rename_i xs hx
      simp only [Option.some.injEq] at hs
      subst hs
      simp only [RepSV] at hv
      obtain ⟨cs, rfl, hl⟩ := hv
      obtain ⟨k1, k2⟩ := slotGs_rep hh hk hb hl hx
      exact .tup cs xs (by simpa using k1) fun i v x hv hx => k2 i v x (by simpa using hv) hx
    · cases hs
  | .fn f l, v, x, hv, hs => by
    simp only [slotD] at hs
    split at hs
    · rename_i xs hx
      simp only [Option.some.injEq] at hs
      subst hs
      simp only [RepSV] at hv
      obtain ⟨cs, rfl, hl⟩ := hv
      obtain ⟨k1, k2⟩ := slotGs_rep hh hk hb hl hx
      exact .fn f cs xs (by simpa using k1) fun i v x hv hx => k2 i v x (by simpa using hv) hx
    · cases hs
theorem slotGs_rep {σ : Nat → Loc} {h : Heap} {ok ok' : Nat → Prop} {w : World} (hh : ∀ p ∈ h, RepChunk σ h ok w (σ p.1) p.2) (hk : ∀ b, ok b → ok' b) (hb : ∀ p ∈ h, ∀ b, b ∈ blk (σ p.1) p.2 → ok' b) :
    ∀ {l : List SV} {one : Bool} {vs : List Value} {xs : List D}, RepSVs σ h ok w one vs l → slotDs h l = some xs → vs.length = xs.length ∧ ∀ (i : Nat) v x, vs[i]? = some v → xs[i]? = some x → RepD ok' w v x
  | [], one, vs, xs, hv, hs => by
    simp only [slotDs, Option.some.injEq] at hs
    subst hs
    simp only [RepSVs] at hv
    subst hv
    exact ⟨rfl, by simp⟩
  | y :: l, one, vs, xs, hv, hs => by
    simp only [slotDs] at hs
    simp only [RepSVs] at hv
    obtain ⟨v, vs', rfl, h1, h2, h3⟩ := hv
    split at hs
    · rename_i z hz
      split at hs
      · rename_i zs hzs
        simp only [Option.some.injEq] at hs
        subst hs
        obtain ⟨k1, k2⟩ := slotGs_rep hh hk hb h3 hzs
        refine ⟨by simp [k1], fun i v' x' hv hx => ?_⟩
        cases i with
        | zero => simp at hv hx; subst hv hx; exact slotG_rep hh hk hb h1 hz
        | succ i => exact k2 i v' x' (by simpa using hv) (by simpa using hx)
      · cases hs
    · cases hs
end

theorem slotD_rep {cx : Cx} {σ : Nat → Loc} {s : Nat → SV} {h : Heap} {a : Act} {w : World} (hr : RW cx σ s h a w) (hx0 : ∀ i b, ¬ cx.X0 i b) {v : Value} {sv : SV} {x : D} (hv : RepSV σ h (okf cx σ h) w v sv) (hs : slotD h sv = some x) :
    RepD (fun b => cx.ok0 b ∨ cx.w0.heap.size ≤ b) w v x :=
  slotG_rep hr.heap.rep (fun b h1 => h1.1.imp id (Nat.le_trans cx.nwle)) (fun p hp b hb => .inr ((hr.heap.mine p hp b hb).1.resolve_left (hx0 _ _))) hv hs

theorem resAll_run {cx : Cx} {σ : Nat → Loc} {s : Slots} {h : Heap} {a : Act} {w : World} (hr : RW cx σ (lk s) h a w) (hx0 : ∀ i b, ¬ cx.X0 i b) : ∀ (l : List ResultVar) (xs : List D), resAll s h l = some xs →
    ∃ vs : List Value, (l.mapM (fun | .tmp t => pure (a.tmps.getD t undef) | .cell p t => do loadVar t (← asAddr (a.tmps.getD p undef)) : ResultVar → Sem Value)).run cx.P w = .ok vs w ∧
      vs.length = xs.length ∧ ∀ (i : Nat) v x, vs[i]? = some v → xs[i]? = some x → RepD (fun b => cx.ok0 b ∨ cx.w0.heap.size ≤ b) w v x
  | [], xs, hh => by
    simp only [resAll, Option.some.injEq] at hh
    subst hh
    exact ⟨[], by simp [List.mapM_nil], rfl, by simp⟩
  | .tmp t :: l, xs, hh => by
    simp only [resAll] at hh
    split at hh
    · rename_i x hx
      split at hh
      · rename_i ys hy
        simp only [Option.some.injEq] at hh
        subst hh
        obtain ⟨vs, h1, h2, h3⟩ := resAll_run hr hx0 l ys hy
        refine ⟨a.tmps.getD t undef :: vs, ?_, by simp [h2], fun i v x' hv hx' => ?_⟩
        · rw [List.mapM_cons]
          simp only [Sem.run_bind, Sem.run_pure, Result.andThen_ok, h1]
        · cases i with
          | zero => simp only [List.getElem?_cons_zero, Option.some.injEq] at hv hx'; subst hv hx'; exact slotD_rep hr hx0 (hr.slots t) hx
          | succ i => exact h3 i v x' (by simpa using hv) (by simpa using hx')
      · cases hh
    · cases hh
  | .cell p t :: l, xs, hh => by simp [resAll] at hh

theorem resOf_run {cx : Cx} {σ : Nat → Loc} {s : Slots} {h : Heap} {a : Act} {w : World} (hr : RW cx σ (lk s) h a w) (hx0 : ∀ i b, ¬ cx.X0 i b) {fn : Func} {x : D} (hh : resOf s h fn.results.toList = some x) :
    ∃ v, (results fn a.tmps).run cx.P w = .ok v w ∧ RepD (fun b => cx.ok0 b ∨ cx.w0.heap.size ≤ b) w v x := by
  unfold resOf at hh
  have key : ∀ xs, resAll s h fn.results.toList = some xs → ∃ vs : List Value, (results fn a.tmps).run cx.P w = .ok (if h : vs.length = 1 then vs[0] else .tuple vs.toArray) w ∧
      vs.length = xs.length ∧ ∀ (i : Nat) v x, vs[i]? = some v → xs[i]? = some x → RepD (fun b => cx.ok0 b ∨ cx.w0.heap.size ≤ b) w v x := fun xs hx => by
    obtain ⟨vs, h1, h2, h3⟩ := resAll_run hr hx0 _ _ hx
    refine ⟨vs, ?_, h2, h3⟩
    unfold results
    rw [Array.mapM_eq_mapM_toList, Sem.run_bind, Sem.run_map]
    refine (congrArg (fun r => Result.andThen (Result.andThen r _) _) h1).trans ?_
    simp
  split at hh
  · rename_i y hy
    simp only [Option.some.injEq] at hh
    subst hh
    obtain ⟨vs, h1, h2, h3⟩ := key _ hy
    match vs, h2 with
    | [v], _ => exact ⟨v, by simpa using h1, h3 0 v y rfl rfl⟩
  · rename_i ys hne hy
    simp only [Option.some.injEq] at hh
    subst hh
    obtain ⟨vs, h1, h2, h3⟩ := key _ hy
    have hl : vs.length ≠ 1 := fun e => by
      rw [h2] at e
      obtain ⟨y, rfl⟩ := List.length_eq_one_iff.1 e
      exact hne y rfl
    rw [dif_neg hl] at h1
    exact ⟨_, h1, .tup _ _ (by simpa using h2) fun i v x hv hx => h3 i v x (by simpa using hv) hx⟩
  · cases hh

theorem args0_rep {ok : Nat → Prop} {σ : Nat → Loc} {w : World} {vs : List Value} : ∀ (xs : List D) (k : Nat) (tmps : Array Value), (∀ (i : Nat) x, xs[i]? = some x → RepD ok w (tmps.getD (k + i) undef) x) →
    ∀ t, RepSV σ [] ok w (tmps.getD t undef) (lk (args0 k xs) t)
  | [], k, tmps, _, t => trivial
  | x :: xs, k, tmps, hh, t => by
    simp only [args0, lk]
    split
    · rename_i e; subst e; exact hh 0 x rfl
    · exact args0_rep (vs := vs) xs (k + 1) tmps (fun i y hy => by have := hh (i + 1) y (by simpa using hy); rwa [show k + (i + 1) = k + 1 + i by omega] at this) t

theorem ac_intro {P : Program} {T : List (Nat × TR)} {f : Nat} {fn : Func} {c : Code} {xs : List D} {r : D} (tab : tabOk P T = true) (nt : Nat) (hf : P.funcs[f]? = some fn) (hb : fn.body = some c)
    (hname : (fn.name == "runtime.NumGoroutine") = false) (hnt : fn.ntmps = nt) (hle : Nat.ble xs.length nt = true) (hsm : Nat.ble nt 10000 = true)
    (hw : ∀ (w0 : World) (ok0 : Nat → Prop), awp ⟨P, T, tab, w0, ok0, fun _ _ => False, fun _ => False, nt, fun _ => ⟨0, 0, true, []⟩, hsm, w0.heap.size, Nat.le_refl _⟩ c (args0 0 xs) [] (fun e s h => (e = .normal ∨ e = .ret) ∧ resOf s h fn.results.toList = some r)) : AC P f xs r := by
  refine ⟨⟨fn, hf, by simp [hb], hname⟩, fun w ok vs hok hvs => ?_⟩
  have hle' := Nat.le_of_ble_eq_true hle
  refine calls_of_wp hf hb (wp_mono (hw w ok _ w ⟨fun _ => ⟨0, 0, true, []⟩, ⟨rfl, rfl, rfl, Nat.le_refl _, fun _ _ _ => rfl⟩, rfl, ?_, ⟨by simp, by simp, by simp, by simp, by simp, by simp⟩, ?_⟩) ?_)
  · simp only [Array.size_append, Array.size_replicate, hvs.1, hnt]
    omega
  · refine args0_rep (vs := []) xs 0 _ fun i x hx => ?_
    have hi : i < xs.length := by
      rcases Nat.lt_or_ge i xs.length with hh | hh
      · exact hh
      · simp [hh] at hx
    have hiv : i < vs.size := by rw [hvs.1]; exact hi
    have hget : vs[i]? = some vs[i] := Array.getElem?_eq_getElem hiv
    have := hvs.2 i _ x hget hx
    rw [Nat.zero_add, Array.getD_eq_getD_getElem?, Array.getElem?_append_left hiv, hget]
    exact this.mono fun b h1 _ => ⟨⟨.inl h1, by simp⟩, rfl⟩
  · rintro e a' w' ⟨s', h', ⟨he, hres⟩, σ, hr⟩
    obtain ⟨v, h1, h2⟩ := resOf_run (fn := fn) hr (fun i b hb => by unfold Cx.X0 at hb; split at hb <;> exact hb) hres
    have hB : Below w.heap.size w w' := ⟨hr.evo.os, hr.evo.tape, hr.evo.output, hr.evo.size, fun k hk => hr.evo.block k hk (fun i hb => by unfold Cx.X0 at hb; split at hb <;> exact hb)⟩
    rcases he with rfl | rfl
    · exact ⟨hr.defers, v, h1, v, rfl, h2, hB⟩
    · exact ⟨hr.defers, v, h1, v, rfl, h2, hB⟩

end Go.Proofs.YtampglcgipefnaaGreat
