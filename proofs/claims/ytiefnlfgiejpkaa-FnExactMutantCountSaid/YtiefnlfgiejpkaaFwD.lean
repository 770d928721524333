/- Contracts of functions over data, calls, the way into a function's body and out of it; elements of slices, boxed values, integer arithmetic, strings. No condition. -/
import Derived.Test.YtiefnlfgiejpkaaFwC
namespace Go.Proofs.Ytiefnlfgiejpkaa
open Go
open Go.RowKit (Below)
set_option linter.unusedVariables false
set_option linter.unusedSimpArgs false

/-! ### Contracts -/

def Callable (P : Program) (f : Nat) : Prop := ∃ fn, P.funcs[f]? = some fn ∧ fn.body.isNone = false ∧ (fn.name == "runtime.NumGoroutine") = false

def RepAll (ok : Nat → Prop) (w : World) (vs : Array Value) (xs : List D) : Prop :=
  vs.size = xs.length ∧ ∀ (i : Nat) v x, vs[i]? = some v → xs[i]? = some x → RepD ok w v x

/-- Called with these data the function returns that one; old memory stays as it was; what is returned lies in new blocks and in those of the arguments. -/
def AC (P : Program) (f : Nat) (xs : List D) (r : D) : Prop :=
  Callable P f ∧ ∀ (w : World) (ok : Nat → Prop) (vs : Array Value), (∀ b, ok b → b < w.heap.size) → RepAll ok w vs xs →
    Calls P f vs w fun e w' => ∃ v, e = .returned v ∧ RepD (fun b => ok b ∨ w.heap.size ≤ b) w' v r ∧ Below w.heap.size w w'

theorem exec_call {P : Program} {ρ : Operand → Value} {o : Oper} {f : Operand} {args : Array Operand} {tys : Array TypeId} {g : Nat} {first cap : Array Value} {w : World}
    (ho : o.op = .call { callee := .value f, args := args, argTypes := tys }) (hf : ρ f = .func (.func g) first cap) (hc : Callable P g) :
    (execOp ρ o).run P w = .ok (.enter g (first ++ args.map ρ ++ cap)) w := by
  obtain ⟨fn, h1, h2, h3⟩ := hc
  have h3' : ¬ fn.name = "runtime.NumGoroutine" := by simpa using h3
  have h2' : ¬ fn.body = none := fun e => by simp [e] at h2
  simp [execOp, ho, resolve, hf, Deferred.ofValue, invoke, callFunc, h1, h2', h3']

theorem qt_call {cx : Cx} {h : Heap} {o : Oper} {s : Nat → SV} {f : Operand} {args : Array Operand} {tys : Array TypeId} {g : Nat} {cap xs : List D} {r : D}
    (ho : o.op = .call { callee := .value f, args := args, argTypes := tys }) (hf : opv s f = .d (.fn g cap)) (ha : allD (args.toList.map (opv s)) = some xs) (hac : AC cx.P g (xs ++ cap) r) :
    Qt cx h o s (.d r) := by
  intro s₁ hs σ a w hr K Q hK
  have agree : ∀ x ∈ o.op.operands, opv s₁ x = opv s x := fun x hx => by cases x <;> first | rfl | exact hs _ hx
  have hfr := rep_eval hr f
  rw [agree f (by simp [ho, Op.operands, Call.operands]), hf] at hfr
  have hfr' : RepD (okf cx σ h) w (a.eval f) (.fn g cap) := hfr
  generalize hu : a.eval f = u at hfr'
  cases hfr' with
  | fn _ vs _ hc1 hc2 =>
    have har := allD_rep (σ := σ) (h := h) (ok := okf cx σ h) (w := w) (vs := (args.map a.eval).toList) ha (by simp) (fun i v x hv hx => by
      simp only [map_toList_arr, List.getElem?_map, Option.map_eq_some_iff] at hv hx
      obtain ⟨y, hy, rfl⟩ := hv
      obtain ⟨y', hy', rfl⟩ := hx
      have : y = y' := Option.some.inj (hy.symm.trans hy')
      subst this
      rw [← agree y (by
        have := List.mem_of_getElem? hy
        simp [ho, Op.operands, Call.operands]
        exact .inr (by simpa using this))]
      exact rep_eval hr y)
    unfold Oper.wp
    rw [exec_call ho hu hac.1]
    rw [Oper.upon_enter]
    refine (hac.2 w (fun b => okf cx σ h b ∧ b < w.heap.size) _ (fun b hb => hb.2) ?_).mono ?_
    · refine ⟨by simp; have := har.1; simp at this; omega, fun i v x hv hx => ?_⟩
      have key : RepD (okf cx σ h) w v x := by
        simp only [Array.empty_append] at hv
        rw [Array.getElem?_append] at hv
        rw [List.getElem?_append] at hx
        have e1 := har.1
        simp only [map_toList_arr, List.length_map, Array.length_toList] at e1
        simp only [Array.size_map] at hv
        split at hv
        · rename_i hlt
          rw [if_pos (by omega)] at hx
          exact har.2 i v x (by simpa using hv) hx
        · rename_i hlt
          rw [if_neg (by omega)] at hx
          rw [e1] at hv
          exact hc2 _ v x hv hx
      exact key.mono fun b h1 h2 => ⟨⟨h1, h2⟩, rfl⟩
    · rintro e w' ⟨v, rfl, hv, hb⟩
      refine hK v w' hb ?_
      refine RepD.mono hv fun b h1 h2 => ⟨?_, rfl⟩
      rcases h1 with h1 | h1
      · exact h1.1
      · exact ⟨.inr (Nat.le_trans hr.evo.size h1), fun p hp e => by have := (hr.heap.mine p hp).2; omega⟩

/-! ### Into a body and out of it -/

def args0 : Nat → List D → Slots
  | _, [] => []
  | k, x :: xs => (k, .d x) :: args0 (k + 1) xs

def slotD (h : Heap) : SV → Option D
  | .d x => some x
  | .own id => match h.get id with
    | some (.arr _ _ xs) => some (.lst xs)
    | _ => none
  | _ => none

def resAll (s : Slots) (h : Heap) : List ResultVar → Option (List D)
  | [] => some []
  | .tmp t :: l => match slotD h (lk s t) with
    | some x => match resAll s h l with
      | some xs => some (x :: xs)
      | none => none
    | none => none
  | _ :: _ => none

def resOf (s : Slots) (h : Heap) (l : List ResultVar) : Option D :=
  match resAll s h l with
  | some [x] => some x
  | some xs => some (.tup xs)
  | none => none

theorem own_rep {σ : Nat → Loc} {h : Heap} {ok ok' : Nat → Prop} {w : World} {l : Loc} {e sz : Nat} {xs : List D} (hc : RepChunk σ h ok w l (.arr e sz xs)) (hk : ∀ b, ok b → ok' b) (hb : ok' l.b) :
    RepD ok' w (sliceAt l xs.length) (.lst xs) := by
  obtain ⟨h0, hlt, cl, ⟨o1, o2⟩, r1, vs, r2, r3, r4⟩ := hc
  rcases o2 with ⟨o2, o3⟩ | ⟨g, cap, cur, o2, o3, o4, o5, o6, o7, o8⟩
  · rw [o2]
    have : xs = [] := List.eq_nil_of_length_eq_zero o3
    subst this
    exact .nil0
  · have hg : g = l.b := by
      unfold sliceAt at o2
      split at o2
      · cases o2
      · cases o2; rfl
    subst hg
    rw [o2]
    refine .lst l.b 0 cap xs.length cur e (0, 0) xs vs sz hb o4 r2 rfl o5 (by simp only [maxLen] at o6; omega) (fun i v x hv hx => (r3 i v x hv hx).mono fun b h1 _ => ⟨hk b h1, rfl⟩) fun i v hv => ⟨(r4 i v hv).1, fun j hj => ?_⟩
    rw [← (r4 i v hv).2 j hj, ← o8]
    have hi : i < xs.length := by
      rw [← r2]
      rcases Nat.lt_or_ge i vs.length with hh | hh
      · exact hh
      · simp [hh] at hv
    have hm : i * sz + sz ≤ xs.length * sz := by
      have := Nat.mul_le_mul_right sz (show i + 1 ≤ xs.length from hi)
      rw [Nat.add_mul] at this
      omega
    rw [List.getElem?_take, if_pos (by omega)]
    simp

theorem slotD_rep {cx : Cx} {σ : Nat → Loc} {s : Nat → SV} {h : Heap} {a : Act} {w : World} (hr : RW cx σ s h a w) (hx0 : ∀ b, ¬ cx.X0 b) {v : Value} {sv : SV} {x : D} (hv : RepSV σ h (okf cx σ h) w v sv) (hs : slotD h sv = some x) :
    RepD (fun b => cx.ok0 b ∨ cx.w0.heap.size ≤ b) w v x := by
  unfold slotD at hs
  split at hs
  · simp only [Option.some.injEq] at hs
    subst hs
    exact RepD.mono hv fun b h1 _ => ⟨h1.1, rfl⟩
  · rename_i id
    split at hs
    · rename_i e sz xs hg
      simp only [Option.some.injEq] at hs
      subst hs
      simp only [RepSV, hg] at hv
      subst hv
      obtain ⟨p, hp, rfl, hp2⟩ := get_mem hg
      have hc := hr.heap.rep p hp
      rw [hp2] at hc
      exact own_rep hc (fun b h1 => h1.1) (.inr ((hr.heap.mine p hp).1.resolve_left (hx0 _)))
    · cases hs
  · cases hs

theorem resAll_run {cx : Cx} {σ : Nat → Loc} {s : Slots} {h : Heap} {a : Act} {w : World} (hr : RW cx σ (lk s) h a w) (hx0 : ∀ b, ¬ cx.X0 b) : ∀ (l : List ResultVar) (xs : List D), resAll s h l = some xs →
    ∃ vs : List Value, (l.mapM (fun | .tmp t => pure (a.tmps.getD t undef) | .cell p t => do loadVar t (← asAddr (a.tmps.getD p undef)) : ResultVar → Sem Value)).run cx.P w = .ok vs w ∧
      vs.length = xs.length ∧ ∀ (i : Nat) v x, vs[i]? = some v → xs[i]? = some x → RepD (fun b => cx.ok0 b ∨ cx.w0.heap.size ≤ b) w v x
  | [], xs, hh => by
    simp only [resAll, Option.some.injEq] at hh
    subst hh
    exact ⟨[], by simp [List.mapM_nil], rfl, by simp⟩
  | .tmp t :: l, xs, hh => by
    simp only [resAll] at hh
    split at hh
    · rename_i x hx
      split at hh
      · rename_i ys hy
        simp only [Option.some.injEq] at hh
        subst hh
        obtain ⟨vs, h1, h2, h3⟩ := resAll_run hr hx0 l ys hy
        refine ⟨a.tmps.getD t undef :: vs, ?_, by simp [h2], fun i v x' hv hx' => ?_⟩
        · rw [List.mapM_cons]
          simp only [Sem.run_bind, Sem.run_pure, Result.andThen_ok, h1]
        · cases i with
          | zero => simp only [List.getElem?_cons_zero, Option.some.injEq] at hv hx'; subst hv hx'; exact slotD_rep hr hx0 (hr.slots t) hx
          | succ i => exact h3 i v x' (by simpa using hv) (by simpa using hx')
      · cases hh
    · cases hh
  | .cell p t :: l, xs, hh => by simp [resAll] at hh

theorem resOf_run {cx : Cx} {σ : Nat → Loc} {s : Slots} {h : Heap} {a : Act} {w : World} (hr : RW cx σ (lk s) h a w) (hx0 : ∀ b, ¬ cx.X0 b) {fn : Func} {x : D} (hh : resOf s h fn.results.toList = some x) :
    ∃ v, (results fn a.tmps).run cx.P w = .ok v w ∧ RepD (fun b => cx.ok0 b ∨ cx.w0.heap.size ≤ b) w v x := by
  unfold resOf at hh
  have key : ∀ xs, resAll s h fn.results.toList = some xs → ∃ vs : List Value, (results fn a.tmps).run cx.P w = .ok (if h : vs.length = 1 then vs[0] else .tuple vs.toArray) w ∧
      vs.length = xs.length ∧ ∀ (i : Nat) v x, vs[i]? = some v → xs[i]? = some x → RepD (fun b => cx.ok0 b ∨ cx.w0.heap.size ≤ b) w v x := fun xs hx => by
    obtain ⟨vs, h1, h2, h3⟩ := resAll_run hr hx0 _ _ hx
    refine ⟨vs, ?_, h2, h3⟩
    unfold results
    rw [Array.mapM_eq_mapM_toList, Sem.run_bind, Sem.run_map]
    refine (congrArg (fun r => Result.andThen (Result.andThen r _) _) h1).trans ?_
    simp
  split at hh
  · rename_i y hy
    simp only [Option.some.injEq] at hh
    subst hh
    obtain ⟨vs, h1, h2, h3⟩ := key _ hy
    match vs, h2 with
    | [v], _ => exact ⟨v, by simpa using h1, h3 0 v y rfl rfl⟩
  · rename_i ys hne hy
    simp only [Option.some.injEq] at hh
    subst hh
    obtain ⟨vs, h1, h2, h3⟩ := key _ hy
    have hl : vs.length ≠ 1 := fun e => by
      rw [h2] at e
      obtain ⟨y, rfl⟩ := List.length_eq_one_iff.1 e
      exact hne y rfl
    rw [dif_neg hl] at h1
    exact ⟨_, h1, .tup _ _ (by simpa using h2) fun i v x hv hx => h3 i v x (by simpa using hv) hx⟩
  · cases hh

theorem args0_rep {ok : Nat → Prop} {σ : Nat → Loc} {w : World} {vs : List Value} : ∀ (xs : List D) (k : Nat) (tmps : Array Value), (∀ (i : Nat) x, xs[i]? = some x → RepD ok w (tmps.getD (k + i) undef) x) →
    ∀ t, RepSV σ [] ok w (tmps.getD t undef) (lk (args0 k xs) t)
  | [], k, tmps, _, t => trivial
  | x :: xs, k, tmps, hh, t => by
    simp only [args0, lk]
    split
    · rename_i e; subst e; exact hh 0 x rfl
    · exact args0_rep (vs := vs) xs (k + 1) tmps (fun i y hy => by have := hh (i + 1) y (by simpa using hy); rwa [show k + (i + 1) = k + 1 + i by omega] at this) t

theorem ac_intro {P : Program} {T : List (Nat × TR)} {f : Nat} {fn : Func} {c : Code} {xs : List D} {r : D} (tab : tabOk P T = true) (nt : Nat) (hf : P.funcs[f]? = some fn) (hb : fn.body = some c)
    (hname : (fn.name == "runtime.NumGoroutine") = false) (hnt : fn.ntmps = nt) (hle : Nat.ble xs.length nt = true)
    (hw : ∀ (w0 : World) (ok0 : Nat → Prop), awp ⟨P, T, tab, w0, ok0, fun _ => False, nt⟩ c (args0 0 xs) [] (fun e s h => (e = .normal ∨ e = .ret) ∧ resOf s h fn.results.toList = some r)) : AC P f xs r := by
  refine ⟨⟨fn, hf, by simp [hb], hname⟩, fun w ok vs hok hvs => ?_⟩
  have hle' := Nat.le_of_ble_eq_true hle
  refine calls_of_wp hf hb (wp_mono (hw w ok _ w ⟨fun _ => ⟨0, 0, false⟩, ⟨rfl, rfl, rfl, Nat.le_refl _, fun _ _ _ => rfl⟩, rfl, ?_, ⟨by simp, by simp, by simp, by simp⟩, ?_⟩) ?_)
  · simp only [Array.size_append, Array.size_replicate, hvs.1, hnt]
    omega
  · refine args0_rep (vs := []) xs 0 _ fun i x hx => ?_
    have hi : i < xs.length := by
      rcases Nat.lt_or_ge i xs.length with hh | hh
      · exact hh
      · simp [hh] at hx
    have hiv : i < vs.size := by rw [hvs.1]; exact hi
    have hget : vs[i]? = some vs[i] := Array.getElem?_eq_getElem hiv
    have := hvs.2 i _ x hget hx
    rw [Nat.zero_add, Array.getD_eq_getD_getElem?, Array.getElem?_append_left hiv, hget]
    exact this.mono fun b h1 _ => ⟨⟨.inl h1, by simp⟩, rfl⟩
  · rintro e a' w' ⟨s', h', ⟨he, hres⟩, σ, hr⟩
    obtain ⟨v, h1, h2⟩ := resOf_run (fn := fn) hr (fun b hb => hb) hres
    have hB : Below w.heap.size w w' := ⟨hr.evo.os, hr.evo.tape, hr.evo.output, hr.evo.size, fun k hk => hr.evo.block k hk (fun hb => hb)⟩
    rcases he with rfl | rfl
    · exact ⟨hr.defers, v, h1, v, rfl, h2, hB⟩
    · exact ⟨hr.defers, v, h1, v, rfl, h2, hB⟩

end Go.Proofs.Ytiefnlfgiejpkaa
