/- Struct literals, one's own variables lent and given away, regions that draw their order and end with a write. No condition. -/
import Derived.Test.YtckpadnjldebaaaGreatFwJ
namespace Go.Proofs.YtckpadnjldebaaaGreat
open Go
open Go.RowKit (Below)
set_option linter.unusedVariables false
set_option linter.unusedSimpArgs false
section
variable {cx : Cx} {ops : Array Oper} {rest : List Oper} {s : Slots} {h : Heap} {Q : Exit -> Slots -> Heap -> Prop} {K : Slots -> Prop} {dst : Option Nat} {t ty : Nat} {pos : String} {af : Array Edge} {gd : Option (Nat × Bool)}
def putL : List D -> Nat -> List D -> List D
  | l, _, [] => l
  | l, off, x :: xs => putL (l.set off x) (off + 1) xs
theorem putL_length : ∀ (xs : List D) (l : List D) (off : Nat), (putL l off xs).length = l.length
  | [], _, _ => rfl
  | x :: xs, l, off => by simp [putL, putL_length xs]
theorem putL_get : ∀ (xs : List D) (l : List D) (off j : Nat), off + xs.length <= l.length -> (putL l off xs)[j]? = if off <= j /\ j < off + xs.length then xs[j - off]? else l[j]?
  | [], l, off, j, _ => by simp [putL]; omega
  | x :: xs, l, off, j, hl => by
    simp only [List.length_cons] at hl
    rw [putL, putL_get xs _ (off + 1) j (by simp; omega)]
    by_cases h1 : j = off
    . subst h1
      rw [if_neg (by omega), if_pos (by simp), List.getElem?_set_self (by omega)]
      simp
    . by_cases h2 : off + 1 <= j /\ j < off + 1 + xs.length
      . rw [if_pos h2, if_pos (by simp; omega)]
        rw [show j - off = (j - (off + 1)) + 1 by omega]
        simp
      . rw [if_neg h2, if_neg (by simp; omega), List.getElem?_set_ne (by omega)]
def buildD (fs : List (Nat × Nat × Bool)) (r : Operand -> SV) : List D -> List (Nat × Operand) -> Option (List D)
  | xs, [] => some xs
  | xs, (i, o) :: l => match fs[i]?, r o with
    | some q, .d y => match y.el && Nat.beq y.width q.2.1 && Nat.beq y.cells.length q.2.1 && y.cells.all D.one && Nat.ble (q.1 + q.2.1) xs.length with
      | true => buildD fs r (putL xs q.1 y.cells) l
      | false => none
    | _, _ => none
theorem fields_places {P : Program} : ∀ {l : List Field} {qs : List (Nat × Nat × Bool)}, fieldsAre P l qs = true -> l.mapM (fun f => (P.info? f.type).map fun i => (f.offset, i.size)) = some (qs.map fun q => (q.1, q.2.1))
  | [], [], _ => rfl
  | [], _ :: _, h => by simp [fieldsAre] at h
  | _ :: _, [], h => by simp [fieldsAre] at h
  | f :: l, q :: qs, h => by
    simp only [fieldsAre, Bool.and_eq_true] at h
    obtain ⟨h1, h2⟩ := h
    have ih := fields_places h2
    unfold fieldIs at h1
    simp only [Bool.and_eq_true, beq_iff_eq] at h1
    obtain ⟨ho, h1⟩ := h1
    split at h1
    . rename_i d i hd hi
      simp only [Bool.and_eq_true, beq_iff_eq, decide_eq_true_eq, Bool.or_eq_true] at h1
      simp [List.mapM_cons, hi, ih, ho, h1.1.1.2]
    . cases h1
theorem RepD.cellsAll {ok : Nat -> Prop} {w : World} {v : Value} {x : D} (h : RepD ok w v x) (hel : x.el = true) : v.cells.size = x.cells.length /\ ∀ (i : Nat) u y, v.cells[i]? = some u -> x.cells[i]? = some y -> RepD ok w u y := by
  cases h with
  | agg cs xs h1 h2 h3 => exact ⟨h1, h3⟩
  | tup => simp [D.el] at hel
  | _ =>
    refine ⟨rfl, fun i u y hu hy => ?_⟩
    simp only [D.cells, Value.cells] at hu hy
    cases i with
    | zero =>
      simp at hu hy
      subst hu hy
      first | exact .int _ _ | exact .bool _ | exact .str _ _ (by assumption) | exact .nils | exact .nil0 | exact .emp _ _ | exact .nilp | exact .nilm | (constructor <;> assumption)
    | succ i => simp at hu
theorem fill_fields {ok : Nat -> Prop} {w : World} {fs : List (Nat × Nat × Bool)} {r : Operand -> SV} {ρ : Operand -> Value} {σ : Nat -> Loc} {h : Heap} (hρ : ∀ x, RepSV σ h ok w (ρ x) (r x)) : ∀ (l : List (Nat × Operand)) (cells : Array Value) (xs ys : List D), cells.size = xs.length -> (∀ x ∈ xs, x.one = true) ->
    (∀ (i : Nat) v x, cells[i]? = some v -> xs[i]? = some x -> RepD ok w v x) -> buildD fs r xs l = some ys ->
    ∃ out, Instr.fill (((fs.map fun q => (q.1, q.2.1)).toArray)[·]?) cells (l.map fun (q : Nat × Operand) => (q.1, ρ q.2)) = some out /\ RepD ok w (.agg out) (.agg ys)
  | [], cells, xs, ys, h1, h2, h3, hb => by
    simp only [buildD, Option.some.injEq] at hb
    subst hb
    exact ⟨cells, rfl, .agg _ _ h1 h2 h3⟩
  | (i, o) :: l, cells, xs, ys, h1, h2, h3, hb => by
    simp only [buildD] at hb
    split at hb
    . rename_i q y hq hy
      split at hb
      . rename_i hc
        simp only [Bool.and_eq_true] at hc
        obtain ⟨⟨⟨⟨c1, c2⟩, c3⟩, c4⟩, c5⟩ := hc
        have c3 := Nat.eq_of_beq_eq_true c3
        have c5 := Nat.le_of_ble_eq_true c5
        have hv := hρ o
        rw [hy] at hv
        have hv' : RepD ok w (ρ o) y := hv
        obtain ⟨k1, k2⟩ := hv'.cellsAll c1
        obtain ⟨f1, f2⟩ := fold_set (ρ o).cells.toList 0 q.1 cells
        have hsz : (ρ o).cells.size = q.2.1 := by omega
        have step := fill_fields hρ l (((ρ o).cells.toList.zipIdx 0).foldl (fun cs (p : Value × Nat) => cs.setIfInBounds (q.1 + p.2) p.1) cells) (putL xs q.1 y.cells) ys
          (by rw [f1, putL_length]; exact h1)
          (fun x hx => by
            obtain ⟨j, hj⟩ := List.getElem?_of_mem hx
            rw [putL_get _ _ _ _ (by omega)] at hj
            split at hj
            . exact List.all_eq_true.1 c4 x (List.mem_of_getElem? hj)
            . exact h2 x (List.mem_of_getElem? hj))
          (fun j v x hjv hjx => by
            rw [f2] at hjv
            rw [putL_get _ _ _ _ (by omega)] at hjx
            simp only [Array.length_toList] at hjv
            by_cases hc : q.1 <= j /\ j < q.1 + y.cells.length
            . rw [if_pos hc] at hjx
              rw [if_pos (by omega)] at hjv
              exact k2 _ v x (by simpa using hjv) hjx
            . rw [if_neg hc] at hjx
              rw [if_neg (by omega)] at hjv
              exact h3 j v x hjv hjx) hb
        obtain ⟨out, o1, o2⟩ := step
        refine ⟨out, ?_, o2⟩
        rw [<- o1]
        simp only [List.map_cons, Instr.fill]
        have : ((fs.map fun q => (q.1, q.2.1)).toArray)[i]? = some (q.1, q.2.1) := by simp [hq]
        rw [this]
        simp only
        rw [if_neg (by simp [hsz]; omega)]
        congr 1
        rw [<- Array.foldl_toList, Array.toList_zipIdx]
      . cases hb
    . cases hb
theorem qa_build {T : Nat} {parts : Array (Nat × Operand)} {tr : TR} {f : Nat -> SV} {ys : List D} (ht : tget cx.T T = some tr) (hag : tr.agg = true) (hfi : tr.fields.isEmpty = false) (hb : buildD tr.fields (opv f) tr.zero parts.toList = some ys) :
    Qt cx h ⟨dst, .build T parts, ty, pos, af, gd⟩ f (.d (.agg ys)) := by
  intro s₁ hs σ a w hr K Q hK
  have hb' : buildD tr.fields (opv s₁) tr.zero parts.toList = some ys := by
    rw [<- hb]
    have key : ∀ (l : List (Nat × Operand)) (xs : List D), (∀ p ∈ l, p ∈ parts.toList) -> buildD tr.fields (opv s₁) xs l = buildD tr.fields (opv f) xs l := by
      intro l
      induction l with
      | nil => intro xs _; rfl
      | cons p l ih =>
        intro xs hp
        obtain ⟨i, x⟩ := p
        have hx : opv s₁ x = opv f x := by
          cases x <;> first | rfl | exact hs _ (by
            simp only [Op.operands, List.mem_toArray, List.mem_map]
            exact ⟨_, hp _ (List.mem_cons_self ..), rfl⟩)
        simp only [buildD, hx]
        split
        . split
          . exact ih _ fun q hq => hp q (List.mem_cons_of_mem _ hq)
          . rfl
        . rfl
    exact key _ _ fun _ h => h
  have hok := tget_ok cx.tab ht
  obtain ⟨d, i, hd, hi, e1, e2, _, _, _, _, _, _, z, hz, hza⟩ := tr_facts hok
  have hfs : ∃ fs : Array Field, d = .struct fs /\ fieldsAre cx.P fs.toList tr.fields = true := by
    simp only [trOk, Bool.and_eq_true] at hok
    replace hok := hok.1
    unfold trOk0 at hok
    rw [hd, hi] at hok
    simp only [Bool.and_eq_true] at hok
    have h5 := hok.1.1.2
    cases d with
    | struct fs => exact ⟨fs, rfl, h5⟩
    | _ => simp only [hfi] at h5; cases h5
  obtain ⟨fs, rfl, hfa⟩ := hfs
  obtain ⟨z1, z2⟩ := zeroAre_rep (ok := okf cx σ h) (w := w) hza
  have zs : z.cells.size = tr.zero.length := by simpa using z1
  obtain ⟨out, o1, o2⟩ := fill_fields (rep_eval hr) parts.toList z.cells tr.zero ys zs z2.1 (fun j v x hv hx => z2.2 j v x (by simpa using hv) hx) hb'
  have e : (parts.map fun (i, x) => (i, a.eval x)).toList = parts.toList.map fun (q : Nat × Operand) => (q.1, a.eval q.2) := by simp
  have hbt : cx.P.built T (parts.map fun (i, x) => (i, a.eval x)).toList = some out := by
    rw [e]
    simp only [Program.built, hi, hd, hz, fields_places hfa]
    exact o1
  unfold Oper.wp
  rw [show (execOp a.eval ⟨dst, .build T parts, ty, pos, af, gd⟩).run cx.P w = .ok (.value (.agg out)) w from by
    simp only [execOp, Sem.run_bind, run_build w T _ out hbt, Result.andThen_ok, Sem.run_pure]]
  exact hK _ _ (Below.refl _ _) o2
def ptrD (cells : List SV) : Option D := match takeD cells cells.length with
  | some [x] => some (.ptr x)
  | some xs => some (.ptr (.agg xs))
  | none => none
theorem ptrD_rep {σ : Nat -> Loc} {ok ok' : Nat -> Prop} {w : World} {l : Loc} {cells : List SV} {x : D} (hc : RepChunk σ h ok w l (.box cells)) (hx : ptrD cells = some x) (hk : ∀ b, ok b -> ok' b) (hb : ok' l.b) : RepD ok' w (.pointer (some ⟨l.b, 0, none⟩)) x := by
  obtain ⟨_, cs, t', c1, c2, c3⟩ := hc
  have key : ∀ xs, takeD cells cells.length = some xs -> cs.size = xs.length /\ (∀ x ∈ xs, x.one = true) /\ ∀ (i : Nat) v x, cs[i]? = some v -> xs[i]? = some x -> RepD ok' w v x := fun xs hxs => by
    obtain ⟨h1, h2⟩ := takeD_get hxs
    have hd : ∀ (i : Nat) v x, cs[i]? = some v -> xs[i]? = some x -> RepD ok w v x /\ v.oneCell' = true := fun i v x hv hx => c3 i v _ hv (h2 i x hx)
    refine ⟨by omega, fun x hx => ?_, fun i v x hv hx => (hd i v x hv hx).1.mono fun b h _ => ⟨hk b h, rfl⟩⟩
    obtain ⟨j, hj⟩ := List.getElem?_of_mem hx
    have hjl : j < xs.length := by
      rcases Nat.lt_or_ge j xs.length with hh | hh
      . exact hh
      . simp [hh] at hj
    obtain ⟨g1, g2⟩ := hd j _ x (Array.getElem?_eq_getElem (show j < cs.size by omega)) hj
    generalize cs[j]'(show j < cs.size by omega) = u at g1 g2
    cases x <;> first | rfl | (cases g1 <;> simp [Value.oneCell'] at g2)
  unfold ptrD at hx
  split at hx
  . rename_i y hy
    simp only [Option.some.injEq] at hx
    subst hx
    obtain ⟨k1, k2, k3⟩ := key _ hy
    have h0 : 0 < cs.size := by rw [k1]; simp
    have hcs : cs[0]? = some cs[0] := Array.getElem?_eq_getElem h0
    have hr := k3 0 _ y hcs rfl
    have hone := hr.oneCell (k2 y (by simp))
    refine RepD.ptr l.b 0 cs[0] y cs t' (0, 0) hb c1 (fun j hj => ?_) hr
    rw [hone] at hj ⊢
    have : j = 0 := by simpa using hj
    subst this
    simp [hcs]
  . rename_i xs hxs hy
    simp only [Option.some.injEq] at hx
    subst hx
    obtain ⟨k1, k2, k3⟩ := key _ hy
    exact RepD.ptr l.b 0 (.agg cs) _ cs t' (0, 0) hb c1 (fun j hj => by simp [Value.cells]) (.agg _ _ k1 k2 k3)
  . cases hx
def slotE (h : Heap) (v : SV) : Option D := match v with
  | .ref id 0 => match h.get id with
    | some (.box cells) => ptrD cells
    | _ => none
  | v => slotD h v
theorem slotE_rep {σ : Nat -> Loc} {f : Nat -> SV} {a : Act} {w : World} (hr : RW cx σ f h a w) {v : Value} {sv : SV} {x : D} (hv : RepSV σ h (okf cx σ h) w v sv) (hs : slotE h sv = some x) : RepD (fun b => b < w.heap.size) w v x := by
  unfold slotE at hs
  split at hs
  . rename_i id
    split at hs
    . rename_i cells hg
      have hv' : v = .pointer (some ⟨(σ id).b, 0, none⟩) := hv
      subst hv'
      obtain ⟨p, hp, rfl, hp2⟩ := get_mem hg
      have hc := hr.heap.rep p hp
      rw [hp2] at hc
      exact (ptrD_rep (ok' := fun b => okf cx σ h b \/ b = (σ p.1).b) hc hs (fun b hb => .inl hb) (.inr rfl)).mono fun b _ h2 => ⟨h2, rfl⟩
    . cases hs
  . exact slotB_rep hr hv hs
def allE (h : Heap) : List SV -> Option (List D)
  | [] => some []
  | v :: l => match slotE h v with
    | some x => match allE h l with
      | some xs => some (x :: xs)
      | none => none
    | none => none
theorem qa_lendE {f : Operand} {args : Array Operand} {tys : Array TypeId} {g : Nat} {cap xs : List D} {r : D} {fs : Nat -> SV} (hf : opv fs f = .d (.fn g cap)) (ha : allE h (args.toList.map (opv fs)) = some xs) (hac : AC cx.P g (xs ++ cap) r) (hr0 : r.scal2 = true) :
    Qt cx h ⟨dst, .call { callee := .value f, args := args, argTypes := tys }, ty, pos, af, gd⟩ fs (.d r) := by
  intro s₁ hs σ a w hr K Q hK
  have agree : ∀ x ∈ (Op.call { callee := .value f, args := args, argTypes := tys }).operands, opv s₁ x = opv fs x := fun x hx => by cases x <;> first | rfl | exact hs _ hx
  have hfr := rep_eval hr f
  rw [agree f (by simp [Op.operands, Call.operands]), hf] at hfr
  have hfr' : RepD (okf cx σ h) w (a.eval f) (.fn g cap) := hfr
  generalize hu : a.eval f = u at hfr'
  cases hfr' with
  | fn _ vs _ hc1 hc2 =>
    have key : ∀ (l : List Operand) (xs : List D), (∀ x ∈ l, x ∈ args.toList) -> allE h (l.map (opv fs)) = some xs -> l.length = xs.length /\ ∀ (i : Nat) o x, l[i]? = some o -> xs[i]? = some x -> RepD (fun b => b < w.heap.size) w (a.eval o) x := by
      intro l
      induction l with
      | nil => intro xs _ hh; simp only [List.map_nil, allE, Option.some.injEq] at hh; subst hh; exact ⟨rfl, by simp⟩
      | cons o l ih =>
        intro xs hl hh
        simp only [List.map_cons, allE] at hh
        split at hh
        . rename_i x hx
          split at hh
          . rename_i ys hy
            simp only [Option.some.injEq] at hh
            subst hh
            obtain ⟨h1, h2⟩ := ih ys (fun q hq => hl q (List.mem_cons_of_mem _ hq)) hy
            refine ⟨by simp [h1], fun i o' x' ho hx' => ?_⟩
            cases i with
            | zero =>
              simp only [List.getElem?_cons_zero, Option.some.injEq] at ho hx'
              subst ho hx'
              have := rep_eval hr o
              rw [agree o (by
                simp [Op.operands, Call.operands]
                exact .inr (by simpa using hl o (List.mem_cons_self ..)))] at this
              exact slotE_rep hr this hx
            | succ i => exact h2 i o' x' (by simpa using ho) (by simpa using hx')
          . cases hh
        . cases hh
    obtain ⟨k1, k2⟩ := key args.toList xs (fun _ h => h) ha
    unfold Oper.wp
    rw [exec_call rfl hu hac.1]
    rw [Oper.upon_enter]
    refine (hac.2 w (fun b => b < w.heap.size) _ hr.evo.env (fun b hb => hb) ?_).mono ?_
    . refine ⟨by simp at k1 ⊢; omega, fun i v x hv hx => ?_⟩
      simp only [Array.empty_append] at hv
      rw [Array.getElem?_append] at hv
      rw [List.getElem?_append] at hx
      simp only [Array.size_map] at hv
      simp only [Array.length_toList] at k1
      split at hv
      . rename_i hlt
        rw [if_pos (by omega)] at hx
        rw [Array.getElem?_map, Option.map_eq_some_iff] at hv
        obtain ⟨o, ho, rfl⟩ := hv
        exact k2 i o x (by simpa using ho) hx
      . rename_i hlt
        rw [if_neg (by omega)] at hx
        rw [k1] at hv
        exact (hc2 _ v x hv hx).mono fun b _ h2 => ⟨h2, rfl⟩
    . rintro e w' ⟨v, rfl, hv, hb⟩
      exact hK v w' hb (hv.scal2 hr0)
mutual
def SV.frzB (id : Nat) (x : D) : SV -> SV
  | .ref i n => match Nat.beq i id with
    | true => match n with
      | 0 => .d x
      | _ => .junk
    | false => .ref i n
  | .own i => match Nat.beq i id with
    | true => .junk
    | false => .own i
  | .sub i n => match Nat.beq i id with
    | true => .junk
    | false => .sub i n
  | .elt i n => match Nat.beq i id with
    | true => .junk
    | false => .elt i n
  | .cel i r n => match Nat.beq i id with
    | true => .junk
    | false => .cel i r n
  | .agg l => .agg (SV.frzBL id x l)
  | .tup l => .tup (SV.frzBL id x l)
  | .fn f l => .fn f (SV.frzBL id x l)
  | .junk => .junk
  | .und => .und
  | .d y => .d y
def SV.frzBL (id : Nat) (x : D) : List SV -> List SV
  | [] => []
  | y :: l => SV.frzB id x y :: SV.frzBL id x l
end
mutual
theorem RepSV.frzB {σ : Nat -> Loc} {h h' : Heap} {ok ok' : Nat -> Prop} {w : World} {id : Nat} {x : D} (hx : RepD ok' w (.pointer (some ⟨(σ id).b, 0, none⟩)) x) (hk : ∀ b, ok b -> b < w.heap.size -> ok' b /\ w.heap[b]? = w.heap[b]?)
    (hg' : ∀ j, memB j [id] = false -> simO (h.get j) (h'.get j)) : ∀ {y : SV} {v : Value}, RepSV σ h ok w v y -> RepSV σ h' ok' w v (y.frzB id x)
  | .junk, _, _ => by unfold SV.frzB RepSV; trivial
  | .und, _, hr => hr
  | .d y, _, hr => RepD.mono hr hk
  | .ref i n, v, hr => by
    unfold SV.frzB
    split
    . rename_i e
      have e := Nat.eq_of_beq_eq_true e
      subst e
      split
      . simp only [RepSV] at hr ⊢
        rw [hr]; exact hx
      . unfold RepSV; trivial
    . exact hr
  | .cel i r n, v, hr => by
    unfold SV.frzB
    split
    . unfold RepSV; trivial
    . simp only [RepSV] at hr ⊢; exact hr
  | .elt i n, v, hr => by
    unfold SV.frzB
    split
    . unfold RepSV; trivial
    . rename_i e
      have := RepSV.kill (K := [id]) (σ' := σ) hk (fun _ _ => rfl) hg' hr
      unfold SV.kill at this
      rw [memB_oneF.2 (Nat.ne_of_beq_eq_false e)] at this
      exact this
  | .own i, v, hr => by
    unfold SV.frzB
    split
    . unfold RepSV; trivial
    . rename_i e
      have := RepSV.kill (K := [id]) (σ' := σ) hk (fun _ _ => rfl) hg' hr
      unfold SV.kill at this
      rw [memB_oneF.2 (Nat.ne_of_beq_eq_false e)] at this
      exact this
  | .sub i n, v, hr => by
    unfold SV.frzB
    split
    . unfold RepSV; trivial
    . rename_i e
      have := RepSV.kill (K := [id]) (σ' := σ) hk (fun _ _ => rfl) hg' hr
      unfold SV.kill at this
      rw [memB_oneF.2 (Nat.ne_of_beq_eq_false e)] at this
      exact this
  | .agg l, v, hr => by
    unfold SV.frzB
    simp only [RepSV] at hr ⊢
    obtain ⟨cs, e, hl⟩ := hr
    exact ⟨cs, e, RepSVs.frzB hx hk hg' hl⟩
  | .tup l, v, hr => by
    unfold SV.frzB
    simp only [RepSV] at hr ⊢
    obtain ⟨cs, e, hl⟩ := hr
    exact ⟨cs, e, RepSVs.frzB hx hk hg' hl⟩
  | .fn f l, v, hr => by
    unfold SV.frzB
    simp only [RepSV] at hr ⊢
    obtain ⟨cs, e, hl⟩ := hr
    exact ⟨cs, e, RepSVs.frzB hx hk hg' hl⟩
theorem RepSVs.frzB {σ : Nat -> Loc} {h h' : Heap} {ok ok' : Nat -> Prop} {w : World} {id : Nat} {x : D} (hx : RepD ok' w (.pointer (some ⟨(σ id).b, 0, none⟩)) x) (hk : ∀ b, ok b -> b < w.heap.size -> ok' b /\ w.heap[b]? = w.heap[b]?)
    (hg' : ∀ j, memB j [id] = false -> simO (h.get j) (h'.get j)) : ∀ {l : List SV} {one : Bool} {vs : List Value}, RepSVs σ h ok w one vs l -> RepSVs σ h' ok' w one vs (SV.frzBL id x l)
  | [], _, _, hr => by unfold SV.frzBL; exact hr
  | y :: l, _, _, hr => by
    unfold SV.frzBL
    simp only [RepSVs] at hr ⊢
    obtain ⟨v, vs', e, h1, h2, h3⟩ := hr
    exact ⟨v, vs', e, RepSV.frzB hx hk hg' h1, h2, RepSVs.frzB hx hk hg' h3⟩
end
def frzBS (id : Nat) (x : D) (s : Slots) : Slots := mapS (SV.frzB id x) s
def frzBH (id : Nat) (x : D) (h : Heap) : Heap := keepH (SV.frzB id x) [id] h
theorem R_freezeB {a : Act} {w : World} {id : Nat} {cells : List SV} {x : D} (hr : R cx (lk s) h a w) (hnw : cx.nw = cx.w0.heap.size) (hid : Nat.blt id 10000 = true) (hg : h.get id = some (.box cells)) (hd : ptrD cells = some x) : R cx (lk (frzBS id x s)) (frzBH id x h) a w := by
  obtain ⟨σ, hr⟩ := hr
  obtain ⟨p0, hp0, rfl, hp2⟩ := get_mem hg
  have hid' : p0.1 < 10000 := Nat.le_of_ble_eq_true hid
  have hb : okf cx σ (keepH (SV.frzB p0.1 x) [p0.1] h) (σ p0.1).b := by
    have hb : (σ p0.1).b ∈ blk (σ p0.1) p0.2 := by rw [hp2]; simp [blk]
    refine ⟨.inr (by rw [hnw]; exact (hr.heap.mine p0 hp0 _ hb).2.1 hid'), fun p hp hbb => ?_⟩
    obtain ⟨h1, c', h2, h3⟩ := mem_keepH hp
    rw [h3, blk_mapc] at hbb
    exact memB_oneF.1 h1 (hr.heap.inj (p.1, c') h2 p0 hp0 _ hbb hb)
  have hk1 : ∀ b, okf cx σ h b -> okf cx σ (keepH (SV.frzB p0.1 x) [p0.1] h) b := fun b hb => ⟨hb.1, fun p hp => by
    obtain ⟨h1, c', h2, h3⟩ := mem_keepH hp
    rw [h3, blk_mapc]
    exact hb.2 _ h2⟩
  have hc := hr.heap.rep p0 hp0
  rw [hp2] at hc
  have := hr.upd (σ' := σ) (w' := w) [p0.1] [] (SV.frzB p0.1 x) (by simp) (by simp) (fun _ _ => rfl) rfl rfl rfl (Nat.le_refl _) (fun _ _ _ => rfl) (by simp) (by simp) (by simp) (by simp)
    (fun hok v sv hv => RepSV.frzB (ptrD_rep hc hd hk1 hb) (fun b h1 _ => ⟨hk1 b h1, rfl⟩) (simO_keep (N := []) (by simp)) hv) (by simp)
  refine ⟨σ, ?_⟩
  have e : lk (frzBS p0.1 x s) = fun t => SV.frzB p0.1 x (lk s t) := funext fun t => lk_mapS rfl s t
  rw [e]
  exact this
theorem awp_freezeB {cd : Code} (id : Nat) {cells : List SV} {x : D} (hg : h.get id = some (.box cells)) (hid : Nat.blt id 10000 = true) (hd : ptrD cells = some x) (hn : awp cx cd (frzBS id x s) (frzBH id x h) Q) (hnw : cx.nw = cx.w0.heap.size := by exact rfl) : awp cx cd s h Q := fun a w hr => hn a w (R_freezeB hr hnw hid hg hd)
def tailN (l : List Oper) : Nat := l.findIdx fun o => match o.op with
  | .store .. => true
  | .call c => match c.callee with
    | .builtin .append => true
    | _ => false
  | _ => false
def lastSt (l : List Oper) : Bool := Nat.blt (tailN l) l.length
theorem awp_drawT {id : Nat} {l : List Oper} (hl : lastSt l = true) (hm : cx.P.follows .mixedOrders = true) (hB : Region.lexTailB .any l.toArray (tailN l) = true) (hdst : (l.all fun o => dstOk cx.nt o.dst) = true)
    (hq : awpQL cx l.toArray h (fun s' => awpL cx l.toArray (l.drop (tailN l)) s' h Q) (l.take (tailN l)) s) : awp cx (.region id l.toArray true) s h Q := awp_draw_tail _ hm hB hdst hq
end
end Go.Proofs.YtckpadnjldebaaaGreat
namespace Go.Proofs.YtckpadnjldebaaaGreat
open Go
open Go.RowKit (Below)
set_option linter.unusedVariables false
set_option linter.unusedSimpArgs false
def look (R : List (Nat × Nat)) (i : Nat) : Option Nat :=
  match R with
  | [] => none
  | p :: R => match Nat.beq i p.1 with
    | true => some p.2
    | false => look R i
theorem look_mem {R : List (Nat × Nat)} {i j : Nat} (h : look R i = some j) : (i, j) ∈ R := by
  induction R with
  | nil => cases h
  | cons p R ih =>
    simp only [look] at h
    split at h
    . rename_i e
      have := Nat.eq_of_beq_eq_true e
      cases h
      subst this
      exact List.mem_cons_self ..
    . exact List.mem_cons_of_mem _ (ih h)
theorem look_of_mem {R : List (Nat × Nat)} (hn : (R.map (·.1)).Nodup) {p : Nat × Nat} (h : p ∈ R) : look R p.1 = some p.2 := by
  induction R with
  | nil => cases h
  | cons q R ih =>
    simp only [List.map_cons, List.nodup_cons] at hn
    simp only [look]
    rcases List.mem_cons.1 h with rfl | h
    . simp
    . split
      . rename_i e
        exact absurd (List.mem_map.2 ⟨p, h, Nat.eq_of_beq_eq_true e⟩) hn.1
      . exact ih hn.2 h
mutual
def SV.ren (R : List (Nat × Nat)) : SV -> SV
  | .ref i o => match look R i with
    | some j => .ref j o
    | none => .junk
  | .own i => match look R i with
    | some j => .own j
    | none => .junk
  | .elt i o => match look R i with
    | some j => .elt j o
    | none => .junk
  | .sub i o => match look R i with
    | some j => .sub j o
    | none => .junk
  | .cel _ _ _ => .junk
  | .agg l => .agg (SV.rens R l)
  | .tup l => .tup (SV.rens R l)
  | .fn f l => .fn f (SV.rens R l)
  | .junk => .junk
  | .und => .und
  | .d x => .d x
def SV.rens (R : List (Nat × Nat)) : List SV -> List SV
  | [] => []
  | x :: l => SV.ren R x :: SV.rens R l
end
mutual
theorem RepSV.ren {σ σ' : Nat -> Loc} {h h' : Heap} {ok ok' : Nat -> Prop} {w : World} {R : List (Nat × Nat)} (hk : ∀ b, ok b -> b < w.heap.size -> ok' b)
    (hR : ∀ i j, look R i = some j -> σ' j = σ i /\ ∃ c c', h.get i = some c /\ h'.get j = some c' /\ c.sim c') : ∀ {x : SV} {v : Value}, RepSV σ h ok w v x -> RepSV σ' h' ok' w v (x.ren R)
  | .junk, _, _ => by unfold SV.ren RepSV; trivial
  | .und, _, hr => hr
  | .d x, _, hr => RepD.mono hr fun b h1 h2 => ⟨hk b h1 h2, rfl⟩
  | .ref i o, v, hr => by
    unfold SV.ren
    split
    . rename_i j e
      obtain ⟨h1, _⟩ := hR i j e
      simp only [RepSV, h1] at hr ⊢
      exact hr
    . unfold RepSV; trivial
  | .own i, v, hr => by
    unfold SV.ren
    split
    . rename_i j e
      obtain ⟨h1, c, c', h2, h3, hs⟩ := hR i j e
      simp only [RepSV, h1, h2, h3] at hr ⊢
      cases c <;> cases c' <;> simp only [Chunk.sim] at hr hs ⊢
      . rw [<- hs.2]; exact hr
      . rw [<- (len_sim hs).1]; exact hr
      . exact hr
    . unfold RepSV; trivial
  | .elt i o, v, hr => by
    unfold SV.ren
    split
    . rename_i j e
      obtain ⟨h1, c, c', h2, h3, hs⟩ := hR i j e
      simp only [RepSV, h1, h2, h3] at hr ⊢
      cases c <;> cases c' <;> simp only [Chunk.sim] at hr hs ⊢
      . rw [<- hs.1]; exact hr
      . exact hr
    . unfold RepSV; trivial
  | .cel i r o, v, hr => by
    unfold SV.ren RepSV; trivial
  | .sub i o, v, hr => by
    unfold SV.ren
    split
    . rename_i j e
      obtain ⟨h1, c, c', h2, h3, hs⟩ := hR i j e
      simp only [RepSV, h1, h2, h3] at hr ⊢
      cases c <;> cases c' <;> simp only [Chunk.sim] at hr hs ⊢
      . rw [<- hs.1, <- hs.2]; exact hr
      obtain ⟨q, xs, h4, h5, h6⟩ := hr
      obtain ⟨ys, h7, h8⟩ := (len_sim hs).2 _ _ h5
      exact ⟨q, ys, h4, h7, by rw [h8]; exact h6⟩
    . unfold RepSV; trivial
  | .agg l, v, hr => by
    unfold SV.ren
    simp only [RepSV] at hr ⊢
    obtain ⟨cs, e, hl⟩ := hr
    exact ⟨cs, e, RepSVs.ren hk hR hl⟩
  | .tup l, v, hr => by
    unfold SV.ren
    simp only [RepSV] at hr ⊢
    obtain ⟨cs, e, hl⟩ := hr
    exact ⟨cs, e, RepSVs.ren hk hR hl⟩
  | .fn f l, v, hr => by
    unfold SV.ren
    simp only [RepSV] at hr ⊢
    obtain ⟨cs, e, hl⟩ := hr
    exact ⟨cs, e, RepSVs.ren hk hR hl⟩
theorem RepSVs.ren {σ σ' : Nat -> Loc} {h h' : Heap} {ok ok' : Nat -> Prop} {w : World} {R : List (Nat × Nat)} (hk : ∀ b, ok b -> b < w.heap.size -> ok' b)
    (hR : ∀ i j, look R i = some j -> σ' j = σ i /\ ∃ c c', h.get i = some c /\ h'.get j = some c' /\ c.sim c') : ∀ {l : List SV} {one : Bool} {vs : List Value}, RepSVs σ h ok w one vs l -> RepSVs σ' h' ok' w one vs (SV.rens R l)
  | [], _, _, hr => by unfold SV.rens; exact hr
  | x :: l, _, _, hr => by
    unfold SV.rens
    simp only [RepSVs] at hr ⊢
    obtain ⟨v, vs', e, h1, h2, h3⟩ := hr
    exact ⟨v, vs', e, RepSV.ren hk hR h1, h2, RepSVs.ren hk hR h3⟩
end
def pickG (R0 : List (Nat × Nat)) (H : Heap) : List (Nat × Nat) -> Option Heap
  | [] => some []
  | p :: R => match H.get p.1 with
    | some c => match pickG R0 H R with
      | some h => some ((p.2, c.mapc (SV.ren R0)) :: h)
      | none => none
    | none => none
def pickH (R : List (Nat × Nat)) (H : Heap) : Option Heap := pickG R H R
theorem pickG_spec {R0 : List (Nat × Nat)} {H : Heap} : ∀ {R : List (Nat × Nat)} {h : Heap}, pickG R0 H R = some h -> h.map (·.1) = R.map (·.2) /\ (∀ p ∈ R, ∃ c, H.get p.1 = some c /\ (p.2, c.mapc (SV.ren R0)) ∈ h) /\
    ∀ q ∈ h, ∃ p ∈ R, ∃ c, p.2 = q.1 /\ H.get p.1 = some c /\ q.2 = c.mapc (SV.ren R0)
  | [], h, e => by
    simp only [pickG, Option.some.injEq] at e
    subst e
    simp
  | p :: R, h, e => by
    simp only [pickG] at e
    split at e
    . rename_i c hc
      split at e
      . rename_i h1 hp
        simp only [Option.some.injEq] at e
        subst e
        obtain ⟨k1, k2, k3⟩ := pickG_spec hp
        refine ⟨by simp [k1], fun q hq => ?_, fun q hq => ?_⟩
        . rcases List.mem_cons.1 hq with rfl | hq
          . exact ⟨c, hc, List.mem_cons_self ..⟩
          . obtain ⟨c', h2, h3⟩ := k2 q hq
            exact ⟨c', h2, List.mem_cons_of_mem _ h3⟩
        . rcases List.mem_cons.1 hq with rfl | hq
          . exact ⟨p, List.mem_cons_self .., c, rfl, hc, rfl⟩
          . obtain ⟨p', h2, c', h3⟩ := k3 q hq
            exact ⟨p', List.mem_cons_of_mem _ h2, c', h3⟩
      . cases e
    . cases e
def nodupB : List Nat -> Bool
  | [] => true
  | i :: l => !(memB i l) && nodupB l
theorem nodupB_iff : ∀ {l : List Nat}, nodupB l = true -> l.Nodup
  | [], _ => List.nodup_nil
  | i :: l, h => by
    simp only [nodupB, Bool.and_eq_true, Bool.not_eq_true'] at h
    refine List.nodup_cons.2 ⟨fun hm => ?_, nodupB_iff h.2⟩
    rw [memB_iff.2 hm] at h
    cases h.1
def okn (ok : Nat -> Prop) (w : World) (σ : Nat -> Loc) (h : Heap) (b : Nat) : Prop := (ok b \/ w.heap.size <= b) /\ ∀ p ∈ h, b ∉ blk (σ p.1) p.2
structure Own (σ : Nat -> Loc) (h : Heap) (ok : Nat -> Prop) (w : World) : Prop where
  nodup : (h.map (·.1)).Nodup
  nd : ∀ p ∈ h, (blk (σ p.1) p.2).Nodup
  inj : ∀ p ∈ h, ∀ q ∈ h, ∀ b, b ∈ blk (σ p.1) p.2 -> b ∈ blk (σ q.1) q.2 -> p.1 = q.1
  mine : ∀ p ∈ h, ∀ b, b ∈ blk (σ p.1) p.2 -> b < w.heap.size /\ ¬ ok b
  rep : ∀ p ∈ h, RepChunk σ h ok w (σ p.1) p.2
structure HEnd (σ : Nat -> Loc) (h : Heap) (ok : Nat -> Prop) (w : World) (σ' : Nat -> Loc) (h' : Heap) (w' : World) : Prop where
  os : w'.os = w.os
  tape : w'.tape = w.tape
  output : w'.output = w.output
  size : w.heap.size <= w'.heap.size
  frame : ∀ b, b < w.heap.size -> (∀ p ∈ h, b ∉ blk (σ p.1) p.2) -> w'.heap[b]? = w.heap[b]?
  nodup : (h'.map (·.1)).Nodup
  nd : ∀ p ∈ h', (blk (σ' p.1) p.2).Nodup
  inj : ∀ p ∈ h', ∀ q ∈ h', ∀ b, b ∈ blk (σ' p.1) p.2 -> b ∈ blk (σ' q.1) q.2 -> p.1 = q.1
  mine : ∀ p ∈ h', ∀ b, b ∈ blk (σ' p.1) p.2 -> b < w'.heap.size /\ (w.heap.size <= b \/ (p.1 < 30000 /\ ∃ c, h.get p.1 = some c /\ b ∈ blk (σ p.1) c))
  rep : ∀ p ∈ h', RepChunk σ' h' (okn ok w σ' h') w' (σ' p.1) p.2
  anc : ∀ p ∈ h', isAnc p.1 = true -> σ' p.1 = σ p.1
def EnvH (P : Program) (σ : Nat -> Loc) (h : Heap) (w : World) : Prop := EnvAt P w /\ ∀ p ∈ h, ∀ b, b ∈ blk (σ p.1) p.2 -> ¬ envBlk P b
def likeIn (h h' : Heap) : Prop := ∀ p ∈ h, isAnc p.1 = true -> ∃ c', h'.get p.1 = some c' /\ p.2.like c'
def HC (P : Program) (f : Nat) (ss : List SV) (h : Heap) (r : SV) (h' : Heap) : Prop :=
  Callable P f /\ likeIn h h' /\ ∀ (w : World) (ok : Nat -> Prop) (σ : Nat -> Loc) (vs : Array Value), EnvH P σ h w -> (∀ b, ok b -> b < w.heap.size) -> Own σ h ok w -> RepSVs σ h ok w false vs.toList ss ->
    Calls P f vs w fun e w' => ∃ v σ', e = .returned v /\ HEnd σ h ok w σ' h' w' /\ RepSV σ' h' (okn ok w σ' h') w' v r
theorem RepSVs.append {σ : Nat -> Loc} {h : Heap} {ok : Nat -> Prop} {w : World} : ∀ {l l' : List SV} {one : Bool} {vs vs' : List Value}, RepSVs σ h ok w one vs l -> RepSVs σ h ok w one vs' l' -> RepSVs σ h ok w one (vs ++ vs') (l ++ l')
  | [], l', one, vs, vs', h1, h2 => by
    simp only [RepSVs] at h1
    subst h1
    exact h2
  | x :: l, l', one, vs, vs', h1, h2 => by
    simp only [RepSVs] at h1
    obtain ⟨v, us, rfl, k1, k2, k3⟩ := h1
    show RepSVs σ h ok w one (v :: (us ++ vs')) (x :: (l ++ l'))
    unfold RepSVs
    exact ⟨v, us ++ vs', rfl, k1, k2, RepSVs.append k3 h2⟩
theorem RepSVs.ofD {σ : Nat -> Loc} {h : Heap} {ok : Nat -> Prop} {w : World} {vs : List Value} {xs : List D} (hl : vs.length = xs.length) (hh : ∀ (i : Nat) v x, vs[i]? = some v -> xs[i]? = some x -> RepD ok w v x) : RepSVs σ h ok w false vs (xs.map .d) :=
  RepSVs.mk (by simpa using hl) fun i v x hv hx => by
    rw [List.getElem?_map, Option.map_eq_some_iff] at hx
    obtain ⟨y, hy, rfl⟩ := hx
    exact ⟨hh i v y hv hy, by simp⟩
def fnv : SV -> Option (Nat × List SV)
  | .d (.fn g cap) => some (g, cap.map .d)
  | .fn g l => some (g, l)
  | _ => none
theorem fnv_rep {σ : Nat -> Loc} {h : Heap} {ok : Nat -> Prop} {w : World} {v : Value} {sv : SV} {g : Nat} {cap : List SV} (hv : RepSV σ h ok w v sv) (hf : fnv sv = some (g, cap)) : ∃ cs : Array Value, v = .func (.func g) #[] cs /\ RepSVs σ h ok w false cs.toList cap := by
  unfold fnv at hf
  split at hf
  . simp only [Option.some.injEq, Prod.mk.injEq] at hf
    obtain ⟨rfl, rfl⟩ := hf
    simp only [RepSV] at hv
    cases hv with
    | fn _ vs cap h1 h2 => exact ⟨vs, rfl, RepSVs.ofD (by simpa using h1) fun i v x hv hx => h2 i v x (by simpa using hv) hx⟩
  . simp only [Option.some.injEq, Prod.mk.injEq] at hf
    obtain ⟨rfl, rfl⟩ := hf
    simp only [RepSV] at hv
    exact hv
  . cases hf
def swap (R : List (Nat × Nat)) : List (Nat × Nat) := R.map fun p => (p.2, p.1)
theorem swap_fst {R : List (Nat × Nat)} : (swap R).map (·.1) = R.map (·.2) := by
  unfold swap
  rw [List.map_map]
  rfl
def renH (R : List (Nat × Nat)) : Heap -> Heap
  | [] => []
  | p :: h => match look R p.1 with
    | some k => (k, p.2.mapc (SV.ren R)) :: renH R h
    | none => renH R h
def movedIds (R1 R2 : List (Nat × Nat)) : List Nat := ((R1.filter fun p => !isAnc p.2).map (·.1)) ++ ((R2.filter fun p => Nat.ble 30000 p.1).map (·.2))
def allIds (R1 R2 : List (Nat × Nat)) : List Nat := R1.map (·.1) ++ R2.map (·.2)
def idsIn (R : List (Nat × Nat)) : Heap -> Bool
  | [] => true
  | p :: h => match look R p.1 with
    | some _ => idsIn R h
    | none => false
def callOk (R1 R2 : List (Nat × Nat)) (h' : Heap) : Bool :=
  nodupB (R1.map (·.1)) && nodupB (R1.map (·.2)) && nodupB (R2.map (·.1)) && nodupB (R2.map (·.2)) && (R1.all fun p => Nat.ble 10000 p.2 && Nat.blt p.2 30000 && (!isAnc p.1 || isAnc p.2)) &&
  (R2.all fun p => (Nat.blt p.1 30000 && (match look R1 p.2 with | some c => Nat.beq c p.1 | none => false)) || (Nat.ble 30000 p.1 && Nat.blt p.2 10000)) && idsIn R2 h' && (R2.all fun p => (h'.get p.1).isSome)
theorem idsIn_all {R : List (Nat × Nat)} : ∀ {h : Heap}, idsIn R h = true -> ∀ p ∈ h, ∃ k, look R p.1 = some k
  | [], _, p, hp => by cases hp
  | q :: h, hh, p, hp => by
    simp only [idsIn] at hh
    split at hh
    . rename_i k hk
      rcases List.mem_cons.1 hp with rfl | hp
      . exact ⟨k, hk⟩
      . exact idsIn_all hh p hp
    . cases hh
theorem mem_renH {R : List (Nat × Nat)} : ∀ {h : Heap} {q : Nat × Chunk}, q ∈ renH R h -> ∃ p ∈ h, look R p.1 = some q.1 /\ q.2 = p.2.mapc (SV.ren R)
  | [], q, hq => by cases hq
  | p :: h, q, hq => by
    simp only [renH] at hq
    split at hq
    . rename_i k hk
      rcases List.mem_cons.1 hq with rfl | hq
      . exact ⟨p, List.mem_cons_self .., hk, rfl⟩
      . obtain ⟨p', h1, h2⟩ := mem_renH hq
        exact ⟨p', List.mem_cons_of_mem _ h1, h2⟩
    . obtain ⟨p', h1, h2⟩ := mem_renH hq
      exact ⟨p', List.mem_cons_of_mem _ h1, h2⟩
theorem renH_nodup {R : List (Nat × Nat)} (hinj : ∀ i j k, look R i = some k -> look R j = some k -> i = j) : ∀ {h : Heap}, (h.map (·.1)).Nodup -> ((renH R h).map (·.1)).Nodup
  | [], _ => List.nodup_nil
  | p :: h, hn => by
    simp only [List.map_cons, List.nodup_cons] at hn
    simp only [renH]
    split
    . rename_i k hk
      simp only [List.map_cons, List.nodup_cons]
      refine ⟨fun hm => ?_, renH_nodup hinj hn.2⟩
      obtain ⟨q, hq, he⟩ := List.mem_map.1 hm
      obtain ⟨p', h1, h2, _⟩ := mem_renH hq
      rw [he] at h2
      exact hn.1 (List.mem_map.2 ⟨p', h1, (hinj _ _ _ h2 hk)⟩)
    . exact renH_nodup hinj hn.2
theorem get_append_some {N h : Heap} {j : Nat} {c : Chunk} (hj : N.get j = some c) : (N ++ h : Heap).get j = some c := by
  induction N with
  | nil => cases hj
  | cons p N ih =>
    simp only [List.cons_append, Heap.get] at hj ⊢
    split
    . rename_i e; rw [if_pos e] at hj; exact hj
    . rename_i e; rw [if_neg e] at hj; exact ih hj
theorem op_hcall {cx : Cx} {s : Slots} {H : Heap} {t ty : Nat} {pos : String} {af : Array Edge} {f : Operand} {args : Array Operand} {tys : Array TypeId} {g : Nat} {cap : List SV} {ss : List SV} {h : Heap} {r : SV} {h' : Heap} (R1 R2 : List (Nat × Nat))
    (hf : fnv (opv (lk s) f) = some (g, cap)) (ha : SV.rens R1 (args.toList.map (opv (lk s)) ++ cap) = ss) (hp : pickH R1 H = some h) (hc : HC cx.P g ss h r h') (hcall : callOk R1 R2 h' = true) (hd : Nat.blt t cx.nt = true) :
    OpTo cx ⟨some t, .call { callee := .value f, args := args, argTypes := tys }, ty, pos, af, none⟩ s H ((t, r.ren R2) :: mapS (SV.kill (movedIds R1 R2)) s) (renH R2 h' ++ keepH (SV.kill (movedIds R1 R2)) (allIds R1 R2) H) := by
  rintro a w ⟨σ, hr⟩ K Q hK
  obtain ⟨hcl, hlike, hspec⟩ := hc
  simp only [callOk, Bool.and_eq_true] at hcall
  obtain ⟨⟨⟨⟨⟨⟨⟨n1, n2⟩, n3⟩, n4⟩, n5⟩, n6⟩, n7⟩, n8⟩ := hcall
  replace n1 := nodupB_iff n1
  replace n2 := nodupB_iff n2
  replace n3 := nodupB_iff n3
  replace n4 := nodupB_iff n4
  obtain ⟨cs, hu, hcap⟩ := fnv_rep (rep_eval hr f) hf
  have hargs : RepSVs σ H (okf cx σ H) w false (args.map a.eval ++ cs).toList (args.toList.map (opv (lk s)) ++ cap) := by
    rw [Array.toList_append, map_toList_arr]
    refine RepSVs.append (RepSVs.mk (by simp) fun i v x hv hx => ⟨?_, by simp⟩) hcap
    rw [List.getElem?_map, Option.map_eq_some_iff] at hv hx
    obtain ⟨y, hy, rfl⟩ := hv
    obtain ⟨y', hy', rfl⟩ := hx
    have : y = y' := Option.some.inj (hy.symm.trans hy')
    subst this
    exact rep_eval hr y
  obtain ⟨p1, p2, p3⟩ := pickG_spec hp
  let σc : Nat -> Loc := fun j => match look (swap R1) j with
    | some i => σ i
    | none => ⟨0, 0, true, []⟩
  have hswap : ∀ p ∈ R1, look (swap R1) p.2 = some p.1 := fun p hp1 => look_of_mem (R := swap R1) (by rw [swap_fst]; exact n2) (p := (p.2, p.1)) (List.mem_map.2 ⟨p, hp1, rfl⟩)
  have hσc : ∀ p ∈ R1, σc p.2 = σ p.1 := fun p hp1 => by simp only [σc, hswap p hp1]
  have hnd : (h.map (·.1)).Nodup := by rw [p1]; exact n2
  let ok : Nat -> Prop := fun b => okf cx σ H b /\ b < w.heap.size
  have hR1 : ∀ i j, look R1 i = some j -> σc j = σ i /\ ∃ c c', H.get i = some c /\ h.get j = some c' /\ c.sim c' := fun i j hl => by
    have hm := look_mem hl
    obtain ⟨c, h1, h2⟩ := p2 _ hm
    exact ⟨hσc _ hm, c, _, h1, get_of_mem hnd h2, sim_mapc c⟩
  have toH : ∀ q ∈ h, ∃ p ∈ R1, ∃ c, p.2 = q.1 /\ H.get p.1 = some c /\ (p.1, c) ∈ H /\ q.2 = c.mapc (SV.ren R1) /\ blk (σc q.1) q.2 = blk (σ p.1) c := fun q hq => by
    obtain ⟨p, h1, c, h2, h3, h4⟩ := p3 q hq
    obtain ⟨p', m1, m2, m3⟩ := get_mem h3
    refine ⟨p, h1, c, h2, h3, ?_, h4, ?_⟩
    . have : p' = (p.1, c) := by rw [<- m2, <- m3]
      rw [<- this]; exact m1
    . rw [h4, blk_mapc, <- h2, hσc p h1]
  have henv : EnvH cx.P σc h w := ⟨hr.evo.env, fun q hq b hb => by
    obtain ⟨p, h1, c, h2, h3, h3', h4, h5⟩ := toH q hq
    rw [h5] at hb
    exact hr.heap.env _ h3' b hb⟩
  have hown : Own σc h ok w := by
    refine ⟨hnd, fun q hq => ?_, fun q hq q' hq' b hb hb' => ?_, fun q hq b hb => ?_, fun q hq => ?_⟩
    . obtain ⟨p, h1, c, h2, h3, h3', h4, h5⟩ := toH q hq
      rw [h5]; exact hr.heap.nd _ h3'
    . obtain ⟨p, h1, c, h2, h3, h3', h4, h5⟩ := toH q hq
      obtain ⟨p', h1', c', h2', h3'', h3''', h4', h5'⟩ := toH q' hq'
      rw [h5] at hb
      rw [h5'] at hb'
      have e := hr.heap.inj _ h3' _ h3''' b hb hb'
      simp only at e
      have e1 := look_of_mem n1 h1
      have e2 := look_of_mem n1 h1'
      rw [e, e2] at e1
      rw [<- h2, <- h2']
      exact (Option.some.inj e1).symm
    . obtain ⟨p, h1, c, h2, h3, h3', h4, h5⟩ := toH q hq
      rw [h5] at hb
      exact ⟨(hr.heap.mine _ h3' b hb).2.2, fun hok => hok.1.2 _ h3' hb⟩
    . obtain ⟨p, h1, c, h2, h3, h3', h4, h5⟩ := toH q hq
      rw [h4, <- h2, hσc p h1]
      exact RepChunk.mapc (hr.heap.rep _ h3') (fun b h1 h2 => ⟨⟨h1, h2⟩, rfl⟩) (fun v sv hv => RepSV.ren (fun b h1 h2 => ⟨h1, h2⟩) hR1 hv) fun _ _ => rfl
  have hargs' : RepSVs σc h ok w false (args.map a.eval ++ cs).toList ss := by
    rw [<- ha]
    exact RepSVs.ren (fun b h1 h2 => ⟨h1, h2⟩) hR1 hargs
  unfold Oper.wp
  rw [exec_call rfl hu hcl]
  rw [Oper.upon_enter]
  refine (hspec w ok σc _ henv (fun b hb => hb.2) hown (by simpa using hargs')).mono ?_
  rintro e w' ⟨v, σ', rfl, hE, hv⟩
  have hswap2 : ∀ p ∈ R2, look (swap R2) p.2 = some p.1 := fun p hp2 => look_of_mem (R := swap R2) (by rw [swap_fst]; exact n4) (p := (p.2, p.1)) (List.mem_map.2 ⟨p, hp2, rfl⟩)
  let σ2 : Nat -> Loc := fun j => match look (swap R2) j with
    | some c => σ' c
    | none => σ j
  have hσ2 : ∀ i k, look R2 i = some k -> σ2 k = σ' i := fun i k hl => by simp only [σ2, hswap2 _ (look_mem hl)]
  have hinj2 : ∀ i j k, look R2 i = some k -> look R2 j = some k -> i = j := fun i j k h1 h2 => by
    have e1 := hswap2 _ (look_mem h1)
    have e2 := hswap2 _ (look_mem h2)
    simp only at e1 e2
    rw [e1] at e2
    exact Option.some.inj e2
  have hkind : ∀ i k, look R2 i = some k -> (i < 30000 /\ look R1 k = some i) \/ (30000 <= i /\ k < 10000) := fun i k hl => by
    have := List.all_eq_true.1 n6 _ (look_mem hl)
    simp only [Bool.or_eq_true, Bool.and_eq_true] at this
    rcases this with ⟨h1, h2⟩ | ⟨h1, h2⟩
    . left
      refine ⟨Nat.le_of_ble_eq_true h1, ?_⟩
      split at h2
      . rename_i c hcc; rw [hcc, Nat.eq_of_beq_eq_true h2]
      . cases h2
    . exact .inr ⟨Nat.le_of_ble_eq_true h1, Nat.le_of_ble_eq_true h2⟩
  have fromN : ∀ q ∈ renH R2 h', ∃ p ∈ h', look R2 p.1 = some q.1 /\ q.2 = p.2.mapc (SV.ren R2) /\ blk (σ2 q.1) q.2 = blk (σ' p.1) p.2 := fun q hq => by
    obtain ⟨p, h1, h2, h3⟩ := mem_renH hq
    exact ⟨p, h1, h2, h3, by rw [h3, blk_mapc, hσ2 _ _ h2]⟩
  have memN : ∀ p ∈ h', ∀ k, look R2 p.1 = some k -> (k, p.2.mapc (SV.ren R2)) ∈ renH R2 h' := by
    have key : ∀ (l : Heap), ∀ p ∈ l, ∀ k, look R2 p.1 = some k -> (k, p.2.mapc (SV.ren R2)) ∈ renH R2 l := by
      intro l
      induction l with
      | nil => intro p hp; cases hp
      | cons q l ih =>
        intro p hp k hk
        simp only [renH]
        rcases List.mem_cons.1 hp with rfl | hp
        . rw [hk]; exact List.mem_cons_self ..
        . split
          . exact List.mem_cons_of_mem _ (ih p hp k hk)
          . exact ih p hp k hk
    exact key h'
  have hallK : ∀ i k, look R2 i = some k -> memB k (allIds R1 R2) = true := fun i k hl => memB_iff.2 (List.mem_append_right _ (List.mem_map.2 ⟨_, look_mem hl, rfl⟩))
  have hNn : ((renH R2 h').map (·.1)).Nodup := renH_nodup hinj2 hE.nodup
  have getN : ∀ p ∈ h', ∀ k, look R2 p.1 = some k -> (renH R2 h').get k = some (p.2.mapc (SV.ren R2)) := fun p hp k hk => get_of_mem hNn (memN p hp k hk)
  have hmvd : ∀ j, memB j (movedIds R1 R2) = false -> memB j (allIds R1 R2) = true -> ∃ c, isAnc c = true /\ look R1 j = some c /\ ∃ c1 c2, (c, c1) ∈ h /\ h'.get c = some c2 /\ c1.like c2 /\ look R2 c = some j := fun j h1 h2 => by
    have h1' : j ∉ movedIds R1 R2 := fun hm => by rw [memB_iff.2 hm] at h1; cases h1
    have main : ∀ c, look R1 j = some c -> ∃ c, isAnc c = true /\ look R1 j = some c /\ ∃ c1 c2, (c, c1) ∈ h /\ h'.get c = some c2 /\ c1.like c2 /\ look R2 c = some j := fun c hl => by
      have hm := look_mem hl
      have hanc : isAnc c = true := by
        cases hb : isAnc c with
        | true => rfl
        | false => exact absurd (List.mem_append_left _ (List.mem_map.2 ⟨(j, c), List.mem_filter.2 ⟨hm, by simp [hb]⟩, rfl⟩)) h1'
      obtain ⟨c0, g1, g2⟩ := p2 _ hm
      obtain ⟨c2, g3, g4⟩ := hlike _ g2 hanc
      obtain ⟨q, q1, q2, q3⟩ := get_mem g3
      obtain ⟨k, hk⟩ := idsIn_all n7 q q1
      simp only at q2
      rw [q2] at hk
      rcases hkind c k hk with ⟨_, g5⟩ | ⟨g5, _⟩
      . have e1 := look_mem g5
        have : k = j := by
          have e2 := hswap _ e1
          have e3 := hswap _ hm
          simp only at e2 e3
          rw [e2] at e3
          exact Option.some.inj e3
        subst this
        exact ⟨c, hanc, hl, _, c2, g2, g3, g4, hk⟩
      . have : c < 20000 := by
          unfold isAnc at hanc
          simp only [Bool.and_eq_true] at hanc
          exact Nat.le_of_ble_eq_true hanc.2
        omega
    rcases List.mem_append.1 (memB_iff.1 h2) with hm | hm
    . obtain ⟨p, hp1, rfl⟩ := List.mem_map.1 hm
      exact main _ (look_of_mem n1 hp1)
    . obtain ⟨p, hp1, rfl⟩ := List.mem_map.1 hm
      rcases hkind _ _ (look_of_mem n3 hp1) with ⟨_, g⟩ | ⟨g, _⟩
      . exact main _ g
      . exact absurd (List.mem_append_right _ (List.mem_map.2 ⟨p, List.mem_filter.2 ⟨hp1, Nat.ble_eq_true_of_le g⟩, rfl⟩)) h1'
  have hsim : ∀ j, memB j (movedIds R1 R2) = false -> σ2 j = σ j /\ simO (H.get j) ((renH R2 h' ++ keepH (SV.kill (movedIds R1 R2)) (allIds R1 R2) H : Heap).get j) := fun j hj => by
    cases hall : memB j (allIds R1 R2) with
    | true =>
      obtain ⟨c, hanc, g1, c1, c2, g2, g3, g4, g5⟩ := hmvd j hj hall
      obtain ⟨q, q1, q2, q3⟩ := get_mem g3
      have hm := look_mem g1
      refine ⟨?_, ?_⟩
      . rw [hσ2 c j g5]
        have := hE.anc q q1 (by rw [q2]; exact hanc)
        rw [q2] at this
        rw [this]
        exact hσc _ hm
      . rw [get_append_some (getN q q1 j (by rw [q2]; exact g5))]
        obtain ⟨c0, k1, k2⟩ := p2 _ hm
        rw [k1]
        simp only at k2
        have := get_of_mem hnd g2
        rw [get_of_mem hnd k2] at this
        simp only [Option.some.injEq] at this
        rw [q3]
        have s1 := like_sim g4
        rw [<- this] at s1
        revert s1
        cases c0 <;> cases c2 <;> simp [Chunk.sim, Chunk.mapc, simO]
    | false =>
      have hno : look (swap R2) j = none := by
        cases hl : look (swap R2) j with
        | none => rfl
        | some c =>
          have := look_mem hl
          obtain ⟨p, hp1, e⟩ := List.mem_map.1 this
          cases e
          have h5 : memB p.2 (allIds R1 R2) = true := memB_iff.2 (List.mem_append_right _ (List.mem_map.2 ⟨p, hp1, rfl⟩))
          rw [h5] at hall
          cases hall
      refine ⟨by simp only [σ2, hno], ?_⟩
      refine simO_keep (fun p hp => ?_) j hall
      obtain ⟨p', h1, h2, _⟩ := fromN p hp
      exact hallK _ _ h2
  have hσk : ∀ j, memB j (allIds R1 R2) = false -> σ2 j = σ j := fun j hj => by
    have hno : look (swap R2) j = none := by
      cases hl : look (swap R2) j with
      | none => rfl
      | some c =>
        obtain ⟨p, hp1, e⟩ := List.mem_map.1 (look_mem hl)
        cases e
        have h5 : memB p.2 (allIds R1 R2) = true := memB_iff.2 (List.mem_append_right _ (List.mem_map.2 ⟨p, hp1, rfl⟩))
        rw [h5] at hj
        cases hj
    simp only [σ2, hno]
  have hR2 : ∀ i k, look R2 i = some k -> σ2 k = σ' i /\ ∃ c c', h'.get i = some c /\ (renH R2 h' ++ keepH (SV.kill (movedIds R1 R2)) (allIds R1 R2) H : Heap).get k = some c' /\ c.sim c' := fun i k hl => by
    have := List.all_eq_true.1 n8 _ (look_mem hl)
    obtain ⟨c, hcg⟩ := Option.isSome_iff_exists.1 this
    obtain ⟨q, q1, q2, q3⟩ := get_mem hcg
    simp only at q2
    subst q2
    refine ⟨hσ2 _ _ hl, c, _, hcg, get_append_some (getN q q1 k hl), ?_⟩
    rw [<- q3]
    exact sim_mapc _
  have toOk : (∀ b, okf cx σ H b -> b < w.heap.size -> okf cx σ2 (renH R2 h' ++ keepH (SV.kill (movedIds R1 R2)) (allIds R1 R2) H) b) -> ∀ b, okn ok w σ' h' b -> okf cx σ2 (renH R2 h' ++ keepH (SV.kill (movedIds R1 R2)) (allIds R1 R2) H) b := fun hok b hb => by
    rcases hb.1 with hb1 | hb1
    . exact hok b hb1.1 hb1.2
    . refine ⟨.inr (Nat.le_trans hr.evo.size hb1), fun p hp hbb => ?_⟩
      rcases List.mem_append.1 hp with hp | hp
      . obtain ⟨p', h1, h2, h3, h4⟩ := fromN p hp
        rw [h4] at hbb
        exact hb.2 _ h1 hbb
      . obtain ⟨h1, c, h2, h3⟩ := mem_keepH hp
        rw [h3, blk_mapc, hσk _ h1] at hbb
        have := (hr.heap.mine _ h2 b hbb).2.2
        omega
  have hRW := hr.upd (σ' := σ2) (w' := w') (allIds R1 R2) (renH R2 h') (SV.kill (movedIds R1 R2))
    (fun p hp => by obtain ⟨p', h1, h2, _⟩ := fromN p hp; exact hallK _ _ h2) hNn
    hσk
    hE.os hE.tape hE.output hE.size
    (fun b hb hno => hE.frame b hb fun q hq hbb => by
      obtain ⟨p, h1, c, h2, h3, h3', h4, h5⟩ := toH q hq
      rw [h5] at hbb
      exact hno _ h3' (memB_iff.2 (List.mem_append_left _ (List.mem_map.2 ⟨p, h1, rfl⟩))) hbb)
    (fun p hp => by obtain ⟨p', h1, h2, h3, h4⟩ := fromN p hp; rw [h4]; exact hE.nd _ h1)
    (fun p hp q hq b hb hb' => by
      obtain ⟨p', h1, h2, h3, h4⟩ := fromN p hp
      obtain ⟨q', g1, g2, g3, g4⟩ := fromN q hq
      rw [h4] at hb
      rw [g4] at hb'
      have := hE.inj _ h1 _ g1 b hb hb'
      rw [this, g2] at h2
      exact (Option.some.inj h2).symm)
    (fun p hp b hb => by
      obtain ⟨p', h1, h2, h3, h4⟩ := fromN p hp
      rw [h4] at hb
      obtain ⟨m1, m2⟩ := hE.mine _ h1 b hb
      refine ⟨m1, m2.imp (fun h => h) ?_⟩
      rintro ⟨m3, c, m4, m5⟩
      rcases hkind _ _ h2 with ⟨_, g5⟩ | ⟨g5, _⟩
      . have hm := look_mem g5
        obtain ⟨c0, k1, k2⟩ := p2 _ hm
        have := get_of_mem hnd k2
        simp only at this
        rw [m4] at this
        simp only [Option.some.injEq] at this
        obtain ⟨q, q1, q2, q3⟩ := get_mem k1
        refine ⟨q, q1, memB_iff.2 (List.mem_append_left _ (List.mem_map.2 ⟨_, hm, q2.symm⟩)), ?_, .inr (.inl q2)⟩
        rw [this, blk_mapc, hσc _ hm] at m5
        rw [q2, q3]
        exact m5
      . omega)
    (fun p hp hanc => by
      obtain ⟨p', h1, h2, h3, h4⟩ := fromN p hp
      rcases hkind _ _ h2 with ⟨_, g5⟩ | ⟨_, g5⟩
      . have hm := look_mem g5
        obtain ⟨c0, k1, k2⟩ := p2 _ hm
        obtain ⟨q, q1, q2, q3⟩ := get_mem k1
        have ha1 := hr.heap.anc q q1 (by rw [q2]; exact hanc)
        rw [q2] at ha1
        rw [hσ2 _ _ h2, <- ha1]
        have hpc : isAnc p'.1 = true := by
          have := List.all_eq_true.1 n5 _ hm
          simp only [Bool.and_eq_true, Bool.or_eq_true, Bool.not_eq_true'] at this
          rcases this.2 with h6 | h6
          . rw [hanc] at h6; cases h6
          . exact h6
        rw [hE.anc _ h1 hpc]
        exact hσc _ hm
      . unfold isAnc at hanc
        simp only [Bool.and_eq_true] at hanc
        have := Nat.le_of_ble_eq_true hanc.1
        omega)
    (fun hok v sv hv => RepSV.kill hok (fun j hj => (hsim j hj).1) (fun j hj => (hsim j hj).2) hv)
    (fun hok p hp => by
      obtain ⟨p', h1, h2, h3, h4⟩ := fromN p hp
      rw [h3, hσ2 _ _ h2]
      exact RepChunk.mapc (hE.rep p' h1) (fun b k1 k2 => ⟨toOk (fun b k1 k2 => (hok b k1 k2).1) b k1, rfl⟩) (fun v sv hv => RepSV.ren (fun b k1 _ => toOk (fun b k1 k2 => (hok b k1 k2).1) b k1) hR2 hv) fun _ _ => rfl)
  have hok : ∀ b, okf cx σ H b -> b < w.heap.size -> okf cx σ2 (renH R2 h' ++ keepH (SV.kill (movedIds R1 R2)) (allIds R1 R2) H) b := fun b hb hbl => by
    refine ⟨hb.1, fun p hp => ?_⟩
    intro hbb
    rcases List.mem_append.1 hp with hp | hp
    . obtain ⟨p', h1, h2, h3, h4⟩ := fromN p hp
      rw [h4] at hbb
      rcases (hE.mine _ h1 b hbb).2 with m | ⟨_, c, m4, m5⟩
      . omega
      . obtain ⟨q, q1, q2, q3⟩ := get_mem m4
        have := (hown.mine q q1 b (by rw [q2, q3]; exact m5)).2
        exact this ⟨hb, hbl⟩
    . obtain ⟨h1, c, h2, h3⟩ := mem_keepH hp
      rw [h3, blk_mapc, hσk _ h1] at hbb
      exact hb.2 _ h2 hbb
  have hv' : RepSV σ2 (renH R2 h' ++ keepH (SV.kill (movedIds R1 R2)) (allIds R1 R2) H) (okf cx σ2 (renH R2 h' ++ keepH (SV.kill (movedIds R1 R2)) (allIds R1 R2) H)) w' v (r.ren R2) :=
    RepSV.ren (fun b k1 _ => toOk hok b k1) hR2 hv
  have := hRW.put (dst := some t) (dstOk_lt hd) hv'
  refine hK _ _ ⟨σ2, ?_⟩
  have e : lk ((t, r.ren R2) :: mapS (SV.kill (movedIds R1 R2)) s) = fput (fun t => SV.kill (movedIds R1 R2) (lk s t)) (some t) (r.ren R2) := by
    funext u
    simp only [lk, fput, upd]
    split
    . rfl
    . exact lk_mapS rfl s u
  rw [e]
  exact this
def argsS : Nat -> List SV -> Slots
  | _, [] => []
  | k, x :: xs => (k, x) :: argsS (k + 1) xs
theorem argsS_rep {σ : Nat -> Loc} {h : Heap} {ok : Nat -> Prop} {w : World} : ∀ (l : List SV) (k : Nat) (tmps : Array Value), (∀ (i : Nat) x, l[i]? = some x -> RepSV σ h ok w (tmps.getD (k + i) undef) x) ->
    ∀ t, RepSV σ h ok w (tmps.getD t undef) (lk (argsS k l) t)
  | [], k, tmps, _, t => by unfold argsS lk RepSV; trivial
  | x :: xs, k, tmps, hh, t => by
    simp only [argsS, lk]
    split
    . rename_i e; subst e; exact hh 0 x rfl
    . exact argsS_rep xs (k + 1) tmps (fun i y hy => by have := hh (i + 1) y (by simpa using hy); rwa [show k + (i + 1) = k + 1 + i by omega] at this) t
def SV.nrm : SV -> SV
  | .agg l => match allD l with
    | some xs => match xs.all D.one with
      | true => .d (.agg xs)
      | false => .agg l
    | none => .agg l
  | x => x
theorem allD_map : ∀ {l : List SV} {xs : List D}, allD l = some xs -> l = xs.map .d
  | [], xs, h => by simp only [allD, Option.some.injEq] at h; subst h; rfl
  | .d x :: l, xs, h => by
    simp only [allD] at h
    split at h
    . rename_i ys hy
      simp only [Option.some.injEq] at h
      subst h
      rw [allD_map hy]
      rfl
    . cases h
  | .junk :: l, xs, h => by cases h
  | .und :: l, xs, h => by cases h
  | .ref _ _ :: l, xs, h => by cases h
  | .own _ :: l, xs, h => by cases h
  | .elt _ _ :: l, xs, h => by cases h
  | .sub _ _ :: l, xs, h => by cases h
  | .cel _ _ _ :: l, xs, h => by cases h
  | .agg _ :: l, xs, h => by cases h
  | .tup _ :: l, xs, h => by cases h
  | .fn _ _ :: l, xs, h => by cases h
theorem RepSVs.toD {σ : Nat -> Loc} {h : Heap} {ok : Nat -> Prop} {w : World} {one : Bool} {vs : List Value} {xs : List D} (hv : RepSVs σ h ok w one vs (xs.map .d)) : vs.length = xs.length /\ ∀ (i : Nat) v x, vs[i]? = some v -> xs[i]? = some x -> RepD ok w v x := by
  obtain ⟨k1, k2⟩ := RepSVs.get hv
  refine ⟨by simpa using k1, fun i v x hv hx => ?_⟩
  exact (k2 i v (.d x) hv (by simp [hx])).1
theorem SV.nrm_rep {σ : Nat -> Loc} {h : Heap} {ok : Nat -> Prop} {w : World} {v : Value} {x : SV} (hv : RepSV σ h ok w v x) : RepSV σ h ok w v x.nrm := by
  unfold SV.nrm
  split
  . rename_i l
    split
    . rename_i xs hx
      split
      . rename_i ho
        simp only [RepSV] at hv ⊢
        obtain ⟨cs, rfl, hl⟩ := hv
        rw [allD_map hx] at hl
        obtain ⟨k1, k2⟩ := RepSVs.toD hl
        exact .agg cs xs (by simpa using k1) (fun y hy => List.all_eq_true.1 ho y hy) fun i v x hv hx => k2 i v x (by simpa using hv) hx
      . exact hv
    . exact hv
  . exact hv
def cellS (T : List (Nat × TR)) (h : Heap) (t : Nat) : SV -> Option SV
  | .ref id off => match h.get id with
    | some (.box cells) => match tget T t with
      | some tr => match tr.agg with
        | true => match Nat.ble (off + tr.size) cells.length with
          | true => some (SV.nrm (.agg ((cells.drop off).take tr.size)))
          | false => none
        | false => match cells[off]? with
          | some v => plainS v
          | none => none
      | none => none
    | _ => none
  | _ => none
def resS (T : List (Nat × TR)) (s : Slots) (h : Heap) : List ResultVar -> Option (List SV)
  | [] => some []
  | .tmp t :: l => match resS T s h l with
    | some xs => some (lk s t :: xs)
    | none => none
  | .cell p t :: l => match cellS T h t (lk s p) with
    | some x => match resS T s h l with
      | some xs => some (x :: xs)
      | none => none
    | none => none
def resV (l : List SV) : SV :=
  match l with
  | [x] => x
  | l => match allD l with
    | some xs => .d (.tup xs)
    | none => .tup l
theorem load_boxS {P : Program} {σ : Nat -> Loc} {h : Heap} {ok : Nat -> Prop} {w : World} {T : Nat} {tr : TR} (ht : trOk P T tr = true) (ha : tr.agg = true) {l : Loc} {cells : List SV} {off : Nat}
    (hc : RepChunk σ h ok w l (.box cells)) (hx : off + tr.size <= cells.length) :
    ∃ cs, (loadVar T ⟨l.b, off, none⟩).run P w = .ok (.agg cs) w /\ RepSV σ h ok w (.agg cs) (.agg ((cells.drop off).take tr.size)) := by
  obtain ⟨_, cs, t', c1, c2, c3⟩ := hc
  obtain ⟨d, i, hdd, hi, e1, e2, _⟩ := tr_facts ht
  let vs : List Value := (cs.toList.drop off).take tr.size
  have hvs : vs.length = tr.size := by simp [vs]; omega
  have vget : ∀ (j : Nat) v, vs[j]? = some v -> cs[off + j]? = some v := fun j v hj => by
    simp only [vs] at hj
    rw [List.getElem?_take] at hj
    split at hj
    . rw [List.getElem?_drop] at hj; simpa using hj
    . cases hj
  have hload : (loadCells ⟨l.b, off, none⟩ vs.length).run P w = .ok vs.toArray w :=
    run_loadCells_list (P := P) w ⟨l.b, off, none⟩ vs (fun j v hv => by rw [add_block, cell_at c1]; exact vget j v hv)
  refine ⟨vs.toArray, ?_, ?_⟩
  . simp only [loadVar, Sem.run_bind, run_isAgg hdd, e1, ha, Result.andThen_ok, if_true, sizeOf, typeInfo, run_program, hi, Sem.run_pure, e2]
    rw [<- hvs, hload]
    simp
  . simp only [RepSV]
    refine ⟨vs.toArray, rfl, RepSVs.mk (by simp [hvs]; omega) fun j v x hv hx => ?_⟩
    have hv' := vget j v (by simpa using hv)
    rw [List.getElem?_take] at hx
    split at hx
    . rw [List.getElem?_drop] at hx
      exact ⟨(c3 _ v x hv' hx).1, fun _ => (c3 _ v x hv' hx).2⟩
    . cases hx
theorem resS_run {cx : Cx} {σ : Nat -> Loc} {s : Slots} {h : Heap} {a : Act} {w : World} (hr : RW cx σ (lk s) h a w) : ∀ (l : List ResultVar) (xs : List SV), resS cx.T s h l = some xs ->
    ∃ vs : List Value, (l.mapM (fun | .tmp t => pure (a.tmps.getD t undef) | .cell p t => do loadVar t (<- asAddr (a.tmps.getD p undef)) : ResultVar -> Sem Value)).run cx.P w = .ok vs w /\ RepSVs σ h (okf cx σ h) w false vs xs
  | [], xs, hh => by
    simp only [resS, Option.some.injEq] at hh
    subst hh
    exact ⟨[], by simp [List.mapM_nil], by unfold RepSVs; rfl⟩
  | rv :: l, xs, hh => by
    have head : ∃ x ys, xs = x :: ys /\ resS cx.T s h l = some ys /\ ∃ u, ((match rv with | .tmp t => pure (a.tmps.getD t undef) | .cell p t => do loadVar t (<- asAddr (a.tmps.getD p undef)) : Sem Value)).run cx.P w = .ok u w /\ RepSV σ h (okf cx σ h) w u x := by
      cases rv with
      | tmp t =>
        simp only [resS] at hh
        split at hh
        . rename_i ys hy
          simp only [Option.some.injEq] at hh
          subst hh
          exact ⟨_, ys, rfl, hy, _, rfl, hr.slots t⟩
        . cases hh
      | cell p t =>
        simp only [resS] at hh
        split at hh
        . rename_i x hx
          split at hh
          . rename_i ys hy
            simp only [Option.some.injEq] at hh
            subst hh
            refine ⟨x, ys, rfl, hy, ?_⟩
            have hv := hr.slots p
            unfold cellS at hx
            split at hx
            . rename_i id off e
              rw [e] at hv
              have hv' : a.tmps.getD p undef = .pointer (some ⟨(σ id).b, off, none⟩) := hv
              dsimp only
              rw [hv']
              split at hx
              . rename_i cells hg
                obtain ⟨q, hq, rfl, hq2⟩ := get_mem hg
                have hch := hr.heap.rep q hq
                rw [hq2] at hch
                split at hx
                . rename_i tr ht
                  split at hx
                  . rename_i ha
                    split at hx
                    . rename_i hle
                      simp only [Option.some.injEq] at hx
                      subst hx
                      obtain ⟨cs, z1, z2⟩ := load_boxS (P := cx.P) (tget_ok cx.tab ht) ha hch (Nat.le_of_ble_eq_true hle)
                      exact ⟨.agg cs, by simp [asAddr, z1], SV.nrm_rep z2⟩
                    . cases hx
                  . rename_i ha
                    split at hx
                    . rename_i sv' hsv
                      have hx := plainS_eq hx
                      subst hx
                      obtain ⟨_, cs, T', c1, c2, c3⟩ := hch
                      obtain ⟨d, i, hd, hi, e1, e2, _⟩ := tr_facts (tget_ok cx.tab ht)
                      have hlt : off < cs.size := by
                        rw [c2]
                        rcases Nat.lt_or_ge off cells.length with hh | hh
                        . exact hh
                        . simp [hh] at hsv
                      have hcs : cs[off]? = some cs[off] := Array.getElem?_eq_getElem hlt
                      refine ⟨cs[off], ?_, (c3 off _ _ hcs hsv).1⟩
                      simp only [asAddr, Sem.run_bind, Sem.run_pure, Result.andThen_ok, loadVar, run_isAgg hd, e1, ha, Bool.false_eq_true, if_false, run_load, cell_at c1, hcs]
                    . cases hx
                . cases hx
              . cases hx
            . cases hx
          . cases hh
        . cases hh
    obtain ⟨x, ys, rfl, hy, u, u1, u2⟩ := head
    obtain ⟨vs, h1, h2⟩ := resS_run hr l ys hy
    refine ⟨u :: vs, ?_, by unfold RepSVs; exact ⟨u, vs, rfl, u2, by simp, h2⟩⟩
    rw [List.mapM_cons, Sem.run_bind]
    refine (congrArg (fun r => Result.andThen r _) u1).trans ?_
    simp only [Result.andThen_ok, Sem.run_bind, h1, Sem.run_pure]
theorem resV_run {cx : Cx} {σ : Nat -> Loc} {s : Slots} {h : Heap} {a : Act} {w : World} (hr : RW cx σ (lk s) h a w) {fn : Func} {l : List SV} (hh : resS cx.T s h fn.results.toList = some l) :
    ∃ v, (results fn a.tmps).run cx.P w = .ok v w /\ RepSV σ h (okf cx σ h) w v (resV l) := by
  obtain ⟨vs, h1, h2⟩ := resS_run hr _ _ hh
  have hrun : (results fn a.tmps).run cx.P w = .ok (if h : vs.length = 1 then vs[0] else .tuple vs.toArray) w := by
    unfold results
    rw [Array.mapM_eq_mapM_toList, Sem.run_bind, Sem.run_map]
    refine (congrArg (fun r => Result.andThen (Result.andThen r _) _) h1).trans ?_
    simp
  have hlen := (RepSVs.get h2).1
  unfold resV
  split
  . rename_i x
    simp only [RepSVs] at h2
    obtain ⟨v', us, e, k1, _, k2⟩ := h2
    subst k2
    subst e
    exact ⟨v', by simpa using hrun, k1⟩
  . rename_i hne
    have hl : vs.length ≠ 1 := fun e => by
      rw [hlen] at e
      obtain ⟨y, rfl⟩ := List.length_eq_one_iff.1 e
      exact hne y rfl
    rw [dif_neg hl] at hrun
    refine ⟨_, hrun, ?_⟩
    split
    . rename_i xs hx
      rw [allD_map hx] at h2
      obtain ⟨k1, k2⟩ := RepSVs.toD h2
      exact .tup _ _ (by simpa using k1) fun i v x hv hx => k2 i v x (by simpa using hv) hx
    . simp only [RepSV]
      exact ⟨vs.toArray, rfl, by simpa using h2⟩
def renOk (h : Heap) (R : List (Nat × Nat)) : Bool := nodupB (R.map (·.1)) && nodupB (R.map (·.2)) && (R.all fun p => (Nat.ble 10000 p.1 && Nat.beq p.1 p.2 && (h.get p.1).isSome) || (Nat.blt p.1 10000 && Nat.ble 20000 p.2))
def HPost (T : List (Nat × TR)) (l : List ResultVar) (h : Heap) (r : SV) (h' : Heap) (e : Exit) (s : Slots) (h1 : Heap) : Prop :=
  (e = .normal \/ e = .ret) /\ ∃ R xs, resS T s h1 l = some xs /\ (resV xs).ren R = r /\ pickH R h1 = some h' /\ renOk h R = true
theorem hc_intro {P : Program} {T : List (Nat × TR)} {f : Nat} {fn : Func} {c : Code} {ss : List SV} {h : Heap} {r : SV} {h' : Heap} (tab : tabOk P T = true) (nt : Nat) (hf : P.funcs[f]? = some fn) (hb : fn.body = some c)
    (hname : (fn.name == "runtime.NumGoroutine") = false) (hnt : fn.ntmps = nt) (hle : Nat.ble ss.length nt = true) (hsm : Nat.ble nt 10000 = true) (hids : (h.all fun p => Nat.ble 10000 p.1 && Nat.blt p.1 30000) = true) (hlike : likeIn h h')
    (hw : ∀ (w0 : World) (ok0 : Nat -> Prop) (XM : Nat -> Nat -> Prop) (XA : Nat -> Prop) (anc : Nat -> Loc) (he0 : EnvAt P w0) (hX0 : EnvX P XM XA), awp ⟨P, T, tab, w0, ok0, XM, XA, nt, anc, hsm, w0.heap.size, Nat.le_refl _, he0, hX0⟩ c (argsS 0 ss) h (HPost T fn.results.toList h r h')) : HC P f ss h r h' := by
  refine ⟨⟨fn, hf, by simp [hb], hname⟩, hlike, fun w ok σ vs henv hok hown hvs => ?_⟩
  have hle' := Nat.le_of_ble_eq_true hle
  have hlen := (RepSVs.get hvs).1
  simp only [Array.length_toList] at hlen
  have hid : ∀ p ∈ h, 10000 <= p.1 /\ p.1 < 30000 := fun p hp => by
    have := List.all_eq_true.1 hids p hp
    simp only [Bool.and_eq_true] at this
    exact ⟨Nat.le_of_ble_eq_true this.1, Nat.le_of_ble_eq_true this.2⟩
  have hX : EnvX P (fun i b => ∃ c, h.get i = some c /\ b ∈ blk (σ i) c) fun b => ∃ q ∈ h, b ∈ blk (σ q.1) q.2 := ⟨fun i b ⟨c, g1, g2⟩ => by
    obtain ⟨p', m1, m2, m3⟩ := get_mem g1
    exact henv.2 p' m1 b (by rw [m2, m3]; exact g2), fun b ⟨q, g1, g2⟩ => henv.2 q g1 b g2⟩
  let cx : Cx := ⟨P, T, tab, w, ok, fun i b => ∃ c, h.get i = some c /\ b ∈ blk (σ i) c, fun b => ∃ q ∈ h, b ∈ blk (σ q.1) q.2, nt, σ, hsm, w.heap.size, Nat.le_refl _, henv.1, hX⟩
  have hk : ∀ b, ok b -> b < w.heap.size -> okf cx σ h b /\ w.heap[b]? = w.heap[b]? := fun b h1 _ => ⟨⟨.inl h1, fun p hp hbb => (hown.mine p hp b hbb).2 h1⟩, rfl⟩
  refine calls_of_wp hf hb (wp_mono (hw w ok cx.XM cx.XA σ henv.1 hX _ w ⟨σ, ⟨rfl, rfl, rfl, Nat.le_refl _, fun _ _ _ => rfl⟩, rfl, ?_, ⟨hown.nodup, hown.nd, hown.inj, fun p hp b hbb => ?_, fun p hp => ?_, fun _ _ _ => rfl⟩, ?_⟩) ?_)
  . simp only [Array.size_append, Array.size_replicate, hlen, hnt]
    omega
  . exact ⟨.inl (by unfold Cx.X0; split <;> first | exact ⟨p.2, get_of_mem hown.nodup hp, hbb⟩ | exact ⟨p, hp, hbb⟩), fun h => by have := (hid p hp).1; omega, (hown.mine p hp b hbb).1⟩
  . exact RepChunk.mono (hown.rep p hp) hk fun _ _ => rfl
  . refine argsS_rep ss 0 _ fun i x hx => ?_
    have hi : i < ss.length := by
      rcases Nat.lt_or_ge i ss.length with hh | hh
      . exact hh
      . simp [hh] at hx
    have hiv : i < vs.size := by omega
    have hget : vs[i]? = some vs[i] := Array.getElem?_eq_getElem hiv
    have := ((RepSVs.get hvs).2 i vs[i] x (by simp) hx).1
    rw [Nat.zero_add, Array.getD_eq_getD_getElem?, Array.getElem?_append_left hiv, hget]
    exact this.mono hk
  . rintro e a' w' ⟨s', h1, ⟨he, R, xs, hres, hrr, hpick, hrok⟩, σ1, hr⟩
    obtain ⟨v, k1, k2⟩ := resV_run (fn := fn) hr hres
    obtain ⟨p1, p2, p3⟩ := pickG_spec hpick
    simp only [renOk, Bool.and_eq_true] at hrok
    obtain ⟨⟨n1, n2⟩, n3⟩ := hrok
    replace n1 := nodupB_iff n1
    replace n2 := nodupB_iff n2
    have hkind : ∀ p ∈ R, (10000 <= p.1 /\ p.1 = p.2 /\ (h.get p.1).isSome = true) \/ (p.1 < 10000 /\ 20000 <= p.2) := fun p hp => by
      have := List.all_eq_true.1 n3 p hp
      simp only [Bool.or_eq_true, Bool.and_eq_true] at this
      rcases this with ⟨⟨g1, g2⟩, g3⟩ | ⟨g1, g2⟩
      . exact .inl ⟨Nat.le_of_ble_eq_true g1, Nat.eq_of_beq_eq_true g2, g3⟩
      . exact .inr ⟨Nat.le_of_ble_eq_true g1, Nat.le_of_ble_eq_true g2⟩
    let σ' : Nat -> Loc := fun j => match look (swap R) j with
      | some i => σ1 i
      | none => ⟨0, 0, true, []⟩
    have hσ' : ∀ p ∈ R, σ' p.2 = σ1 p.1 := fun p hp => by
      have : look (swap R) p.2 = some p.1 := look_of_mem (R := swap R) (by rw [swap_fst]; exact n2) (p := (p.2, p.1)) (List.mem_map.2 ⟨p, hp, rfl⟩)
      simp only [σ', this]
    have hnd : (h'.map (·.1)).Nodup := by rw [p1]; exact n2
    have hR : ∀ i j, look R i = some j -> σ' j = σ1 i /\ ∃ c c', h1.get i = some c /\ h'.get j = some c' /\ c.sim c' := fun i j hl => by
      have hm := look_mem hl
      obtain ⟨c, g1, g2⟩ := p2 _ hm
      exact ⟨hσ' _ hm, c, _, g1, get_of_mem hnd g2, sim_mapc c⟩
    have toH : ∀ q ∈ h', ∃ p ∈ R, ∃ c, p.2 = q.1 /\ (p.1, c) ∈ h1 /\ q.2 = c.mapc (SV.ren R) /\ blk (σ' q.1) q.2 = blk (σ1 p.1) c := fun q hq => by
      obtain ⟨p, g1, c, g2, g3, g4⟩ := p3 q hq
      obtain ⟨p', m1, m2, m3⟩ := get_mem g3
      refine ⟨p, g1, c, g2, ?_, g4, ?_⟩
      . have : p' = (p.1, c) := by rw [<- m2, <- m3]
        rw [<- this]; exact m1
      . rw [g4, blk_mapc, <- g2, hσ' p g1]
    have hkn : ∀ b, okf cx σ1 h1 b -> b < w'.heap.size -> okn ok w σ' h' b := fun b hb _ => ⟨hb.1, fun q hq hbb => by
      obtain ⟨p, g1, c, g2, g3, g4, g5⟩ := toH q hq
      rw [g5] at hbb
      exact hb.2 _ g3 hbb⟩
    have hv : RepSV σ' h' (okn ok w σ' h') w' v r := by
      rw [<- hrr]
      exact RepSV.ren hkn hR k2
    have hE : HEnd σ h ok w σ' h' w' := by
      refine ⟨hr.evo.os, hr.evo.tape, hr.evo.output, hr.evo.size, fun b hb hno => hr.evo.block b hb ?_, hnd, fun q hq => ?_, fun q hq q' hq' b hb hb' => ?_, fun q hq b hb => ?_, fun q hq => ?_, fun q hq hanc => ?_⟩
      . intro i hX
        unfold Cx.X0 at hX
        split at hX
        . obtain ⟨c, hc1, hc2⟩ := hX
          obtain ⟨p', m1, m2, m3⟩ := get_mem hc1
          exact hno p' m1 (by rw [m2, m3]; exact hc2)
        . obtain ⟨q, hq, hq2⟩ := hX
          exact hno q hq hq2
      . obtain ⟨p, g1, c, g2, g3, g4, g5⟩ := toH q hq
        rw [g5]; exact hr.heap.nd _ g3
      . obtain ⟨p, g1, c, g2, g3, g4, g5⟩ := toH q hq
        obtain ⟨p', g1', c', g2', g3', g4', g5'⟩ := toH q' hq'
        rw [g5] at hb
        rw [g5'] at hb'
        have e := hr.heap.inj _ g3 _ g3' b hb hb'
        simp only at e
        have e1 := look_of_mem n1 g1
        have e2 := look_of_mem n1 g1'
        rw [e, e2] at e1
        rw [<- g2, <- g2']
        exact (Option.some.inj e1).symm
      . obtain ⟨p, g1, c, g2, g3, g4, g5⟩ := toH q hq
        rw [g5] at hb
        obtain ⟨m1, m2, m3⟩ := hr.heap.mine _ g3 b hb
        refine ⟨m3, ?_⟩
        rcases hkind p g1 with ⟨q1, q2, q3⟩ | ⟨q1, q2⟩
        . rcases m1 with m1 | m1
          . right
            obtain ⟨c0, m4⟩ := Option.isSome_iff_exists.1 q3
            obtain ⟨p', r1, r2, r3⟩ := get_mem m4
            have hlt := (hid p' r1).2
            rw [r2] at hlt
            rw [<- g2, <- q2]
            refine ⟨hlt, c0, m4, ?_⟩
            cases hmv : isMov p.1 with
            | true =>
              unfold Cx.X0 at m1
              simp only at m1
              rw [hmv] at m1
              obtain ⟨c1, m5, m6⟩ := m1
              rw [m4] at m5
              cases m5
              exact m6
            | false =>
              have hanc : isAnc p.1 = true := by
                unfold isAnc
                unfold isMov at hmv
                rw [Nat.ble_eq_true_of_le q1]
                simp only [Bool.true_and]
                cases hb2 : Nat.ble 20000 p.1 with
                | true =>
                  rw [hb2] at hmv
                  simp only [Bool.true_and] at hmv
                  have : Nat.blt p.1 30000 = true := Nat.ble_eq_true_of_le hlt
                  rw [this] at hmv
                  cases hmv
                | false =>
                  have : ¬ 20000 <= p.1 := fun h => by rw [Nat.ble_eq_true_of_le h] at hb2; cases hb2
                  exact Nat.ble_eq_true_of_le (by omega)
              obtain ⟨c', l1, l2⟩ := hlike p' r1 (by rw [r2]; exact hanc)
              rw [r2, q2, g2, get_of_mem hnd hq] at l1
              simp only [Option.some.injEq] at l1
              subst l1
              have e1 := hr.heap.anc _ g3 hanc
              have e2 : σ1 p.1 = σ p.1 := e1
              rw [<- r3, <- e2, <- like_blk l2, g4, blk_mapc]
              exact hb
          . exact .inl m1
        . exact .inl (m2 q1)
      . obtain ⟨p, g1, c, g2, g3, g4, g5⟩ := toH q hq
        rw [g4, <- g2, hσ' p g1]
        exact RepChunk.mapc (hr.heap.rep _ g3) (fun b h1 h2 => ⟨hkn b h1 h2, rfl⟩) (fun v sv hv => RepSV.ren hkn hR hv) fun _ _ => rfl
      . obtain ⟨p, g1, c, g2, g3, g4, g5⟩ := toH q hq
        rcases hkind p g1 with ⟨q1, q2, _⟩ | ⟨q1, q2⟩
        . rw [<- g2, hσ' p g1]
          rw [<- g2, <- q2] at hanc
          rw [<- q2]
          exact hr.heap.anc _ g3 hanc
        . rw [<- g2] at hanc
          unfold isAnc at hanc
          simp only [Bool.and_eq_true] at hanc
          have := Nat.le_of_ble_eq_true hanc.2
          omega
    rcases he with rfl | rfl
    . exact ⟨hr.defers, v, k1, v, σ', rfl, hE, hv⟩
    . exact ⟨hr.defers, v, k1, v, σ', rfl, hE, hv⟩
end Go.Proofs.YtckpadnjldebaaaGreat
