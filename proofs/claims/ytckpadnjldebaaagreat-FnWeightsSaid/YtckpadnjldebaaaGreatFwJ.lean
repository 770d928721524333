/- Literals, bytes as text, what is given away and lent, results that lie in variables, parts of slices. No condition. -/
import Derived.Test.YtckpadnjldebaaaGreatFwH
import Derived.Carry
import Derived.ChangeSame
import Derived.ChangeSlices
import Derived.JoinedOf
import Derived.JoinedAt
import Derived.OpenShut
namespace Go.Proofs.YtckpadnjldebaaaGreat
open Go
open Go.RowKit (Below)
set_option linter.unusedVariables false
set_option linter.unusedSimpArgs false
section
variable {cx : Cx} {ops : Array Oper} {rest : List Oper} {s : Slots} {h : Heap} {Q : Exit -> Slots -> Heap -> Prop} {K : Slots -> Prop} {dst : Option Nat} {t ty : Nat} {pos : String} {af : Array Edge} {gd : Option (Nat × Bool)}
theorem lit_parts {r : Operand -> SV} {σ : Nat -> Loc} {ok : Nat -> Prop} {w : World} {ρ : Operand -> Value} (hρ : ∀ x, RepSV σ h ok w (ρ x) (r x)) {l : List (Nat × Operand)} {ys : List D} (hl : litD r 0 l = some ys) :
    ys.length = l.length /\ ∀ (j : Nat) p, (l.map fun (q : Nat × Operand) => (q.1, ρ q.2))[j]? = some p -> p.1 = j /\ ∃ y, ys[j]? = some y /\ RepD ok w p.2 y := by
  obtain ⟨h1, h2⟩ := litD_get hl
  refine ⟨h1, fun j p hp => ?_⟩
  rw [List.getElem?_map] at hp
  simp only [Option.map_eq_some_iff] at hp
  obtain ⟨q, hq, rfl⟩ := hp
  obtain ⟨e1, y, e2, e3⟩ := h2 j q hq
  have := hρ q.2
  rw [e3] at this
  exact ⟨by simp only; omega, y, e2, this⟩
theorem qa_lit {T n : Nat} {parts : Array (Nat × Operand)} {ts te : TR} {f : Nat -> SV} {ys : List D} (ht : tget cx.T T = some ts) (hsl : ts.isSl = true) (hte : tget cx.T ts.elem = some te) (hl : litD (opv f) 0 parts.toList = some ys)
    (hn : Nat.beq ys.length n = true) (hel : elsOk te.size ys = true)
    (hz1 : (te.agg || Nat.beq te.zero.length 1) = true) (hz2 : Nat.beq te.zero.length te.size = true) (hz3 : Nat.ble 1 te.size = true) (hlim : Nat.ble (n * te.size) 16777216 = true) :
    Qt cx h ⟨dst, .buildSlice T n parts, ty, pos, af, gd⟩ f (.d (.lst ys)) := by
  intro s₁ hs σ a w hr K Q hK
  have hl' : litD (opv s₁) 0 parts.toList = some ys := by
    rw [<- hl]
    have key : ∀ (l : List (Nat × Operand)) (k : Nat), (∀ p ∈ l, p ∈ parts.toList) -> litD (opv s₁) k l = litD (opv f) k l := by
      intro l
      induction l with
      | nil => intro k _; rfl
      | cons p l ih =>
        intro k hp
        obtain ⟨i, x⟩ := p
        have hx : opv s₁ x = opv f x := by
          cases x <;> first | rfl | exact hs _ (by
            simp only [Op.operands, List.mem_toArray, List.mem_map]
            exact ⟨_, hp _ (List.mem_cons_self ..), rfl⟩)
        simp only [litD, hx, ih (k + 1) fun q hq => hp q (List.mem_cons_of_mem _ hq)]
    exact key _ _ fun _ h => h
  obtain ⟨h1, h2⟩ := lit_parts (rep_eval hr) hl'
  have hn' := Nat.eq_of_beq_eq_true hn
  obtain ⟨out, r1, r2, r3, _⟩ := lit_run (P := cx.P) (tget_ok cx.tab ht) hsl (tget_ok cx.tab hte) hz1 hz2 hz3 (ok := okf cx σ h) (w := w) (n := n) (parts := parts.toList.map fun (q : Nat × Operand) => (q.1, a.eval q.2)) hn' (by simpa [<- hn'] using h1.symm) h2 (elsOk_all hel) (Nat.le_of_ble_eq_true hlim)
  have hb : Below w.heap.size w (w.alloc (.cells out ts.elem)) := (Below.refl _ _).alloc (Nat.le_refl _) _
  have run : (execOp a.eval ⟨dst, .buildSlice T n parts, ty, pos, af, gd⟩).run cx.P w = .ok (.value (.slice (some ⟨w.heap.size, 0, none⟩) n n)) (w.alloc (.cells out ts.elem)) := by
    have e : (parts.map fun (i, x) => (i, a.eval x)) = (parts.toList.map fun (q : Nat × Operand) => (q.1, a.eval q.2)).toArray := by
      apply Array.ext'
      simp
    simp only [execOp, e, Sem.run_bind, r1, Result.andThen_ok, Sem.run_pure]
  unfold Oper.wp
  rw [run]
  obtain ⟨_, vs, v1, v2, v3⟩ := r3
  by_cases h63 : n <= 9223372036854775807
  . refine hK _ _ hb (RepD.lst w.heap.size 0 n n out ts.elem (0, 0) ys vs te.size ⟨.inr hr.evo.size, fun p hp e => ?_⟩ (heap_alloc_new w _) v1 hn'.symm (Nat.le_refl _) h63 (fun i v x hv hx => (v2 i v x hv hx).mono fun b k1 k2 => ⟨k1, hb.block b k2⟩) fun i v hv => ⟨(v3 i v hv).1, fun j hj => ?_⟩)
    . have := (hr.heap.mine p hp _ e).2.2; omega
    . have := (v3 i v hv).2 j hj
      rw [Nat.zero_add]
      simpa using this
  . exfalso
    have := Nat.le_of_ble_eq_true hlim
    have h1 := Nat.le_of_ble_eq_true hz3
    have : n * 1 <= n * te.size := Nat.mul_le_mul_left n h1
    omega
theorem op_lit {T n : Nat} {parts : Array (Nat × Operand)} {ts te : TR} {ys : List D} (ht : tget cx.T T = some ts) (hsl : ts.isSl = true) (hte : tget cx.T ts.elem = some te) (hl : litD (opv (lk s)) 0 parts.toList = some ys)
    (hd : Nat.blt t cx.nt = true) (hn : Nat.beq ys.length n = true) (hel : elsOk te.size ys = true)
    (hz1 : (te.agg || Nat.beq te.zero.length 1) = true) (hz2 : Nat.beq te.zero.length te.size = true) (hz3 : Nat.ble 1 te.size = true) (hlim : Nat.ble (n * te.size) 16777216 = true) :
    OpTo cx ⟨some t, .buildSlice T n parts, ty, pos, af, none⟩ s h ((t, .own t) :: killS t s) ((t, .arr ts.elem te.size ys) :: killH t h) := by
  rintro a w ⟨σ, hr⟩ K Q hK
  obtain ⟨h1, h2⟩ := lit_parts (rep_eval hr) hl
  have hn' := Nat.eq_of_beq_eq_true hn
  have hz3' := Nat.le_of_ble_eq_true hz3
  have hlim' := Nat.le_of_ble_eq_true hlim
  obtain ⟨out, r1, r2, r3, _⟩ := lit_run (P := cx.P) (tget_ok cx.tab ht) hsl (tget_ok cx.tab hte) hz1 hz2 hz3 (ok := okf cx σ h) (w := w) (n := n) (parts := parts.toList.map fun (q : Nat × Operand) => (q.1, a.eval q.2)) hn' (by simpa [<- hn'] using h1.symm) h2 (elsOk_all hel) hlim'
  have run : (execOp a.eval ⟨some t, .buildSlice T n parts, ty, pos, af, none⟩).run cx.P w = .ok (.value (.slice (some ⟨w.heap.size, 0, none⟩) n n)) (w.alloc (.cells out ts.elem)) := by
    have e : (parts.map fun (i, x) => (i, a.eval x)) = (parts.toList.map fun (q : Nat × Operand) => (q.1, a.eval q.2)).toArray := by
      apply Array.ext'
      simp
    simp only [execOp, e, Sem.run_bind, r1, Result.andThen_ok, Sem.run_pure]
  unfold Oper.wp
  rw [run]
  have hle : n <= 9223372036854775807 := by
    have : n * 1 <= n * te.size := Nat.mul_le_mul_left n hz3'
    omega
  have := lay_arr (w' := w.alloc (.cells out ts.elem)) hr hd t (anc_slot hd).1 ⟨w.heap.size, n, false, []⟩ ts.elem te.size ys rfl rfl rfl (by simp) (fun b hb _ => Below.heap_alloc w _ b hb) (fun _ => .inl (Nat.le_refl _)) hz3'
    out.toList ⟨by simp [r2, hn'], .inr ⟨w.heap.size, n, out, by simp [sliceAt, hn'], Nat.zero_le _, heap_alloc_new w _, by omega, by simp only [maxLen]; omega, r2, by
      rw [List.take_of_length_le (by simp [r2, hn'])]⟩⟩ r3
  simp only [sliceAt, hn'] at this
  exact hK _ _ this
def Chunk.dat : Chunk -> Option D
  | .arr _ _ xs => some (.lst xs)
  | .rows _ _ _ xss none => some (.lst (xss.map .lst))
  | .map kvs => some (.map kvs)
  | _ => none
mutual
def SV.frz (id : Nat) (c : Chunk) : SV -> SV
  | .own i => match Nat.beq i id with
    | true => match c.dat with
      | some x => .d x
      | none => .junk
    | false => .own i
  | .sub i n => match Nat.beq i id with
    | true => match c with
      | .rows _ _ _ xss none => match xss[n]? with
        | some xs => .d (.lst xs)
        | none => .junk
      | _ => .junk
    | false => .sub i n
  | .elt i n => match Nat.beq i id with
    | true => .junk
    | false => .elt i n
  | .ref i n => match Nat.beq i id with
    | true => .junk
    | false => .ref i n
  | .cel i r n => match Nat.beq i id with
    | true => .junk
    | false => .cel i r n
  | .agg l => .agg (SV.frzL id c l)
  | .tup l => .tup (SV.frzL id c l)
  | .fn f l => .fn f (SV.frzL id c l)
  | .junk => .junk
  | .und => .und
  | .d x => .d x
def SV.frzL (id : Nat) (c : Chunk) : List SV -> List SV
  | [] => []
  | x :: l => SV.frz id c x :: SV.frzL id c l
end
mutual
theorem RepSV.frz {σ : Nat -> Loc} {h h' : Heap} {ok ok' : Nat -> Prop} {w : World} {id : Nat} {c : Chunk} (hg : h.get id = some c) (hc : RepChunk σ h ok w (σ id) c) (hk : ∀ b, ok b -> b < w.heap.size -> ok' b /\ w.heap[b]? = w.heap[b]?)
    (hk1 : ∀ b, ok b -> ok' b) (hb : ∀ b, b ∈ blk (σ id) c -> ok' b) (hg' : ∀ j, memB j [id] = false -> simO (h.get j) (h'.get j)) : ∀ {x : SV} {v : Value}, RepSV σ h ok w v x -> RepSV σ h' ok' w v (x.frz id c)
  | .junk, _, _ => by unfold SV.frz RepSV; trivial
  | .und, _, hr => hr
  | .d x, _, hr => RepD.mono hr hk
  | .ref i n, v, hr => by
    unfold SV.frz
    split
    . unfold RepSV; trivial
    . exact hr
  | .cel i r n, v, hr => by
    unfold SV.frz
    split
    . unfold RepSV; trivial
    . simp only [RepSV] at hr ⊢; exact hr
  | .elt i n, v, hr => by
    unfold SV.frz
    split
    . unfold RepSV; trivial
    . rename_i e
      have := RepSV.kill (K := [id]) (σ' := σ) hk (fun _ _ => rfl) hg' hr
      unfold SV.kill at this
      rw [memB_oneF.2 (Nat.ne_of_beq_eq_false e)] at this
      exact this
  | .own i, v, hr => by
    unfold SV.frz
    split
    . rename_i e
      have e := Nat.eq_of_beq_eq_true e
      subst e
      split
      . rename_i x hx
        simp only [RepSV, hg] at hr ⊢
        cases c with
        | box cells => simp [Chunk.dat] at hx
        | arr e sz xs =>
          simp only [Chunk.dat, Option.some.injEq] at hx
          subst hx
          simp only at hr
          subst hr
          exact own_rep hc hk1 fun hn => hb _ (by simp [blk, hn])
        | rows e e' sz xss hole =>
          cases hole with
          | some n => simp [Chunk.dat] at hx
          | none =>
            simp only [Chunk.dat, Option.some.injEq] at hx
            subst hx
            simp only at hr
            subst hr
            exact rows_rep hc hk1 hb
        | map kvs =>
          simp only [Chunk.dat, Option.some.injEq] at hx
          subst hx
          simp only at hr
          subst hr
          obtain ⟨es, clock, h1, h2, h3⟩ := hc
          exact .map _ es clock kvs (hb _ (by simp [blk])) h1 h2 (fun i e kv he hkv => (h3 i e kv he hkv).1.mono hk) (fun i e kv he hkv => (h3 i e kv he hkv).2.mono hk)
      . unfold RepSV; trivial
    . rename_i e
      have := RepSV.kill (K := [id]) (σ' := σ) hk (fun _ _ => rfl) hg' hr
      unfold SV.kill at this
      rw [memB_oneF.2 (Nat.ne_of_beq_eq_false e)] at this
      exact this
  | .sub i n, v, hr => by
    unfold SV.frz
    split
    . rename_i e
      have e := Nat.eq_of_beq_eq_true e
      subst e
      split
      . rename_i e e' sz xss
        split
        . rename_i xs hx
          simp only [RepSV, hg, hx, Option.some.injEq] at hr ⊢
          obtain ⟨q, xs', hq, rfl, rfl⟩ := hr
          obtain ⟨h0, h1, ⟨cl, ho, h3⟩, h4, _⟩ := hc
          refine own_rep (h4 n q xs hq hx (by simp [hat])) hk1 fun hn => hb _ ?_
          cases hnil : (σ i).nil with
          | true =>
            have := rows_nil ho hnil
            have : xss = [] := List.eq_nil_of_length_eq_zero this
            subst this
            simp at hx
          | false => exact kid_blk hnil hq hn (by simp [hat])
        . unfold RepSV; trivial
      . unfold RepSV; trivial
    . rename_i e
      have := RepSV.kill (K := [id]) (σ' := σ) hk (fun _ _ => rfl) hg' hr
      unfold SV.kill at this
      rw [memB_oneF.2 (Nat.ne_of_beq_eq_false e)] at this
      exact this
  | .agg l, v, hr => by
    unfold SV.frz
    simp only [RepSV] at hr ⊢
    obtain ⟨cs, e, hl⟩ := hr
    exact ⟨cs, e, RepSVs.frz hg hc hk hk1 hb hg' hl⟩
  | .tup l, v, hr => by
    unfold SV.frz
    simp only [RepSV] at hr ⊢
    obtain ⟨cs, e, hl⟩ := hr
    exact ⟨cs, e, RepSVs.frz hg hc hk hk1 hb hg' hl⟩
  | .fn f l, v, hr => by
    unfold SV.frz
    simp only [RepSV] at hr ⊢
    obtain ⟨cs, e, hl⟩ := hr
    exact ⟨cs, e, RepSVs.frz hg hc hk hk1 hb hg' hl⟩
theorem RepSVs.frz {σ : Nat -> Loc} {h h' : Heap} {ok ok' : Nat -> Prop} {w : World} {id : Nat} {c : Chunk} (hg : h.get id = some c) (hc : RepChunk σ h ok w (σ id) c) (hk : ∀ b, ok b -> b < w.heap.size -> ok' b /\ w.heap[b]? = w.heap[b]?)
    (hk1 : ∀ b, ok b -> ok' b) (hb : ∀ b, b ∈ blk (σ id) c -> ok' b) (hg' : ∀ j, memB j [id] = false -> simO (h.get j) (h'.get j)) : ∀ {l : List SV} {one : Bool} {vs : List Value}, RepSVs σ h ok w one vs l -> RepSVs σ h' ok' w one vs (SV.frzL id c l)
  | [], _, _, hr => by unfold SV.frzL; exact hr
  | x :: l, _, _, hr => by
    unfold SV.frzL
    simp only [RepSVs] at hr ⊢
    obtain ⟨v, vs', e, h1, h2, h3⟩ := hr
    exact ⟨v, vs', e, RepSV.frz hg hc hk hk1 hb hg' h1, h2, RepSVs.frz hg hc hk hk1 hb hg' h3⟩
end
def frzS (id : Nat) (c : Chunk) (s : Slots) : Slots := mapS (SV.frz id c) s
def frzH (id : Nat) (c : Chunk) (h : Heap) : Heap := keepH (SV.frz id c) [id] h
theorem R_freeze {a : Act} {w : World} {id : Nat} {c : Chunk} (hr : R cx (lk s) h a w) (hnw : cx.nw = cx.w0.heap.size) (hid : Nat.blt id 10000 = true) (hg : h.get id = some c) : R cx (lk (frzS id c s)) (frzH id c h) a w := by
  obtain ⟨σ, hr⟩ := hr
  obtain ⟨p0, hp0, rfl, hp2⟩ := get_mem hg
  have hid' : p0.1 < 10000 := Nat.le_of_ble_eq_true hid
  have hb : ∀ b, b ∈ blk (σ p0.1) c -> okf cx σ (keepH (SV.frz p0.1 c) [p0.1] h) b := fun b hb => by
    rw [<- hp2] at hb
    refine ⟨.inr (by rw [hnw]; exact (hr.heap.mine p0 hp0 b hb).2.1 hid'), fun p hp hbb => ?_⟩
    obtain ⟨h1, c', h2, h3⟩ := mem_keepH hp
    rw [h3, blk_mapc] at hbb
    exact memB_oneF.1 h1 (hr.heap.inj (p.1, c') h2 p0 hp0 b hbb hb)
  have hk1 : ∀ b, okf cx σ h b -> okf cx σ (keepH (SV.frz p0.1 c) [p0.1] h) b := fun b hb => ⟨hb.1, fun p hp => by
    obtain ⟨h1, c', h2, h3⟩ := mem_keepH hp
    rw [h3, blk_mapc]
    exact hb.2 _ h2⟩
  have hc := hr.heap.rep p0 hp0
  rw [hp2] at hc
  have := hr.upd (σ' := σ) (w' := w) [p0.1] [] (SV.frz p0.1 c) (by simp) (by simp) (fun _ _ => rfl) rfl rfl rfl (Nat.le_refl _) (fun _ _ _ => rfl) (by simp) (by simp) (by simp) (by simp)
    (fun hok v sv hv => RepSV.frz hg hc (fun b h1 _ => ⟨hk1 b h1, rfl⟩) hk1 hb (simO_keep (N := []) (by simp)) hv) (by simp)
  refine ⟨σ, ?_⟩
  have e : lk (frzS p0.1 c s) = fun t => SV.frz p0.1 c (lk s t) := funext fun t => lk_mapS rfl s t
  rw [e]
  exact this
theorem awpL_freeze {l : List Oper} (id : Nat) {c : Chunk} (hg : h.get id = some c) (hid : Nat.blt id 10000 = true) (hn : awpL cx ops l (frzS id c s) (frzH id c h) Q) (hnw : cx.nw = cx.w0.heap.size := by exact rfl) : awpL cx ops l s h Q := fun a w hr => hn a w (R_freeze hr hnw hid hg)
theorem awp_freeze {cd : Code} (id : Nat) {c : Chunk} (hg : h.get id = some c) (hid : Nat.blt id 10000 = true) (hn : awp cx cd (frzS id c s) (frzH id c h) Q) (hnw : cx.nw = cx.w0.heap.size := by exact rfl) : awp cx cd s h Q := fun a w hr => hn a w (R_freeze hr hnw hid hg)
def D.scal : D -> Bool
  | .int _ _ => true
  | .bool _ => true
  | .str _ => true
  | .nils => true
  | .nilp => true
  | .nilm => true
  | _ => false
def D.scal2 : D -> Bool
  | .tup xs => xs.all D.scal
  | x => x.scal
theorem RepD.scal {ok ok' : Nat -> Prop} {w w' : World} {v : Value} {x : D} (hv : RepD ok w v x) (hs : x.scal = true) : RepD ok' w' v x := by
  cases hv with
  | int k n => exact .int k n
  | bool b => exact .bool b
  | str l s h => exact .str l s h
  | nils => exact .nils
  | nilp => exact .nilp
  | nilm => exact .nilm
  | _ => simp [D.scal] at hs
theorem RepD.scal2 {ok ok' : Nat -> Prop} {w w' : World} {v : Value} {x : D} (hv : RepD ok w v x) (hs : x.scal2 = true) : RepD ok' w' v x := by
  cases x with
  | tup xs =>
    cases hv with
    | tup cs _ h1 h2 =>
      refine .tup cs xs h1 fun i v x hv hx => (h2 i v x hv hx).scal ?_
      exact List.all_eq_true.1 hs x (List.mem_of_getElem? hx)
  | _ => exact hv.scal hs
theorem slotB_rep {σ : Nat -> Loc} {f : Nat -> SV} {a : Act} {w : World} (hr : RW cx σ f h a w) {v : Value} {sv : SV} {x : D} (hv : RepSV σ h (okf cx σ h) w v sv) (hs : slotD h sv = some x) : RepD (fun b => b < w.heap.size) w v x :=
  (slotG_rep (ok' := fun _ => True) hr.heap.rep (fun _ _ => trivial) (fun _ _ _ _ => trivial) hv hs).mono fun b _ h2 => ⟨h2, rfl⟩
theorem fold_push (ns : List Int) (r : ByteArray) : (ns.foldl (fun r n => r.push (UInt8.ofNat n.toNat)) r).data.toList = r.data.toList ++ ns.map fun n => UInt8.ofNat n.toNat := by
  induction ns generalizing r with
  | nil => simp
  | cons n ns ih => simp only [List.foldl_cons, ih]; simp [ByteArray.push]
theorem bytes_run {P : Program} {ok : Nat -> Prop} {w : World} {v : Value} {ns : List Int} (hv : RepD ok w v (.lst (ns.map (.int .u8)))) : (Conv.bytesToString v).run P w = .ok (.string ⟨(ns.map fun n => UInt8.ofNat n.toNat).toArray⟩) w := by
  rcases src_cells (size := 1) hv (fun y hy => by
    obtain ⟨n, _, rfl⟩ := List.mem_map.1 hy
    exact ⟨rfl, rfl⟩) with ⟨rfl, h0⟩ | ⟨a, c, cl, rfl, ⟨h1, vs, h2, h3, h4⟩, h5, _⟩
  . have : ns = [] := by simpa using h0
    subst this
    simp [Conv.bytesToString]
    rfl
  . have hcl : cl = ns.map (Value.int .u8) := by
      apply List.ext_getElem?
      intro i
      rw [List.getElem?_map]
      by_cases hi : i < ns.length
      . have hvl : i < vs.length := by rw [h2]; simpa using hi
        have hr := h3 i vs[i] (.int .u8 ns[i]) (List.getElem?_eq_getElem hvl) (by simp [hi])
        have hv' := RepD.int_inv hr
        have := (h4 i vs[i] (List.getElem?_eq_getElem hvl)).2 0 (by omega)
        rw [hv'] at this
        simp only [Nat.mul_one, Nat.add_zero] at this
        rw [this]
        simp [hi, Value.cells]
      . have e1 : cl[i]? = none := by simp [h1]; omega
        have e2 : ns[i]? = none := by simp; omega
        rw [e1, e2]; rfl
    subst hcl
    have := run_bytesToString (P := P) w a (ns.map (D.int .u8)).length c ns (by
      have := run_loadCells_list (P := P) w a (ns.map (Value.int .u8)) h5
      simpa using this)
    rw [this]
    congr 1
    have e : (ns.foldl (fun r n => r.push (UInt8.ofNat n.toNat)) ByteArray.empty) = ⟨(ns.map fun n => UInt8.ofNat n.toNat).toArray⟩ := by
      apply ByteArray.ext
      apply Array.ext'
      rw [fold_push]
      simp
    rw [e]
theorem qa_bytesStr {S T : Nat} {x : Operand} {ss st se : TR} {f : Nat -> SV} {ns : List Int} (hx : slotD h (opv f x) = some (.lst (ns.map (.int .u8)))) (hs : tget cx.T S = some ss) (ht : tget cx.T T = some st) (hsl : ss.isSl = true) (hst : st.isStr = true)
    (hse : tget cx.T ss.elem = some se) (hsk : se.kind = some .u8) :
    Qt cx h ⟨dst, .convert S T x, ty, pos, af, gd⟩ f (.d (.str (ns.map fun n => UInt8.ofNat n.toNat))) := by
  intro s₁ hs₁ σ a w hr K Q hK
  have h1 := rep_eval hr x
  rw [show opv s₁ x = opv f x from by cases x <;> first | rfl | exact hs₁ _ (by simp [Op.operands])] at h1
  have h2 := slotB_rep hr h1 hx
  obtain ⟨d1, _, hd1, _, _, _, _, q1, _⟩ := tr_facts (tget_ok cx.tab hs)
  have := q1 hsl
  subst this
  obtain ⟨d2, _, hd2, _, _, _, _, _, q2, _⟩ := tr_facts (tget_ok cx.tab ht)
  have := q2 hst
  subst this
  obtain ⟨d3, _, hd3, _, _, _, _, _, _, _, _, q3, _⟩ := tr_facts (tget_ok cx.tab hse)
  have := q3 _ hsk
  subst this
  have hrun := bytes_run (P := cx.P) h2
  have run : (execOp a.eval ⟨dst, .convert S T x, ty, pos, af, gd⟩).run cx.P w = .ok (.value (.string ⟨(ns.map fun n => UInt8.ofNat n.toNat).toArray⟩)) w := by
    have hc : (convert S T (a.eval x)).run cx.P w = .ok (.string ⟨(ns.map fun n => UInt8.ofNat n.toNat).toArray⟩) w := by
      unfold convert
      obtain ⟨ad, c, hval⟩ := slice_len h2
      rw [hval] at hrun ⊢
      cases ad <;> simp only [Sem.run_bind, run_underlying hd1, run_underlying hd2, run_underlying hd3, Result.andThen_ok, hrun]
    simp [execOp, hc]
  unfold Oper.wp
  rw [run]
  exact hK _ _ (Below.refl _ _) (RepD.str _ _ rfl)
end
def cellD (T : List (Nat × TR)) (h : Heap) (t : Nat) : SV -> Option D
  | .ref id off => match h.get id with
    | some (.box cells) => match tget T t with
      | some tr => match tr.agg with
        | true => match takeD (cells.drop off) tr.size with
          | some xs => some (.agg xs)
          | none => none
        | false => match cells[off]? with
          | some v => slotD h v
          | none => none
      | none => none
    | _ => none
  | _ => none
def resAllC (T : List (Nat × TR)) (s : Slots) (h : Heap) : List ResultVar -> Option (List D)
  | [] => some []
  | .tmp t :: l => match slotD h (lk s t) with
    | some x => match resAllC T s h l with
      | some xs => some (x :: xs)
      | none => none
    | none => none
  | .cell p t :: l => match cellD T h t (lk s p) with
    | some x => match resAllC T s h l with
      | some xs => some (x :: xs)
      | none => none
    | none => none
def resOfC (T : List (Nat × TR)) (s : Slots) (h : Heap) (l : List ResultVar) : Option D :=
  match resAllC T s h l with
  | some [x] => some x
  | some xs => some (.tup xs)
  | none => none
theorem cell_run {cx : Cx} {σ : Nat -> Loc} {f : Nat -> SV} {h : Heap} {a : Act} {w : World} (hr : RW cx σ f h a w) (hx0 : ∀ i b, ¬ cx.X0 i b) {v : Value} {sv : SV} {t : Nat} {x : D} (hv : RepSV σ h (okf cx σ h) w v sv) (hc : cellD cx.T h t sv = some x) :
    ∃ u, (do loadVar t (<- asAddr v) : Sem Value).run cx.P w = .ok u w /\ RepD (fun b => cx.ok0 b \/ cx.w0.heap.size <= b) w u x := by
  unfold cellD at hc
  split at hc
  . rename_i id off
    have hv' : v = .pointer (some ⟨(σ id).b, off, none⟩) := hv
    subst hv'
    split at hc
    . rename_i cells hg
      obtain ⟨p, hp, rfl, hp2⟩ := get_mem hg
      have hch := hr.heap.rep p hp
      rw [hp2] at hch
      split at hc
      . rename_i tr ht
        split at hc
        . rename_i ha
          split at hc
          . rename_i xs hx
            simp only [Option.some.injEq] at hc
            subst hc
            obtain ⟨cs, z1, z2⟩ := load_box (P := cx.P) (tget_ok cx.tab ht) ha hch hx
            exact ⟨.agg cs, by simp [asAddr, z1], z2.mono fun b h1 _ => ⟨h1.1.imp id (Nat.le_trans cx.nwle), rfl⟩⟩
          . cases hc
        . rename_i ha
          split at hc
          . rename_i sv' hsv
            obtain ⟨_, cs, T', c1, c2, c3⟩ := hch
            obtain ⟨d, i, hd, hi, e1, e2, _⟩ := tr_facts (tget_ok cx.tab ht)
            have hlt : off < cs.size := by
              rw [c2]
              rcases Nat.lt_or_ge off cells.length with hh | hh
              . exact hh
              . simp [hh] at hsv
            have hcs : cs[off]? = some cs[off] := Array.getElem?_eq_getElem hlt
            refine ⟨cs[off], ?_, slotD_rep hr hx0 (c3 off _ _ hcs hsv).1 hc⟩
            simp only [asAddr, Sem.run_bind, Sem.run_pure, Result.andThen_ok, loadVar, run_isAgg hd, e1, ha, Bool.false_eq_true, if_false, run_load, cell_at c1, hcs]
          . cases hc
      . cases hc
    . cases hc
  . cases hc
theorem resAllC_run {cx : Cx} {σ : Nat -> Loc} {s : Slots} {h : Heap} {a : Act} {w : World} (hr : RW cx σ (lk s) h a w) (hx0 : ∀ i b, ¬ cx.X0 i b) : ∀ (l : List ResultVar) (xs : List D), resAllC cx.T s h l = some xs ->
    ∃ vs : List Value, (l.mapM (fun | .tmp t => pure (a.tmps.getD t undef) | .cell p t => do loadVar t (<- asAddr (a.tmps.getD p undef)) : ResultVar -> Sem Value)).run cx.P w = .ok vs w /\
      vs.length = xs.length /\ ∀ (i : Nat) v x, vs[i]? = some v -> xs[i]? = some x -> RepD (fun b => cx.ok0 b \/ cx.w0.heap.size <= b) w v x
  | [], xs, hh => by
    simp only [resAllC, Option.some.injEq] at hh
    subst hh
    exact ⟨[], by simp [List.mapM_nil], rfl, by simp⟩
  | rv :: l, xs, hh => by
    have head : ∃ x ys, xs = x :: ys /\ resAllC cx.T s h l = some ys /\ ∃ u, ((match rv with | .tmp t => pure (a.tmps.getD t undef) | .cell p t => do loadVar t (<- asAddr (a.tmps.getD p undef)) : Sem Value)).run cx.P w = .ok u w /\ RepD (fun b => cx.ok0 b \/ cx.w0.heap.size <= b) w u x := by
      cases rv with
      | tmp t =>
        simp only [resAllC] at hh
        split at hh
        . rename_i x hx
          split at hh
          . rename_i ys hy
            simp only [Option.some.injEq] at hh
            subst hh
            exact ⟨x, ys, rfl, hy, _, rfl, slotD_rep hr hx0 (hr.slots t) hx⟩
          . cases hh
        . cases hh
      | cell p t =>
        simp only [resAllC] at hh
        split at hh
        . rename_i x hx
          split at hh
          . rename_i ys hy
            simp only [Option.some.injEq] at hh
            subst hh
            obtain ⟨u, u1, u2⟩ := cell_run hr hx0 (hr.slots p) hx
            exact ⟨x, ys, rfl, hy, u, u1, u2⟩
          . cases hh
        . cases hh
    obtain ⟨x, ys, rfl, hy, u, u1, u2⟩ := head
    obtain ⟨vs, h1, h2, h3⟩ := resAllC_run hr hx0 l ys hy
    refine ⟨u :: vs, ?_, by simp [h2], fun i v x' hv hx' => ?_⟩
    . rw [List.mapM_cons, Sem.run_bind]
      refine (congrArg (fun r => Result.andThen r _) u1).trans ?_
      simp only [Result.andThen_ok, Sem.run_bind, h1, Sem.run_pure]
    . cases i with
      | zero => simp only [List.getElem?_cons_zero, Option.some.injEq] at hv hx'; subst hv hx'; exact u2
      | succ i => exact h3 i v x' (by simpa using hv) (by simpa using hx')
theorem resOfC_run {cx : Cx} {σ : Nat -> Loc} {s : Slots} {h : Heap} {a : Act} {w : World} (hr : RW cx σ (lk s) h a w) (hx0 : ∀ i b, ¬ cx.X0 i b) {fn : Func} {x : D} (hh : resOfC cx.T s h fn.results.toList = some x) :
    ∃ v, (results fn a.tmps).run cx.P w = .ok v w /\ RepD (fun b => cx.ok0 b \/ cx.w0.heap.size <= b) w v x := by
  unfold resOfC at hh
  have key : ∀ xs, resAllC cx.T s h fn.results.toList = some xs -> ∃ vs : List Value, (results fn a.tmps).run cx.P w = .ok (if h : vs.length = 1 then vs[0] else .tuple vs.toArray) w /\
      vs.length = xs.length /\ ∀ (i : Nat) v x, vs[i]? = some v -> xs[i]? = some x -> RepD (fun b => cx.ok0 b \/ cx.w0.heap.size <= b) w v x := fun xs hx => by
    obtain ⟨vs, h1, h2, h3⟩ := resAllC_run hr hx0 _ _ hx
    refine ⟨vs, ?_, h2, h3⟩
    unfold results
    rw [Array.mapM_eq_mapM_toList, Sem.run_bind, Sem.run_map]
    refine (congrArg (fun r => Result.andThen (Result.andThen r _) _) h1).trans ?_
    simp
  split at hh
  . rename_i y hy
    simp only [Option.some.injEq] at hh
    subst hh
    obtain ⟨vs, h1, h2, h3⟩ := key _ hy
    match vs, h2 with
    | [v], _ => exact ⟨v, by simpa using h1, h3 0 v y rfl rfl⟩
  . rename_i ys hne hy
    simp only [Option.some.injEq] at hh
    subst hh
    obtain ⟨vs, h1, h2, h3⟩ := key _ hy
    have hl : vs.length ≠ 1 := fun e => by
      rw [h2] at e
      obtain ⟨y, rfl⟩ := List.length_eq_one_iff.1 e
      exact hne y rfl
    rw [dif_neg hl] at h1
    exact ⟨_, h1, .tup _ _ (by simpa using h2) fun i v x hv hx => h3 i v x (by simpa using hv) hx⟩
  . cases hh
theorem ac_introC {P : Program} {T : List (Nat × TR)} {f : Nat} {fn : Func} {c : Code} {xs : List D} {r : D} (tab : tabOk P T = true) (nt : Nat) (hf : P.funcs[f]? = some fn) (hb : fn.body = some c)
    (hname : (fn.name == "runtime.NumGoroutine") = false) (hnt : fn.ntmps = nt) (hle : Nat.ble xs.length nt = true) (hsm : Nat.ble nt 10000 = true)
    (hw : ∀ (w0 : World) (ok0 : Nat -> Prop) (he0 : EnvAt P w0), awp ⟨P, T, tab, w0, ok0, fun _ _ => False, fun _ => False, nt, fun _ => ⟨0, 0, true, []⟩, hsm, w0.heap.size, Nat.le_refl _, he0, envX_none⟩ c (args0 0 xs) [] (fun e s h => (e = .normal \/ e = .ret) /\ resOfC T s h fn.results.toList = some r)) : AC P f xs r := by
  refine ⟨⟨fn, hf, by simp [hb], hname⟩, fun w ok vs henv hok hvs => ?_⟩
  have hle' := Nat.le_of_ble_eq_true hle
  refine calls_of_wp hf hb (wp_mono (hw w ok henv _ w ⟨fun _ => ⟨0, 0, true, []⟩, ⟨rfl, rfl, rfl, Nat.le_refl _, fun _ _ _ => rfl⟩, rfl, ?_, ⟨by simp, by simp, by simp, by simp, by simp, by simp⟩, ?_⟩) ?_)
  . simp only [Array.size_append, Array.size_replicate, hvs.1, hnt]
    omega
  . refine args0_rep (vs := []) xs 0 _ fun i x hx => ?_
    have hi : i < xs.length := by
      rcases Nat.lt_or_ge i xs.length with hh | hh
      . exact hh
      . simp [hh] at hx
    have hiv : i < vs.size := by rw [hvs.1]; exact hi
    have hget : vs[i]? = some vs[i] := Array.getElem?_eq_getElem hiv
    have := hvs.2 i _ x hget hx
    rw [Nat.zero_add, Array.getD_eq_getD_getElem?, Array.getElem?_append_left hiv, hget]
    exact this.mono fun b h1 _ => ⟨⟨.inl h1, by simp⟩, rfl⟩
  . rintro e a' w' ⟨s', h', ⟨he, hres⟩, σ, hr⟩
    obtain ⟨v, h1, h2⟩ := resOfC_run (fn := fn) hr (fun i b hb => by unfold Cx.X0 at hb; split at hb <;> exact hb) hres
    have hB : Below w.heap.size w w' := ⟨hr.evo.os, hr.evo.tape, hr.evo.output, hr.evo.size, fun k hk => hr.evo.block k hk (fun i hb => by unfold Cx.X0 at hb; split at hb <;> exact hb)⟩
    rcases he with rfl | rfl
    . exact ⟨hr.defers, v, h1, v, rfl, h2, hB⟩
    . exact ⟨hr.defers, v, h1, v, rfl, h2, hB⟩
theorem ret_okC {T : List (Nat × TR)} {s : Slots} {h : Heap} {e : Exit} {l : List ResultVar} {r r' : D} (he : e = .normal \/ e = .ret) (h1 : resOfC T s h l = some r') (h2 : r' = r) : (e = .normal \/ e = .ret) /\ resOfC T s h l = some r := ⟨he, by rw [h1, h2]⟩
section
variable {cx : Cx} {s : Slots} {h : Heap} {dst : Option Nat} {t ty : Nat} {pos : String} {af : Array Edge} {gd : Option (Nat × Bool)}
theorem wo_alloc {T : Nat} {tr : TR} (ht : tget cx.T T = some tr) (hd : Nat.blt t cx.nt = true) :
    OpTo cx ⟨some t, .alloc T, ty, pos, af, none⟩ s h ((t, .ref t 0) :: killS t s) ((t, .box (tr.zero.map .d)) :: killH t h) := op_alloc ht hd
theorem wo_box {T : Nat} {x : Operand} {y : D} (hx : opv (lk s) x = .d y) (hd : Nat.blt t cx.nt = true) (hel : y.el = true) :
    OpTo cx ⟨some t, .box T x, ty, pos, af, none⟩ s h ((t, .ref t 0) :: killS t s) ((t, .box (y.cells.map .d)) :: killH t h) := op_box hx hd hel
theorem wo_store {T : Nat} {tr : TR} {x y : Operand} {id off : Nat} {cells : List SV} {sv : SV} (hx : opv (lk s) x = .ref id off) (hg : h.get id = some (.box cells)) (hy : plainS (opv (lk s) y) = some sv) (ht : tget cx.T T = some tr)
    (hsz : tr.size = 1) (hone : svOne h sv = true) (hoff : Nat.blt off cells.length = true) :
    OpTo cx ⟨none, .store T x y, ty, pos, af, none⟩ s h s (setH id (.box (cells.set off sv)) h) := op_store ht hx hg (plainS_eq hy).symm hsz hone hoff
theorem wo_storeAgg {T : Nat} {tr : TR} {x y : Operand} {id off : Nat} {cells : List SV} {ys : List D} (hx : opv (lk s) x = .ref id off) (hg : h.get id = some (.box cells)) (hy : opv (lk s) y = .d (.agg ys)) (ht : tget cx.T T = some tr)
    (hsz : Nat.beq ys.length tr.size = true) (hoff : Nat.ble (off + ys.length) cells.length = true) :
    OpTo cx ⟨none, .store T x y, ty, pos, af, none⟩ s h s (setH id (.box (putD cells off ys)) h) := op_storeAgg ht hx hg hy hsz hoff
theorem wo_storeElt {T : Nat} {x y : Operand} {tr : TR} {id i e sz : Nat} {xs : List D} {u : D} (hx : opv (lk s) x = .elt id i) (hg : h.get id = some (.arr e sz xs)) (hy : opv (lk s) y = .d u) (ht : tget cx.T T = some tr)
    (hel : u.el = true) (hw1 : u.width = sz) (hw2 : Nat.beq sz tr.size = true) (hi : i < xs.length) :
    OpTo cx ⟨none, .store T x y, ty, pos, af, none⟩ s h s (setH id (.arr e sz (xs.set i u)) h) := op_storeElt hx hg hy ht hel hw1 hw2 hi
theorem wo_make {T : Nat} {x y : Operand} {ts te : TR} {k k' : IntKind} {n : Int} (hx : opv (lk s) x = .d (.int k n)) (hy : opv (lk s) y = .d (.int k' n)) (ht : tget cx.T T = some ts) (hsl : ts.isSl = true) (hte : tget cx.T ts.elem = some te)
    (hd : Nat.blt t cx.nt = true) (hz1 : (te.agg || Nat.beq te.zero.length 1) = true) (hz2 : Nat.beq te.zero.length te.size = true) (hz3 : Nat.ble 1 te.size = true) (hby : Nat.ble te.bytes 64 = true) (h0 : 0 <= n) (hb : n <= 1099511627776) :
    OpTo cx ⟨some t, .makeSlice T x y, ty, pos, af, none⟩ s h ((t, .own t) :: killS t s) ((t, .arr ts.elem te.size (List.replicate n.toNat (zeroEl te))) :: killH t h) :=
  op_make ht hsl hte hx hy hd hz1 hz2 hz3 h0 (by
    have h1 : (te.bytes : Int) <= 64 := by exact_mod_cast Nat.le_of_ble_eq_true hby
    have h2 : (te.bytes : Int) * n <= 64 * n := Int.mul_le_mul_of_nonneg_right h1 h0
    omega) (by omega)
theorem wo_lit {T n : Nat} {parts : Array (Nat × Operand)} {ts te : TR} {ys : List D} (hl : litD (opv (lk s)) 0 parts.toList = some ys) (ht : tget cx.T T = some ts) (hsl : ts.isSl = true) (hte : tget cx.T ts.elem = some te)
    (hd : Nat.blt t cx.nt = true) (hn : Nat.beq ys.length n = true) (hel : elsOk te.size ys = true)
    (hz1 : (te.agg || Nat.beq te.zero.length 1) = true) (hz2 : Nat.beq te.zero.length te.size = true) (hz3 : Nat.ble 1 te.size = true) (hlim : Nat.ble (n * te.size) 16777216 = true) :
    OpTo cx ⟨some t, .buildSlice T n parts, ty, pos, af, none⟩ s h ((t, .own t) :: killS t s) ((t, .arr ts.elem te.size ys) :: killH t h) := op_lit ht hsl hte hl hd hn hel hz1 hz2 hz3 hlim
theorem wo_append {T rt : Nat} {x y : Operand} {ts te : TR} {id e sz : Nat} {xs ys : List D} (hx : opv (lk s) x = .own id) (hg : h.get id = some (.arr e sz xs)) (hy : srcOf h id (opv (lk s) y) = some ys)
    (ht : tget cx.T T = some ts) (hsl : ts.isSl = true) (hel : Nat.beq ts.elem e = true) (hte : tget cx.T e = some te) (hd : Nat.blt t cx.nt = true) (hid : isAnc id = false)
    (hsz : Nat.beq sz te.size = true) (hz1 : (te.agg || Nat.beq te.zero.length 1) = true) (hz2 : Nat.beq te.zero.length te.size = true) (hz3 : Nat.ble 1 te.size = true) (hby : Nat.ble te.bytes 64 = true)
    (hw : elsOk te.size ys = true) (hb : xs.length + ys.length <= 1099511627776) :
    OpTo cx ⟨some t, .call { callee := .builtin .append, args := #[x, y], argTypes := #[T, T] }, rt, pos, af, none⟩ s h ((t, .own id) :: killS id s) ((id, .arr e sz (xs ++ ys)) :: killH id h) :=
  op_append hx hg hy ht hsl hel hte hd hid hsz hz1 hz2 hz3 (elsOk_all hw) (by
    have h1 := Nat.le_of_ble_eq_true hby
    have h2 : (xs.length + ys.length) * te.bytes <= (xs.length + ys.length) * 64 := Nat.mul_le_mul_left _ h1
    omega) (by omega)
theorem wa_bytesStr {S T : Nat} {x : Operand} {ss st se : TR} {f : Nat -> SV} {ns : List Int} (hx : slotD h (opv f x) = some (.lst (ns.map (.int .u8)))) (hs : tget cx.T S = some ss) (hsl : ss.isSl = true) (ht : tget cx.T T = some st) (hst : st.isStr = true)
    (hse : tget cx.T ss.elem = some se) (hsk : se.kind = some .u8) :
    Qt cx h ⟨dst, .convert S T x, ty, pos, af, gd⟩ f (.d (.str (ns.map fun n => UInt8.ofNat n.toNat))) := qa_bytesStr hx hs ht hsl hst hse hsk
theorem wa_lit {T n : Nat} {parts : Array (Nat × Operand)} {ts te : TR} {f : Nat -> SV} {ys : List D} (hl : litD (opv f) 0 parts.toList = some ys) (ht : tget cx.T T = some ts) (hsl : ts.isSl = true) (hte : tget cx.T ts.elem = some te)
    (hn : Nat.beq ys.length n = true) (hel : elsOk te.size ys = true)
    (hz1 : (te.agg || Nat.beq te.zero.length 1) = true) (hz2 : Nat.beq te.zero.length te.size = true) (hz3 : Nat.ble 1 te.size = true) (hlim : Nat.ble (n * te.size) 16777216 = true) :
    Qt cx h ⟨dst, .buildSlice T n parts, ty, pos, af, gd⟩ f (.d (.lst ys)) := qa_lit ht hsl hte hl hn hel hz1 hz2 hz3 hlim
theorem wa_indexOwn {T : Nat} {x i : Operand} {ts te : TR} {f : Nat -> SV} {id e sz : Nat} {xs : List D} {k : IntKind} {n : Int} (hx : opv f x = .own id) (hi : opv f i = .d (.int k n)) (hg : h.get id = some (.arr e sz xs))
    (ht : tget cx.T T = some ts) (hsl : ts.isSl = true) (hte : tget cx.T ts.elem = some te) (hsz : Nat.beq sz te.size = true) (h0 : 0 <= n) (hlt : n < xs.length) :
    Qt cx h ⟨dst, .indexAddr T x i, ty, pos, af, gd⟩ f (.elt id n.toNat) := qa_indexOwn hx hi hg h0 hlt ht hsl hte hsz
theorem wa_loadElt {T : Nat} {x : Operand} {tr : TR} {f : Nat -> SV} {id i e sz : Nat} {xs : List D} {y : D} (hx : opv f x = .elt id i) (hg : h.get id = some (.arr e sz xs)) (ht : tget cx.T T = some tr) (ha : tr.agg = false) (hy : xs[i]? = some y) (ho : y.one = true) :
    Qt cx h ⟨dst, .load T x, ty, pos, af, gd⟩ f (.d y) := qa_loadElt hx hg hy ht (.inl ⟨ha, ho⟩)
theorem wa_index {T : Nat} {x i : Operand} {tr te : TR} {f : Nat -> SV} {xs : List D} {k : IntKind} {n : Int} {y : D} (hx : opv f x = .d (.lst xs)) (hi : opv f i = .d (.int k n))
    (ht : tget cx.T T = some tr) (hsl : tr.isSl = true) (hte : tget cx.T tr.elem = some te) (h0 : 0 <= n) (hy : xs[n.toNat]? = some y) (hel : y.el = true) (hw : y.width = te.size) :
    Qt cx h ⟨dst, .indexAddr T x i, ty, pos, af, gd⟩ f (.d (.ptr y)) := qa_index hx hi h0 hy ht hsl hte hel hw
end
end Go.Proofs.YtckpadnjldebaaaGreat
namespace Go.Proofs.YtckpadnjldebaaaGreat
open Go
open Go.RowKit (Below)
set_option linter.unusedVariables false
set_option linter.unusedSimpArgs false
section
variable {H : Type} {enc : TypeId × Value -> H} {P : Program} {w : World}
def Reads (enc : TypeId × Value -> H) (P : Program) (w : World) (t : Nat) (Q : List Value -> Prop) : Prop :=
  ∀ (fuel : Nat) (cs : List Value) x, DataW.trod enc P w 0 (fun _ => true) true fuel t cs = some x -> Q cs
def old (w : World) (b : Nat) : Prop := b < w.heap.size
theorem reads_int {t : Nat} {k : IntKind} (ht : P.underlying t = some (.int k)) : Reads enc P w t fun cs => ∃ n, cs = [.int k n] /\ k.min <= n /\ n <= k.max := by
  intro fuel cs x h
  obtain ⟨n, h1, _, hw⟩ := DataW.trod_int ht h
  refine ⟨n, h1, ?_⟩
  simpa [Lit.wf] using hw
theorem cells?_spec {a : Addr} {n : Nat} {cs : List Value} (h : w.cells? 0 a n = some cs) : cs.length = n /\ ∀ (j : Nat), j < n -> w.cell? (a.add j) = cs[j]? := by
  unfold World.cells? at h
  rw [if_pos (Nat.zero_le _)] at h
  refine ⟨by simpa using mapM_some_length h, fun j hj => ?_⟩
  exact mapM_some_get h j j (by simp [hj])
theorem lists_of {α β : Type} (p : Nat -> α -> β -> Prop) : ∀ n : Nat, (∀ i, i < n -> ∃ a b, p i a b) -> ∃ (as : List α) (bs : List β), as.length = n /\ bs.length = n /\ ∀ (i : Nat) a b, as[i]? = some a -> bs[i]? = some b -> p i a b
  | 0, _ => ⟨[], [], rfl, rfl, by simp⟩
  | n + 1, h => by
    obtain ⟨as, bs, h1, h2, h3⟩ := lists_of p n fun i hi => h i (by omega)
    obtain ⟨a, b, hab⟩ := h n (by omega)
    refine ⟨as ++ [a], bs ++ [b], by simp [h1], by simp [h2], fun i a' b' ha hb => ?_⟩
    by_cases hi : i < n
    . rw [List.getElem?_append_left (by omega)] at ha hb
      exact h3 i a' b' ha hb
    . by_cases hi2 : i = n
      . subst hi2
        rw [List.getElem?_append_right (by omega)] at ha hb
        simp [h1, h2] at ha hb
        subst ha hb
        exact hab
      . rw [List.getElem?_append_right (by omega)] at ha
        have : i - as.length ≠ 0 := by omega
        simp [this] at ha
theorem reads_slice {α : Type} (conv : α -> D) (inv : α -> Prop) {t e sz : Nat} (ht : P.underlying t = some (.slice e)) (hsz : P.cellsOf e = sz) (h1 : 1 <= sz)
    (hE : Reads enc P w e fun cs => ∃ a, inv a /\ ∃ u : Value, u.cells.toList = cs /\ RepD (old w) w u (conv a)) :
    Reads enc P w t fun cs => ∃ as : List α, (∀ a ∈ as, inv a) /\ as.length <= 9223372036854775807 /\ ∃ v, cs = [v] /\ v.cells = #[v] /\ RepD (old w) w v (.lst (as.map conv)) := by
  intro fuel cs x h
  rcases DataW.trod_slice ht h with ⟨rfl, _⟩ | ⟨a, len, cap, elems, rest, n, _, rfl, rfl, hb, hl, hm, hlen, hel, hsp, hns⟩
  . exact ⟨[], by simp, by simp, _, rfl, rfl, .nil0⟩
  . by_cases h0 : len = 0
    . subst h0
      exact ⟨[], by simp, by simp, _, rfl, rfl, .emp a cap⟩
    . have each : ∀ i, i < len -> ∃ (α' : α) (u : Value), inv α' /\ RepD (old w) w u (conv α') /\ u.cells.size = sz /\ ∀ j, j < sz -> w.cell? (a.add (i * sz + j)) = u.cells[j]? := fun i hi => by
        have h2 := hel i hi
        rw [List.getElem?_eq_getElem (by omega)] at h2
        rw [Option.bind_eq_some_iff] at h2
        obtain ⟨cs, h3, h4⟩ := h2
        obtain ⟨q, hq, u, hu1, hu2⟩ := hE n cs _ h4
        obtain ⟨h5, h6⟩ := cells?_spec h3
        rw [hsz] at h5 h6
        refine ⟨q, u, hq, hu2, by rw [<- Array.length_toList, hu1, h5], fun j hj => ?_⟩
        have h7 := h6 j hj
        rw [<- hu1] at h7
        have hadd : (a.add (i * sz)).add j = a.add (i * sz + j) \/ w.cell? ((a.add (i * sz)).add j) = w.cell? (a.add (i * sz + j)) := by
          left
          unfold Addr.add
          by_cases e1 : i * sz = 0 <;> by_cases e2 : j = 0 <;> simp [e1, e2] <;> omega
        rcases hadd with e | e
        . rw [<- e, h7]; simp
        . rw [<- e, h7]; simp
      obtain ⟨as, us, l1, l2, l3⟩ := lists_of _ len each
      obtain ⟨q0, u0, _, _, hs0, hc0⟩ := each 0 (by omega)
      have hfirst := hc0 0 (by omega)
      rw [Nat.zero_mul, Nat.zero_add] at hfirst
      have ha0 : a.add 0 = a := by unfold Addr.add; simp
      rw [ha0, Array.getElem?_eq_getElem (by omega)] at hfirst
      have hblk : ∃ cells e' fr, w.heap[a.block]? = some (.cells cells e' fr) /\ a.spot = none := by
        unfold World.cell? at hfirst
        split at hfirst
        . rename_i c e' fr hh
          refine ⟨c, e', fr, hh, ?_⟩
          cases hsp' : a.spot with
          | none => rfl
          | some _ => rw [hsp'] at hfirst; simp at hfirst
        . cases hfirst
      obtain ⟨cells, e', fr, hh, hspot⟩ := hblk
      have haddr : a = ⟨a.block, a.off, none⟩ := by cases a; simp at hspot; subst hspot; rfl
      have hlt : a.block < w.heap.size := by
        rcases Nat.lt_or_ge a.block w.heap.size with h' | h'
        . exact h'
        . simp [Array.getElem?_eq_none h'] at hh
      refine ⟨as, fun q hq => ?_, by simp only [maxLen] at hm; omega, _, rfl, rfl, ?_⟩
      . obtain ⟨i, hi⟩ := List.getElem?_of_mem hq
        have hil : i < len := by
          rcases Nat.lt_or_ge i as.length with h' | h'
          . omega
          . simp [h'] at hi
        exact (l3 i q us[i] hi (List.getElem?_eq_getElem (by omega))).1
      . rw [haddr]
        refine .lst a.block a.off cap len cells e' fr _ us sz hlt hh (by simp [l1, l2]) (by simp [l1]) hl (by simp only [maxLen] at hm; omega) (fun i v x hv hx => ?_) fun i v hv => ?_
        . rw [List.getElem?_map, Option.map_eq_some_iff] at hx
          obtain ⟨q, hq, rfl⟩ := hx
          exact (l3 i q v hq hv).2.1
        . have hil : i < len := by
            rcases Nat.lt_or_ge i us.length with h' | h'
            . omega
            . simp [h'] at hv
          obtain ⟨_, _, g1, g2⟩ := l3 i as[i] v (List.getElem?_eq_getElem (by omega)) hv
          refine ⟨g1, fun j hj => ?_⟩
          have := g2 j hj
          rw [haddr, add_block, cell_at hh] at this
          rw [<- this]
          congr 1
          omega
theorem reads_ints {t e : Nat} {k : IntKind} (ht : P.underlying t = some (.slice e)) (he : P.underlying e = some (.int k)) (hc : P.cellsOf e = 1) :
    Reads enc P w t fun cs => ∃ ns : List Int, (∀ n ∈ ns, k.min <= n /\ n <= k.max) /\ ns.length <= 9223372036854775807 /\ ∃ v, cs = [v] /\ v.cells = #[v] /\ RepD (old w) w v (.lst (ns.map (.int k))) :=
  reads_slice (.int k) (fun n => k.min <= n /\ n <= k.max) ht hc (Nat.le_refl _) fun fuel cs x h => by
    obtain ⟨n, rfl, hn⟩ := reads_int he fuel cs x h
    exact ⟨n, hn, .int k n, rfl, .int k n⟩
def ints (ns : List Int) : D := .lst (ns.map (.int .i64))
def rows (nss : List (List Int)) : D := .lst (nss.map ints)
def I64 (n : Int) : Prop := -9223372036854775808 <= n /\ n <= 9223372036854775807
theorem one_cell {t : Nat} {d : TypeDesc} {v c : Value} {W : World} {base : Nat} (ht : P.underlying t = some d) (hd : isAggD d = false) (hok : Value.okWide P W .any base t v) (hc : v.cells.toList = [c]) : v = c := by
  unfold Value.okWide at hok
  rw [ht] at hok
  cases v with
  | agg cs =>
    exfalso
    have h2 : Cell.okWide P W .any base t (.agg cs) := by cases d <;> first | exact hok | (simp [isAggD] at hd)
    unfold Cell.okWide at h2
    rw [ht] at h2
    cases d <;> simp [Cell.ok, ht] at h2 <;> simp [isAggD] at hd
  | _ => simpa [Value.cells] using hc
theorem trodAll_stays (hlaid : laidOutB P = true) {W W' : World} (hb : Below W.heap.size W W') : ∀ (ts : List TypeId) (vs : List Value) (ds : List (DataW H)) (ps : List MemPlace), (∀ t ∈ ts, P.readableRec t = true /\ t < P.types.size) -> (∀ p ∈ ps, p.block < W.heap.size) ->
    DataW.TrodAll enc P W 0 (fun _ => true) true ts vs ds ps -> DataW.TrodAll enc P W' 0 (fun b => decide (b < W.heap.size)) true ts vs ds ps
  | [], vs, ds, ps, _, _, h => by
    cases vs <;> cases ds <;> simp_all [DataW.TrodAll]
  | t :: ts, vs, ds, ps, ht, hp, h => by
    obtain ⟨v, vs', d, ds', p, q, rfl, rfl, rfl, h1, h2⟩ := ChangeShapes.trodAll_cons h
    refine ⟨p, q, RowKit.Below.trod hlaid (ht t (List.mem_cons_self ..)).1 (ht t (List.mem_cons_self ..)).2 h1 hb (fun x hx => hp x (List.mem_append_left _ hx)), ?_, rfl⟩
    exact trodAll_stays hlaid hb ts vs' ds' q (fun t' h' => ht t' (List.mem_cons_of_mem _ h')) (fun x hx => hp x (List.mem_append_right _ hx)) h2
def parOk (P : Program) (ts : List Nat) : Bool := ts.all fun t => P.readableRec t && decide (t < P.types.size)
theorem parOk_all {P : Program} {ts : List Nat} (h : parOk P ts = true) : ∀ t ∈ ts, P.readableRec t = true /\ t < P.types.size := fun t ht => by
  have := List.all_eq_true.1 h t ht
  simpa using this
theorem law_post {fn : Func} {s : ChangeSpec} {apart fresh handsOn : Bool} {W W' : World} {args : Array Value} {ds gs : List (DataW H)} {before : List MemPlace} {tb : Nat} (hlaid : laidOutB P = true) (hpar : parOk P fn.params.toList = true)
    (hvars : s.vars = []) (hW : DataW.Whole enc P fn.params.toList s.vars apart W args.toList ds gs before) (hb : Below W.heap.size W W') (hres : fn.resultTypes = #[tb]) (htb : P.underlying tb = some .bool)
    (hs : (s.fn H (ds ++ gs)).results = [.lit (.bool true)] /\ (s.fn H (ds ++ gs)).args = ds /\ (s.fn H (ds ++ gs)).vars = []) : s.post enc P fn apart fresh handsOn false W args (.bool true) W' := by
  have hlt := hW.lt
  obtain ⟨p, q, hA, hV, rfl, hz, hn⟩ := id hW
  rw [hvars] at hV
  obtain ⟨rfl, rfl⟩ := ChangeShapes.trodVars_none hV
  refine ⟨ds, [], p ++ [], [], p, [], hW, ?_, ?_, ?_, ?_, fun h => by cases h⟩
  . rw [hs.1, hres]
    exact ChangeShapes.trodAll_mk1 (RowKit.shut_bool htb _)
  . rw [hs.2.1]
    exact trodAll_stays hlaid hb _ _ _ _ (parOk_all hpar) (fun x hx => hlt x (List.mem_append_left _ hx)) hA
  . rw [hs.2.2, hvars]
    rfl
  . exact World.keptBut_mono (fun x hx => ⟨by simpa using hx, .inr (.inl (by simpa using hx))⟩) (hb.frame (· ∈ p ++ []))
end
def IntsOk (ns : List Int) : Prop := (∀ n ∈ ns, I64 n) /\ ns.length <= 9223372036854775807
def RowsOk (nss : List (List Int)) : Prop := (∀ ns ∈ nss, IntsOk ns) /\ nss.length <= 9223372036854775807
section
variable {H : Type} {enc : TypeId × Value -> H} {P : Program} {W : World} {base : Nat} {v : Value} {d : DataW H} {p : List MemPlace}
def CellsRep (W : World) (cs : List Value) (xs : List D) : Prop := cs.length = xs.length /\ (∀ x ∈ xs, x.one = true) /\ ∀ (i : Nat) v x, cs[i]? = some v -> xs[i]? = some x -> RepD (old W) W v x
theorem CellsRep.nil : CellsRep W [] [] := ⟨rfl, by simp, by simp⟩
theorem CellsRep.cons {c : Value} {cs : List Value} {x : D} {xs : List D} (h1 : RepD (old W) W c x) (hx : x.one = true) (h2 : CellsRep W cs xs) : CellsRep W (c :: cs) (x :: xs) := by
  obtain ⟨a, b, g⟩ := h2
  refine ⟨by simp [a], fun y hy => ?_, fun i v y hv hy => ?_⟩
  . rcases List.mem_cons.1 hy with rfl | hy
    . exact hx
    . exact b y hy
  . cases i with
    | zero => simp at hv hy; subst hv hy; exact h1
    | succ i => exact g i v y (by simpa using hv) (by simpa using hy)
theorem CellsRep.append {cs cs' : List Value} {xs xs' : List D} (h1 : CellsRep W cs xs) (h2 : CellsRep W cs' xs') : CellsRep W (cs ++ cs') (xs ++ xs') := by
  obtain ⟨a1, b1, g1⟩ := h1
  obtain ⟨a2, b2, g2⟩ := h2
  refine ⟨by simp [a1, a2], fun y hy => ?_, fun i v y hv hy => ?_⟩
  . rcases List.mem_append.1 hy with hy | hy
    . exact b1 y hy
    . exact b2 y hy
  . rw [List.getElem?_append] at hv hy
    rw [a1] at hv
    split at hv
    . rename_i hl; rw [if_pos hl] at hy; exact g1 i v y hv hy
    . rename_i hl; rw [if_neg hl] at hy; exact g2 _ v y hv hy
theorem CellsRep.agg {cs : Array Value} {xs : List D} (h : CellsRep W cs.toList xs) : RepD (old W) W (.agg cs) (.agg xs) :=
  .agg cs xs (by simpa using h.1) h.2.1 fun i v x hv hx => h.2.2 i v x (by simpa using hv) hx
end
end Go.Proofs.YtckpadnjldebaaaGreat
