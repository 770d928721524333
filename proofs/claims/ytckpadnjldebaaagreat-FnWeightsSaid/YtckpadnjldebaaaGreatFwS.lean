/- Maps whose keys are integers: made, asked, written. No condition. -/
import Derived.Test.YtckpadnjldebaaaGreatFwP
namespace Go.Proofs.YtckpadnjldebaaaGreat
open Go
open Go.RowKit (Below)
set_option linter.unusedVariables false
set_option linter.unusedSimpArgs false
def keysI (k : IntKind) : List (D × D) -> Bool
  | [] => true
  | p :: l => match p.1 with
    | .int k' _ => sameK k' k && keysI k l
    | _ => false
def mget (n : Int) : List (D × D) -> Option D
  | [] => none
  | p :: l => match p.1 with
    | .int _ m => if n = m then some p.2 else mget n l
    | _ => mget n l
def mput (k : IntKind) (n : Int) (v : D) : List (D × D) -> List (D × D)
  | [] => [(.int k n, v)]
  | p :: l => match p.1 with
    | .int _ m => if n = m then (.int k n, v) :: l else p :: mput k n v l
    | _ => p :: mput k n v l
theorem find_now {ok : Nat -> Prop} {w : World} {kd : IntKind} (n : Int) : ∀ {es : List MapEntry} {kvs : List (D × D)}, es.length = kvs.length ->
    (∀ (i : Nat) e kv, es[i]? = some e -> kvs[i]? = some kv -> RepD ok w e.key kv.1 /\ RepD ok w e.val kv.2) -> keysI kd kvs = true -> ∀ i0,
    (mget n kvs = none /\ Instr.findNow (.int kd) (.int kd n) es i0 = some none /\ ∀ v, mput kd n v kvs = kvs ++ [(.int kd n, v)]) \/
    (∃ j e u, es[j]? = some e /\ kvs[j]? = some (.int kd n, u) /\ e.key = .int kd n /\ mget n kvs = some u /\ Instr.findNow (.int kd) (.int kd n) es i0 = some (some (i0 + j, e.val)) /\ ∀ v, mput kd n v kvs = kvs.set j (.int kd n, v))
  | [], [], _, _, _, i0 => .inl ⟨rfl, rfl, fun _ => rfl⟩
  | [], _ :: _, hl, _, _, _ => by simp at hl
  | _ :: _, [], hl, _, _, _ => by simp at hl
  | e :: es, p :: kvs, hl, hr, hk, i0 => by
    obtain ⟨x, u⟩ := p
    simp only [keysI] at hk
    split at hk
    . rename_i k' m
      simp only [Bool.and_eq_true] at hk
      have hkk := sameK_eq hk.1
      subst hkk
      have h0 := hr 0 e (.int k' m, u) rfl rfl
      have hkey := RepD.int_inv h0.1
      by_cases hnm : n = m
      . subst hnm
        refine .inr ⟨0, e, u, rfl, rfl, hkey, by simp [mget], by simp [Instr.findNow, hkey, Instr.sameNow], fun v => by simp [mput]⟩
      . have hb : (n == m) = false := by simp [hnm]
        rcases find_now n (es := es) (kvs := kvs) (by simpa using hl) (fun i e' kv h1 h2 => hr (i + 1) e' kv (by simpa using h1) (by simpa using h2)) hk.2 (i0 + 1) with ⟨h1, h2, h3⟩ | ⟨j, e', u', h1, h2, h3, h4, h5, h6⟩
        . refine .inl ⟨by simp [mget, hnm, h1], by simp [Instr.findNow, hkey, Instr.sameNow, hb, h2], fun v => by simp [mput, hnm, h3]⟩
        . refine .inr ⟨j + 1, e', u', by simpa using h1, by simpa using h2, h3, by simp [mget, hnm, h4], by simp [Instr.findNow, hkey, Instr.sameNow, hb, h5]; omega, fun v => by simp [mput, hnm, h6]⟩
    . cases hk
def mapOf (h : Heap) : SV -> Option (List (D × D))
  | .own id => match h.get id with
    | some (.map kvs) => some kvs
    | _ => none
  | .d (.map kvs) => some kvs
  | _ => none
theorem mapOf_rep {σ : Nat -> Loc} {h : Heap} {ok : Nat -> Prop} {w : World} {v : Value} {x : SV} {kvs : List (D × D)} (hh : ∀ p ∈ h, RepChunk σ h ok w (σ p.1) p.2) (hv : RepSV σ h ok w v x) (hm : mapOf h x = some kvs) :
    ∃ (b : Nat) (es : Array MapEntry) (clock : Nat), v = .map (some b) /\ w.heap[b]? = some (.map es clock) /\ es.size = kvs.length /\ ∀ (i : Nat) e kv, es[i]? = some e -> kvs[i]? = some kv -> RepD ok w e.key kv.1 /\ RepD ok w e.val kv.2 := by
  unfold mapOf at hm
  split at hm
  . rename_i id
    split at hm
    . rename_i kvs' hg
      cases hm
      simp only [RepSV, hg] at hv
      obtain ⟨p, hp, rfl, hp2⟩ := get_mem hg
      have hc := hh p hp
      rw [hp2] at hc
      obtain ⟨es, clock, h1, h2, h3⟩ := hc
      exact ⟨_, es, clock, hv, h1, h2, h3⟩
    . cases hm
  . cases hm
    cases hv with
    | map b es clock _ h1 h2 h3 h4 h5 => exact ⟨b, es, clock, rfl, h2, h3, fun i e kv he hkv => ⟨h4 i e kv he hkv, h5 i e kv he hkv⟩⟩
  . cases hm
def mans (te : TR) (ok : Bool) (r : Option D) : D :=
  match ok with
  | true => .tup [r.getD (zeroEl te), .bool r.isSome]
  | false => r.getD (zeroEl te)
theorem zero_val {P : Program} {e : Nat} {te : TR} (ht : trOk P e te = true) (ha : te.agg = false) (hz1 : Nat.beq te.zero.length 1 = true) {ok : Nat -> Prop} {w : World} :
    ∃ i z, P.info? e = some i /\ i.zero = some z /\ RepD ok w z (zeroEl te) := by
  obtain ⟨d, i, hdd, hi, _, hisz, hiby, _, _, _, _, _, z, hz, hzz⟩ := tr_facts ht
  refine ⟨i, z, hi, hz, ?_⟩
  have hone := tr_zone ht ha hi hz
  obtain ⟨z1, z2, z3⟩ := zeroAre_rep (ok := ok) (w := w) hzz
  obtain ⟨q, hq⟩ := List.length_eq_one_iff.1 (Nat.eq_of_beq_eq_true hz1)
  have hc : z.cells = #[z] := by cases z <;> first | rfl | (simp [Value.oneCell'] at hone)
  unfold zeroEl
  rw [ha, hq]
  exact z3 0 z q (by rw [hc]; rfl) (by rw [hq]; rfl)
section
variable {cx : Cx} {s : Slots} {h : Heap} {dst : Option Nat} {t ty : Nat} {pos : String} {af : Array Edge} {gd : Option (Nat × Bool)}
theorem wa_lookup {T : Nat} {x i : Operand} {tr tk te : TR} {kt et : Nat} {f : Nat -> SV} {kvs : List (D × D)} {kd : IntKind} {n : Int} {okc : Bool} (hx : mapOf h (opv f x) = some kvs) (hi : opv f i = .d (.int kd n)) (ht : tget cx.T T = some tr) (hm : tr.mp = some (kt, et))
    (htk : tget cx.T kt = some tk) (hkk : tk.kind = some kd) (hte : tget cx.T et = some te) (ha : te.agg = false) (hz : Nat.beq te.zero.length 1 = true) (hk : keysI kd kvs = true) :
    Qt cx h ⟨dst, .lookup T x i okc, ty, pos, af, gd⟩ f (.d (mans te okc (mget n kvs))) :=
  qt_of fun r hr σ a w hv hh _ => by
    have h1 := hv x
    have h2 := hv i
    rw [hr x (by simp [Op.operands])] at h1
    rw [hr i (by simp [Op.operands]), hi] at h2
    have h2' := RepD.int_inv h2
    obtain ⟨b, es, clock, e1, e2, e3, e4⟩ := mapOf_rep hh.rep h1 hx
    have hd := tr_map (tget_ok cx.tab ht) hm
    obtain ⟨dk, ik, hdk, _, _, _, _, _, _, _, _, hkind, _⟩ := tr_facts (tget_ok cx.tab htk)
    have := hkind _ hkk
    subst this
    obtain ⟨ie, z, hie, hz', hzr⟩ := zero_val (tget_ok cx.tab hte) ha hz (ok := okf cx σ h) (w := w)
    have hck : (Instr.checkKey es.isEmpty 10000 kt (.int kd n)).run cx.P w = .ok () w := by
      unfold Instr.checkKey
      simp [run_underlying hdk]
    have hzv : (zeroValue et).run cx.P w = .ok z w := by simp [zeroValue, typeInfo, hie, hz']
    rcases find_now n (es := es.toList) (by simpa using e3) (fun j e kv h3 h4 => e4 j e kv (by simpa using h3) h4) hk 0 with ⟨g1, g2, g3⟩ | ⟨j, e, u, g1, g2, g3, g4, g5, g6⟩
    . have hf : (Instr.findKey kt (.int kd n) es.toList).run cx.P w = .ok none w := by simp [Instr.findKey, run_underlying hdk, g2]
      rw [g1]
      cases okc with
      | false =>
        refine ⟨z, w, ?_, Below.refl _ _, hzr⟩
        simp [execOp, e1, h2', Instr.lookup, run_underlying hd, go_map e2, hck, hf, hzv]
      | true =>
        refine ⟨.tuple #[z, .bool false], w, ?_, Below.refl _ _, ?_⟩
        . simp [execOp, e1, h2', Instr.lookup, run_underlying hd, go_map e2, hck, hf, hzv]
        . refine RepD.tup _ _ (by simp) fun i v x hv hx => ?_
          match i with
          | 0 => simp at hv hx; subst hv hx; exact hzr
          | 1 => simp at hv hx; subst hv hx; exact RepD.bool _
          | i + 2 => simp at hv
    . have hf : (Instr.findKey kt (.int kd n) es.toList).run cx.P w = .ok (some (0 + j, e.val)) w := by simp [Instr.findKey, run_underlying hdk, g5]
      have hval := (e4 j e _ (by simpa using g1) g2).2
      rw [g4]
      cases okc with
      | false =>
        refine ⟨e.val, w, ?_, Below.refl _ _, hval⟩
        simp [execOp, e1, h2', Instr.lookup, run_underlying hd, go_map e2, hck, hf]
      | true =>
        refine ⟨.tuple #[e.val, .bool true], w, ?_, Below.refl _ _, ?_⟩
        . simp [execOp, e1, h2', Instr.lookup, run_underlying hd, go_map e2, hck, hf]
        . refine RepD.tup _ _ (by simp) fun i v x hv hx => ?_
          match i with
          | 0 => simp at hv hx; subst hv hx; exact hval
          | 1 => simp at hv hx; subst hv hx; exact RepD.bool _
          | i + 2 => simp at hv
theorem wo_makeMap {T : Nat} (hd : Nat.blt t cx.nt = true) :
    OpTo cx ⟨some t, .makeMap T none, ty, pos, af, none⟩ s h ((t, .own t) :: killS t s) ((t, .map []) :: killH t h) := by
  rintro a w ⟨σ, hr⟩ K Q hK
  have run : (execOp a.eval ⟨some t, .makeMap T none, ty, pos, af, none⟩).run cx.P w = .ok (.value (.map (some w.heap.size))) (w.alloc (.map #[] 0)) := by
    simp [execOp, Instr.makeMap, newObj, Sem.run]
  obtain ⟨σ', e1, hr'⟩ := hr.lay (w' := w.alloc (.map #[] 0)) t (anc_slot hd).1 ⟨w.heap.size, 0, false, []⟩ (.map []) rfl rfl rfl (by simp) (fun b hb _ => Below.heap_alloc w _ b hb) (by simp [blk]) (by simp [blk]) fun σ' ok' hok _ _ => by
    exact ⟨#[], 0, heap_alloc_new w _, by simp, by simp⟩
  unfold Oper.wp
  rw [run]
  exact hK _ _ (put_lay hr' hd (by simp only [RepSV, Heap.get, if_true, e1]))
theorem key_stays {P : Program} {w : World} (k : IntKind) (n : Int) : (Instr.keyThatStays (.int k n) (.int k n)).run P w = .ok (.int k n) w := by
  have : Instr.sameBits 10000 (.int k n) (.int k n) = true := by simp [Instr.sameBits]
  simp [Instr.keyThatStays, this]
def wset (w : World) (b : Nat) (ob : Obj) : World := { w with heap := w.heap.setIfInBounds b ob }
theorem op_mapPut {T : Nat} {m i y : Operand} {tr tk : TR} {kt et id : Nat} {kvs : List (D × D)} {kd : IntKind} {n : Int} {u : D} {o : Oper} (ho : execOp = execOp -> ∀ ρ : Operand -> Value, execOp ρ o = (do Instr.mapUpdate T (ρ m) (ρ i) (ρ y); pure .skip)) (hdn : o.dst = none)
    (hx : opv (lk s) m = .own id) (hg : h.get id = some (.map kvs)) (hi : opv (lk s) i = .d (.int kd n)) (hy : opv (lk s) y = .d u) (ht : tget cx.T T = some tr) (hm : tr.mp = some (kt, et))
    (htk : tget cx.T kt = some tk) (hkk : tk.kind = some kd) (hk : keysI kd kvs = true) :
    OpTo cx o s h s (setH id (.map (mput kd n u kvs)) h) := by
  rintro a w ⟨σ, hr⟩ K Q hK
  have h1 := rep_eval hr m
  rw [hx] at h1
  simp only [RepSV, hg] at h1
  have h2 := rep_eval hr i
  rw [hi] at h2
  have h2' := RepD.int_inv h2
  have h3 := rep_eval hr y
  rw [hy] at h3
  have h3' : RepD (okf cx σ h) w (a.eval y) u := h3
  obtain ⟨p0, hp0, rfl, hp2⟩ := get_mem hg
  have hc := hr.heap.rep p0 hp0
  rw [hp2] at hc
  obtain ⟨es, clock, c1, c2, c3⟩ := hc
  have hd := tr_map (tget_ok cx.tab ht) hm
  obtain ⟨dk, ik, hdk, _, _, _, _, _, _, _, _, hkind, _⟩ := tr_facts (tget_ok cx.tab htk)
  have := hkind _ hkk
  subst this
  have hck : (Instr.checkKey false 10000 kt (.int kd n)).run cx.P w = .ok () w := by
    unfold Instr.checkKey
    simp [run_underlying hdk]
  have hlt : (σ p0.1).b < w.heap.size := by
    rcases Nat.lt_or_ge (σ p0.1).b w.heap.size with h' | h'
    . exact h'
    . simp [Array.getElem?_eq_none h'] at c1
  have fin : ∀ (es' : Array MapEntry) (clock' : Nat) (kvs' : List (D × D)), es'.size = kvs'.length -> (∀ (i : Nat) e kv, es'[i]? = some e -> kvs'[i]? = some kv -> RepD (okf cx σ h) w e.key kv.1 /\ RepD (okf cx σ h) w e.val kv.2) ->
      (execOp a.eval o).run cx.P w = .ok .skip (wset w (σ p0.1).b (.map es' clock')) -> R cx (lk s) (setH p0.1 (.map kvs') h) a (wset w (σ p0.1).b (.map es' clock')) := fun es' clock' kvs' k1 k2 _ => by
    refine ⟨σ, hr.set (w' := wset w (σ p0.1).b (.map es' clock')) (c' := .map kvs') hg (by simp [Chunk.like]) rfl rfl rfl (by simp [wset]) (fun b hb => ?_) fun hok => ?_⟩
    . have hne : (σ p0.1).b ≠ b := fun e => hb (by simp [blk, e])
      simp [wset, Array.getElem?_setIfInBounds_ne hne]
    . exact ⟨es', clock', by simp [wset, hlt], k1, fun i e kv he hkv => ⟨(k2 i e kv he hkv).1.mono hok, (k2 i e kv he hkv).2.mono hok⟩⟩
  have hset : ∀ (ob : Obj), (setObj (σ p0.1).b ob).run cx.P w = .ok () (wset w (σ p0.1).b ob) := fun ob => by simp [setObj, Sem.run, c1, wset]
  unfold Oper.wp
  rcases find_now n (es := es.toList) (by simpa using c2) (fun j e kv h3 h4 => c3 j e kv (by simpa using h3) h4) hk 0 with ⟨g1, g2, g3⟩ | ⟨j, e, u', g1, g2, g3, g4, g5, g6⟩
  . have hf : (Instr.findKey kt (.int kd n) es.toList).run cx.P w = .ok none w := by simp [Instr.findKey, run_underlying hdk, g2]
    have run : (execOp a.eval o).run cx.P w = .ok .skip (wset w (σ p0.1).b (.map (es.push { key := .int kd n, val := a.eval y, born := clock }) (clock + 1))) := by
      rw [ho rfl]
      simp [h1, h2', Instr.mapUpdate, run_underlying hd, go_map c1, hck, hf, hset]
    have := fin _ _ (kvs ++ [(.int kd n, u)]) (by simp [c2]) (fun i e kv he hkv => by
      by_cases hi2 : i < kvs.length
      . rw [List.getElem?_append_left hi2] at hkv
        rw [Array.getElem?_push_lt (by omega)] at he
        exact c3 i e kv (by rw [Array.getElem?_eq_getElem (by omega)]; exact he) hkv
      . by_cases hi3 : i = kvs.length
        . subst hi3
          simp at hkv
          subst hkv
          rw [<- c2] at he
          simp at he
          subst he
          exact ⟨RepD.int _ _, h3'⟩
        . rw [List.getElem?_eq_none (by simp; omega)] at hkv
          cases hkv) run
    rw [<- g3 u] at this
    rw [run]
    exact hK _ _ (by rw [hdn]; exact this)
  . have hf : (Instr.findKey kt (.int kd n) es.toList).run cx.P w = .ok (some (0 + j, e.val)) w := by simp [Instr.findKey, run_underlying hdk, g5]
    have hj : es[j]? = some e := by simpa using g1
    have run : (execOp a.eval o).run cx.P w = .ok .skip (wset w (σ p0.1).b (.map (es.modify j fun e => { e with key := .int kd n, val := a.eval y }) clock)) := by
      rw [ho rfl]
      simp [h1, h2', Instr.mapUpdate, run_underlying hd, go_map c1, hck, hf, hset, hj, g3, key_stays]
    have := fin _ _ (kvs.set j (.int kd n, u)) (by simp [c2]) (fun i e' kv he hkv => by
      by_cases hij : j = i
      . subst hij
        have hjl : j < kvs.length := by
          rcases Nat.lt_or_ge j kvs.length with h' | h'
          . exact h'
          . simp [h'] at g2
        rw [List.getElem?_set_self hjl] at hkv
        cases hkv
        rw [Array.getElem?_modify, if_pos rfl, hj] at he
        cases he
        exact ⟨RepD.int _ _, h3'⟩
      . rw [List.getElem?_set_ne hij] at hkv
        rw [Array.getElem?_modify, if_neg hij] at he
        exact c3 i e' kv he hkv) run
    rw [<- g6 u] at this
    rw [run]
    exact hK _ _ (by rw [hdn]; exact this)
theorem wo_mapUpdate {T : Nat} {m i y : Operand} {tr tk : TR} {kt et id : Nat} {kvs : List (D × D)} {kd : IntKind} {n : Int} {u : D} (hx : opv (lk s) m = .own id) (hg : h.get id = some (.map kvs)) (hi : opv (lk s) i = .d (.int kd n)) (hy : opv (lk s) y = .d u) (ht : tget cx.T T = some tr) (hm : tr.mp = some (kt, et))
    (htk : tget cx.T kt = some tk) (hkk : tk.kind = some kd) (hk : keysI kd kvs = true) :
    OpTo cx ⟨none, .mapUpdate T m i y, ty, pos, af, none⟩ s h s (setH id (.map (mput kd n u kvs)) h) := op_mapPut (fun _ ρ => by simp [execOp]) rfl hx hg hi hy ht hm htk hkk hk
theorem wo_mapInsert {T : Nat} {m i y : Operand} {tr tk : TR} {kt et id : Nat} {kvs : List (D × D)} {kd : IntKind} {n : Int} {u : D} (hx : opv (lk s) m = .own id) (hg : h.get id = some (.map kvs)) (hi : opv (lk s) i = .d (.int kd n)) (hy : opv (lk s) y = .d u) (ht : tget cx.T T = some tr) (hm : tr.mp = some (kt, et))
    (htk : tget cx.T kt = some tk) (hkk : tk.kind = some kd) (hk : keysI kd kvs = true) :
    OpTo cx ⟨none, .insert T m i y, ty, pos, af, none⟩ s h s (setH id (.map (mput kd n u kvs)) h) := op_mapPut (fun _ ρ => by simp [execOp]) rfl hx hg hi hy ht hm htk hkk hk
end
end Go.Proofs.YtckpadnjldebaaaGreat
namespace Go.Proofs.YtckpadnjldebaaaGreat
open Go
open Go.RowKit (Below)
set_option linter.unusedVariables false
set_option linter.unusedSimpArgs false
section
variable {cx : Cx} {ops : Array Oper} {s : Slots} {h : Heap} {Q : Exit -> Slots -> Heap -> Prop} {dst : Option Nat} {t ty : Nat} {pos : String} {af : Array Edge} {gd : Option (Nat × Bool)}
theorem R_carve0 {a : Act} {w : World} {id i j e e' sz : Nat} {xss : List (List D)} {xs : List D} (hr : R cx (lk s) h a w) (hg : h.get id = some (.rows e e' sz xss none)) (hx : xss[i]? = some xs) (hne : Nat.beq j id = false) (hj : isAnc j = false)
    (hmv : (Nat.blt id 10000 || (!isMov id && !isMov j && Nat.ble 10000 j)) = true) :
    R cx (lk (mapS (SV.lm (gCarve id i j)) s)) ((id, .rows e e' sz xss (some (i, .own j))) :: (j, .arr e' sz xs) :: keepH (SV.lm (gCarve id i j)) [id, j] h) a w := by
  obtain ⟨σ, hr⟩ := hr
  obtain ⟨⟨p0, hp0, hp1, hp2⟩, hnd, hrep⟩ := chunk_rows hr hg
  obtain ⟨k0, k1, ⟨cl, k2, k3⟩, k4, _⟩ := And.intro trivial hrep |>.2
  have hne' := Nat.ne_of_beq_eq_false hne
  have hil : i < xss.length := by
    rcases Nat.lt_or_ge i xss.length with hh | hh
    . exact hh
    . simp [hh] at hx
  have hq : (σ id).kids[i]? = some (σ id).kids[i] := List.getElem?_eq_getElem (by omega)
  generalize (σ id).kids[i] = q at hq
  have hnil : (σ id).nil = false := by
    cases hn : (σ id).nil with
    | false => rfl
    | true => have := rows_nil k2 hn; omega
  have hsub : ∀ b, b ∈ blk (σ id) (.rows e e' sz xss (some (i, .own j))) -> b ∈ blk (σ id) (.rows e e' sz xss none) := fun b hb => by
    simp only [blk, hnil, hat] at hb ⊢
    rcases List.mem_cons.1 hb with hb | hb
    . rw [hb]; exact List.mem_cons_self ..
    . obtain ⟨m, p, m1, m2, m3, m4⟩ := mem_kidBlk.1 hb
      exact List.mem_cons_of_mem _ (mem_kidBlk.2 ⟨m, p, m1, m2, by simp, m4⟩)
  have hsubj : ∀ b, b ∈ blk (kidLoc q) (.arr e' sz xs) -> q.2.2 = false /\ b = q.1 /\ b ∈ blk (σ id) (.rows e e' sz xss none) := fun b hb => by
    unfold blk kidLoc at hb
    cases hn : q.2.2 with
    | true => simp [hn] at hb
    | false =>
      simp [hn] at hb
      exact ⟨rfl, hb, by rw [hb]; exact kid_blk hnil hq hn (by simp [hat])⟩
  have hnk : (kidBlk none 0 (σ id).kids).Nodup /\ (σ id).b ∉ kidBlk none 0 (σ id).kids := by
    simp only [blk, hnil, hat, List.nodup_cons] at hnd
    exact ⟨hnd.2, hnd.1⟩
  have hdis : ∀ b, b ∈ blk (σ id) (.rows e e' sz xss (some (i, .own j))) -> b ∈ blk (kidLoc q) (.arr e' sz xs) -> False := fun b hb hb' => by
    obtain ⟨hn, rfl, _⟩ := hsubj b hb'
    simp only [blk, hnil, hat] at hb
    rcases List.mem_cons.1 hb with hb | hb
    . exact hnk.2 (mem_kidBlk.2 ⟨i, q, hq, hn, by simp, hb⟩)
    . obtain ⟨m, p, m1, m2, m3, m4⟩ := mem_kidBlk.1 hb
      have := kidBlk_nodup.1 hnk.1 m i p q m1 hq m2 hn (by simp) (by simp) m4
      simp [this] at m3
  let N : Heap := [(id, .rows e e' sz xss (some (i, .own j))), (j, .arr e' sz xs)]
  have hσ : ∀ m, m ≠ j -> setσ σ j (kidLoc q) m = σ m := fun m hm => setσ_ne hm
  have hfin : RW cx (setσ σ j (kidLoc q)) (fun t => SV.lm (gCarve id i j) (lk s t)) (N ++ keepH (SV.lm (gCarve id i j)) [id, j] h) a w := by
   refine hr.upd (σ' := setσ σ j (kidLoc q)) (w' := w) [id, j] N (SV.lm (gCarve id i j)) (fun p hp => ?_) ?_ (fun m hm => hσ m (memB_twoF.1 hm).2) rfl rfl rfl (Nat.le_refl _) (fun _ _ _ => rfl)
     (fun p hp => ?_) (fun p hp p' hp' b hb hb' => ?_) (fun p hp b hb => ?_) (fun p hp ha => ?_) (fun hok v sv hv => RepSV.lm (leaf_upd (K := [id, j]) hok (fun m hm => hσ m (memB_twoF.1 hm).2) (simO_keep (fun p hp => ?_)) (fun x hl hx => ?_) (fun x v m hl hm hK hv => ?_)) hv) (fun hok p hp => ?_)
   . simp [N] at hp
     rcases hp with rfl | rfl <;> exact memB_iff.2 (by simp)
   . simp [N]; exact Ne.symm hne'
   . simp [N] at hp
     rcases hp with rfl | rfl
     . simp only [hσ id (Ne.symm hne')]
       simp only [blk, hnil, hat, List.nodup_cons]
       refine ⟨fun hm => ?_, ?_⟩
       . obtain ⟨m, p, m1, m2, m3, m4⟩ := mem_kidBlk.1 hm
         exact hnk.2 (mem_kidBlk.2 ⟨m, p, m1, m2, by simp, m4⟩)
       . exact kidBlk_nodup.2 fun a b p q' m1 m2 m3 m4 _ _ m5 => kidBlk_nodup.1 hnk.1 a b p q' m1 m2 m3 m4 (by simp) (by simp) m5
     . simp only [setσ_self]
       cases hn : (kidLoc q).nil <;> simp [blk, hn]
   . simp [N] at hp hp'
     rcases hp with rfl | rfl <;> rcases hp' with rfl | rfl
     . rfl
     . simp only [setσ_self, hσ id (Ne.symm hne')] at hb hb'
       exact (hdis b hb hb').elim
     . simp only [setσ_self, hσ id (Ne.symm hne')] at hb hb'
       exact (hdis b hb' hb).elim
     . rfl
   . have hin : b ∈ blk (σ id) (.rows e e' sz xss none) -> b < w.heap.size /\ (w.heap.size <= b \/ ∃ q ∈ h, memB q.1 [id, j] = true /\ b ∈ blk (σ q.1) q.2 /\ (q.1 < 10000 \/ q.1 = p.1 \/ (isMov q.1 = false /\ isMov p.1 = false /\ 10000 <= p.1))) := fun hb => by
       have hb' : b ∈ blk (σ p0.1) p0.2 := by rw [hp1, hp2]; exact hb
       refine ⟨(hr.heap.mine p0 hp0 b hb').2.2, .inr ⟨p0, hp0, by rw [hp1]; simp [memB], hb', ?_⟩⟩
       rw [hp1]
       simp [N] at hp
       rcases hp with rfl | rfl
       . exact .inr (.inl rfl)
       . simp only [Bool.or_eq_true, Bool.and_eq_true, Bool.not_eq_true'] at hmv
         rcases hmv with hmv | ⟨⟨hmv1, hmv2⟩, hmv3⟩
         . exact .inl (Nat.le_of_ble_eq_true hmv)
         . exact .inr (.inr ⟨hmv1, hmv2, Nat.le_of_ble_eq_true hmv3⟩)
     refine hin ?_
     simp [N] at hp
     rcases hp with rfl | rfl
     . simp only [hσ id (Ne.symm hne')] at hb
       exact hsub b hb
     . simp only [setσ_self] at hb
       exact (hsubj b hb).2.2
   . simp [N] at hp
     rcases hp with rfl | rfl
     . simp only [hσ id (Ne.symm hne')]
       have := hr.heap.anc p0 hp0 (by rw [hp1]; exact ha)
       rwa [hp1] at this
     . rw [hj] at ha; cases ha
   . simp [N] at hp
     rcases hp with rfl | rfl <;> exact memB_iff.2 (by simp)
   . refine leaf_ids (K := [id, j]) hl rfl rfl (fun _ => rfl) (fun i o hi => ?_) (fun i hi => ?_) (fun i o hi => ?_) (fun i o hi => ?_) hx
     all_goals
       obtain ⟨e1, e2⟩ := memB_twoF.1 hi
       simp only [gCarve, beqF e1, beqF e2]
   . have gid : ((N ++ keepH (SV.lm (gCarve id i j)) [id, j] h : Heap)).get id = some (.rows e e' sz xss (some (i, .own j))) := by simp [N, Heap.get]
     have gj : ((N ++ keepH (SV.lm (gCarve id i j)) [id, j] h : Heap)).get j = some (.arr e' sz xs) := by simp [N, Heap.get, Ne.symm hne']
     by_cases hmj : m = j
     . subst hmj
       cases x <;> simp only [SV.idOf, Option.some.injEq, reduceCtorEq] at hm <;> (replace hm := hm.symm; subst hm) <;> simp only [gCarve, Nat.beq_refl, beqF hne', RepSV]
     . have hmi : m = id := by rcases memB_two.1 hK with h | h <;> first | exact h | exact absurd h hmj
       subst hmi
       cases x <;> simp only [SV.idOf, Option.some.injEq, reduceCtorEq] at hm <;> (replace hm := hm.symm; subst hm)
       case ref o =>
         simp only [gCarve, beqF hmj, RepSV, hσ _ hmj] at hv ⊢
         exact hv
       case own =>
         simp only [gCarve, beqF hmj, RepSV, hσ _ hmj, hg, gid] at hv ⊢
         exact hv
       case elt o =>
         simp only [gCarve, beqF hmj, RepSV, hσ _ hmj, hg, gid] at hv ⊢
         exact hv
       case sub o =>
         simp only [gCarve, beqF hmj, RepSV, hσ _ hmj, hg, gid] at hv ⊢
         exact hv
   . have gj : ((N ++ keepH (SV.lm (gCarve id i j)) [id, j] h : Heap)).get j = some (.arr e' sz xs) := by simp [N, Heap.get, Ne.symm hne']
     simp [N] at hp
     rcases hp with rfl | rfl
     . simp only [hσ id (Ne.symm hne')]
       refine ⟨k0, k1, ⟨cl, k2, k3⟩, fun m q' ys h1 h2 h3 => (k4 m q' ys h1 h2 (by simp [hat])).mono hok (fun _ => rfl), fun p hp q' ys h1 h2 => ?_⟩
       simp only [Option.some.injEq] at hp
       subst hp
       rw [hq] at h1
       rw [hx] at h2
       cases h1
       cases h2
       simp only [RepSV, gj, setσ_self]
     . simp only [setσ_self]
       exact (k4 i q xs hq hx (by simp [hat])).mono hok fun _ => rfl
  refine ⟨_, hfin.evo, hfin.defers, hfin.size, hfin.heap, fun t => ?_⟩
  rw [lk_lm rfl]
  exact hfin.slots t
theorem awp_carve0 {c : Code} (id i j : Nat) {e e' sz : Nat} {xss : List (List D)} {xs : List D} (hg : h.get id = some (.rows e e' sz xss none)) (hx : xss[i]? = some xs) (hne : Nat.beq j id = false) (hj : isAnc j = false)
    (hmv : (Nat.blt id 10000 || (!isMov id && !isMov j && Nat.ble 10000 j)) = true)
    (hn : awp cx c (mapS (SV.lm (gCarve id i j)) s) ((id, .rows e e' sz xss (some (i, .own j))) :: (j, .arr e' sz xs) :: keepH (SV.lm (gCarve id i j)) [id, j] h) Q) : awp cx c s h Q := fun a w hr => hn a w (R_carve0 hr hg hx hne hj hmv)
theorem wa_loadHole {T : Nat} {x : Operand} {tr : TR} {f : Nat -> SV} {id i e e' sz : Nat} {xss : List (List D)} {sv : SV} (hx : opv f x = .elt id i) (hg : h.get id = some (.rows e e' sz xss (some (i, sv)))) (ht : tget cx.T T = some tr) (ha : tr.agg = false) (hi : i < xss.length) :
    Qt cx h ⟨dst, .load T x, ty, pos, af, gd⟩ f sv := by
  intro s₁ hs σ a w hr K Q hK
  have h1 := rep_eval hr x
  rw [show opv s₁ x = opv f x from by cases x <;> first | rfl | exact hs _ (by simp [Op.operands]), hx] at h1
  simp only [RepSV, hg] at h1
  obtain ⟨_, _, _, hkl, ⟨cl, ho, hcl⟩, _, hhole⟩ := chunk_rows hr hg
  have hq : (σ id).kids[i]? = some (σ id).kids[i] := List.getElem?_eq_getElem (by omega)
  have hxs : xss[i]? = some xss[i] := List.getElem?_eq_getElem hi
  obtain ⟨c1, _⟩ := hcl i _ _ hq hxs
  obtain ⟨d, ii, hdd, hii, e1, e2, _⟩ := tr_facts (tget_ok cx.tab ht)
  have hcell : w.cell? ⟨(σ id).b, i, none⟩ = some (sliceAt (kidLoc (σ id).kids[i]) xss[i].length) := by
    obtain ⟨o1, o2⟩ := ho
    rcases o2 with ⟨_, o2⟩ | ⟨g, cap, cur, q1, _, q3, q4, q5, q6, q7⟩
    . omega
    . have hgb : g = (σ id).b := by
        unfold sliceAt at q1
        split at q1
        . cases q1
        . cases q1; rfl
      subst hgb
      rw [cell_at q3, <- c1, <- q7, List.getElem?_take, if_pos (by omega)]
      simp
  unfold Oper.wp
  have run : (execOp a.eval ⟨dst, .load T x, ty, pos, af, gd⟩).run cx.P w = .ok (.value (sliceAt (kidLoc (σ id).kids[i]) xss[i].length)) w := by
    simp only [execOp, h1, Instr.loadAt, Instr.sureAddr, Sem.run_bind, Sem.run_pure, Result.andThen_ok, loadVar, run_isAgg hdd, e1, ha, Bool.false_eq_true, if_false, run_load, hcell]
  rw [run]
  exact hK _ _ (Below.refl _ _) (hhole _ rfl _ _ hq hxs)
end
def buildS (h : Heap) (fs : List (Nat × Nat × Bool)) (r : Operand -> SV) : List SV -> List (Nat × Operand) -> Option (List SV)
  | xs, [] => some xs
  | xs, (i, o) :: l => match fs[i]? with
    | some q => match svOne h (r o) && Nat.beq q.2.1 1 && Nat.blt q.1 xs.length with
      | true => buildS h fs r (xs.set q.1 (r o)) l
      | false => none
    | none => none
theorem fill_fieldsS {ok : Nat -> Prop} {w : World} {fs : List (Nat × Nat × Bool)} {r : Operand -> SV} {ρ : Operand -> Value} {σ : Nat -> Loc} {h : Heap} (hρ : ∀ x, RepSV σ h ok w (ρ x) (r x)) : ∀ (l : List (Nat × Operand)) (cells : Array Value) (xs ys : List SV), cells.size = xs.length ->
    (∀ (i : Nat) v x, cells[i]? = some v -> xs[i]? = some x -> RepSV σ h ok w v x /\ v.oneCell' = true) -> buildS h fs r xs l = some ys ->
    ∃ out, Instr.fill (((fs.map fun q => (q.1, q.2.1)).toArray)[·]?) cells (l.map fun (q : Nat × Operand) => (q.1, ρ q.2)) = some out /\ out.size = ys.length /\ ∀ (i : Nat) v x, out[i]? = some v -> ys[i]? = some x -> RepSV σ h ok w v x /\ v.oneCell' = true
  | [], cells, xs, ys, h1, h3, hb => by
    simp only [buildS, Option.some.injEq] at hb
    subst hb
    exact ⟨cells, rfl, h1, h3⟩
  | (i, o) :: l, cells, xs, ys, h1, h3, hb => by
    simp only [buildS] at hb
    split at hb
    . rename_i q hq
      split at hb
      . rename_i hc
        simp only [Bool.and_eq_true] at hc
        obtain ⟨⟨c1, c2⟩, c3⟩ := hc
        have c2 := Nat.eq_of_beq_eq_true c2
        have c3 : q.1 < xs.length := Nat.le_of_ble_eq_true c3
        obtain ⟨k1, k2⟩ := svOne_rep (hρ o) c1
        obtain ⟨out, o1, o2, o3⟩ := fill_fieldsS hρ l (cells.setIfInBounds q.1 (ρ o)) (xs.set q.1 (r o)) ys (by simp [h1]) (fun j v x hjv hjx => by
          by_cases e : q.1 = j
          . subst e
            rw [List.getElem?_set_self c3] at hjx
            rw [Array.getElem?_setIfInBounds_self_of_lt (by omega)] at hjv
            cases hjx
            cases hjv
            exact ⟨hρ o, k1⟩
          . rw [List.getElem?_set_ne e] at hjx
            rw [Array.getElem?_setIfInBounds_ne e] at hjv
            exact h3 j v x hjv hjx) hb
        refine ⟨out, ?_, o2, o3⟩
        rw [<- o1]
        simp only [List.map_cons, Instr.fill]
        have : ((fs.map fun q => (q.1, q.2.1)).toArray)[i]? = some (q.1, q.2.1) := by simp [hq]
        rw [this]
        simp only
        rw [if_neg (by rw [k2]; simp [c2]; omega)]
        rw [k2]
        simp
      . cases hb
    . cases hb
section
variable {cx : Cx} {h : Heap} {dst : Option Nat} {t ty : Nat} {pos : String} {af : Array Edge} {gd : Option (Nat × Bool)}
theorem wa_buildS {T : Nat} {parts : Array (Nat × Operand)} {tr : TR} {f : Nat -> SV} {ys : List SV} (ht : tget cx.T T = some tr) (hag : tr.agg = true) (hfi : tr.fields.isEmpty = false) (hb : buildS h tr.fields (opv f) (tr.zero.map .d) parts.toList = some ys) :
    Qt cx h ⟨dst, .build T parts, ty, pos, af, gd⟩ f (.agg ys) := by
  intro s₁ hs σ a w hr K Q hK
  have hb' : buildS h tr.fields (opv s₁) (tr.zero.map .d) parts.toList = some ys := by
    rw [<- hb]
    have key : ∀ (l : List (Nat × Operand)) (xs : List SV), (∀ p ∈ l, p ∈ parts.toList) -> buildS h tr.fields (opv s₁) xs l = buildS h tr.fields (opv f) xs l := by
      intro l
      induction l with
      | nil => intro xs _; rfl
      | cons p l ih =>
        intro xs hp
        obtain ⟨i, x⟩ := p
        have hx : opv s₁ x = opv f x := by
          cases x <;> first | rfl | exact hs _ (by
            simp only [Op.operands, List.mem_toArray, List.mem_map]
            exact ⟨_, hp _ (List.mem_cons_self ..), rfl⟩)
        simp only [buildS, hx]
        split
        . split
          . exact ih _ fun q hq => hp q (List.mem_cons_of_mem _ hq)
          . rfl
        . rfl
    exact key _ _ fun _ h => h
  have hok := tget_ok cx.tab ht
  obtain ⟨d, i, hd, hi, e1, e2, _, _, _, _, _, _, z, hz, hza⟩ := tr_facts hok
  have hfs : ∃ fs : Array Field, d = .struct fs /\ fieldsAre cx.P fs.toList tr.fields = true := by
    simp only [trOk, Bool.and_eq_true] at hok
    replace hok := hok.1
    unfold trOk0 at hok
    rw [hd, hi] at hok
    simp only [Bool.and_eq_true] at hok
    have h5 := hok.1.1.2
    cases d with
    | struct fs => exact ⟨fs, rfl, h5⟩
    | _ => simp only [hfi] at h5; cases h5
  obtain ⟨fs, rfl, hfa⟩ := hfs
  obtain ⟨z1, z2⟩ := zeroAre_rep (ok := okf cx σ h) (w := w) hza
  have zs : z.cells.size = tr.zero.length := by simpa using z1
  obtain ⟨out, o1, o2, o3⟩ := fill_fieldsS (rep_eval hr) parts.toList z.cells (tr.zero.map .d) ys (by simpa using zs) (fun j v x hv hx => by
    rw [List.getElem?_map, Option.map_eq_some_iff] at hx
    obtain ⟨y, hy, rfl⟩ := hx
    have hv' := z2.2 j v y (by simpa using hv) hy
    exact ⟨hv', hv'.oneCell' (z2.1 y (List.mem_of_getElem? hy))⟩) hb'
  have e : (parts.map fun (i, x) => (i, a.eval x)).toList = parts.toList.map fun (q : Nat × Operand) => (q.1, a.eval q.2) := by simp
  have hbt : cx.P.built T (parts.map fun (i, x) => (i, a.eval x)).toList = some out := by
    rw [e]
    simp only [Program.built, hi, hd, hz, fields_places hfa]
    exact o1
  unfold Oper.wp
  rw [show (execOp a.eval ⟨dst, .build T parts, ty, pos, af, gd⟩).run cx.P w = .ok (.value (.agg out)) w from by
    simp only [execOp, Sem.run_bind, run_build w T _ out hbt, Result.andThen_ok, Sem.run_pure]]
  refine hK _ _ (Below.refl _ _) ?_
  simp only [RepSV]
  exact ⟨out, rfl, RepSVs.mk (by simpa using o2) fun j v x hv hx => by
    have := o3 j v x (by simpa using hv) hx
    exact ⟨this.1, fun _ => this.2⟩⟩
end
def insH (p : Nat × Chunk) : Heap -> Heap
  | [] => [p]
  | q :: h => match Nat.ble p.1 q.1 with
    | true => p :: q :: h
    | false => q :: insH p h
def sortH : Heap -> Heap
  | [] => []
  | p :: h => insH p (sortH h)
theorem insH_perm (p : Nat × Chunk) : ∀ h : Heap, (insH p h).Perm (p :: h)
  | [] => List.Perm.refl _
  | q :: h => by
    unfold insH
    split
    . exact List.Perm.refl _
    . exact ((insH_perm p h).cons q).trans (List.Perm.swap ..)
theorem sortH_perm : ∀ h : Heap, h.Perm (sortH h)
  | [] => List.Perm.refl _
  | p :: h => ((sortH_perm h).cons p).trans (insH_perm p (sortH h)).symm
theorem perm_of_sort {h H0 : Heap} (e : sortH h = H0) : h.Perm H0 := by rw [<- e]; exact sortH_perm h
section
variable {cx : Cx} {ops : Array Oper} {s : Slots} {h : Heap} {Q : Exit -> Slots -> Heap -> Prop}
theorem R_nilCell {a : Act} {w : World} {id off j e sz : Nat} {cells : List SV} (hr : R cx (lk s) h a w) (hg : Heap.get ((j, Chunk.arr e sz []) :: killH j h) id = some (.box cells)) (hc : cells[off]? = some (.d .nils)) (hsz : Nat.blt 0 sz = true) (hj : isAnc j = false) (hne : Nat.beq j id = false) :
    R cx (lk (killS j s)) (setH id (.box (cells.set off (.own j))) ((j, .arr e sz []) :: killH j h)) a w := by
  obtain ⟨σ, hr⟩ := hr
  have hne' := Nat.ne_of_beq_eq_false hne
  obtain ⟨σ', e1, hr'⟩ := hr.lay (w' := w) j hj ⟨0, 0, true, []⟩ (.arr e sz []) rfl rfl rfl (Nat.le_refl _) (fun _ _ _ => rfl) (by simp [blk]) (by simp [blk]) fun σ' ok' hok _ _ =>
    ⟨Nat.le_of_ble_eq_true hsz, [], ⟨by simp, .inl ⟨by simp [sliceAt], rfl⟩⟩, by simp, [], rfl, by simp, by simp⟩
  obtain ⟨p0, hp0, hp1, hp2⟩ := get_mem hg
  have hch := hr'.heap.rep p0 hp0
  rw [hp1, hp2] at hch
  obtain ⟨c0, cs, T', c1, c2, c3⟩ := hch
  refine ⟨σ', hr'.set (c' := .box (cells.set off (.own j))) hg (by simp [Chunk.like]) rfl rfl rfl rfl (fun _ _ => rfl) fun hok => ?_⟩
  refine ⟨c0, cs, T', c1, by simp [c2], fun i v u hv hu => ?_⟩
  by_cases e : off = i
  . subst e
    have old := c3 off v (.d .nils) hv hc
    have hlt : off < cells.length := by
      rcases Nat.lt_or_ge off cells.length with h' | h'
      . exact h'
      . simp [h'] at hc
    rw [List.getElem?_set_self hlt] at hu
    cases hu
    refine ⟨?_, old.2⟩
    have hv' := RepD.nils_inv old.1
    simp only [RepSV, get_setH_ne hne', Heap.get, if_true, e1, hv']
    simp [sliceAt]
  . rw [List.getElem?_set_ne e] at hu
    exact ⟨(c3 i v u hv hu).1.set hg (by simp [Chunk.like]) hok, (c3 i v u hv hu).2⟩
theorem awp_nilCell {c : Code} (id off j e sz : Nat) {cells : List SV} (hg : Heap.get ((j, Chunk.arr e sz []) :: killH j h) id = some (.box cells)) (hc : cells[off]? = some (.d .nils)) (hsz : Nat.blt 0 sz = true) (hj : isAnc j = false) (hne : Nat.beq j id = false)
    (hn : awp cx c (killS j s) (setH id (.box (cells.set off (.own j))) ((j, .arr e sz []) :: killH j h)) Q) : awp cx c s h Q := fun a w hr => hn a w (R_nilCell hr hg hc hsz hj hne)
theorem awp_perm {c : Code} (H0 : Heap) (hp : sortH h = H0) (hn : awp cx c s H0 Q) : awp cx c s h Q := fun a w hr => hn a w (R_perm (perm_of_sort hp) hr)
end
section
variable {cx : Cx} {h : Heap} {dst : Option Nat} {t ty : Nat} {pos : String} {af : Array Edge} {gd : Option (Nat × Bool)}
end
end Go.Proofs.YtckpadnjldebaaaGreat
