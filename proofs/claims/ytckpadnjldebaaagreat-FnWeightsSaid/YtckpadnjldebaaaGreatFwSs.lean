/- Maps whose keys are texts: asked, written. No condition. -/
import Derived.Test.YtckpadnjldebaaaGreatFwX
namespace Go.Proofs.YtckpadnjldebaaaGreat
open Go
open Go.RowKit (Below)
set_option linter.unusedVariables false
set_option linter.unusedSimpArgs false
def keysS : List (D × D) -> Bool
  | [] => true
  | p :: l => match p.1 with
    | .str _ => keysS l
    | _ => false
def mgetS (n : List UInt8) : List (D × D) -> Option D
  | [] => none
  | p :: l => match p.1 with
    | .str m => if n = m then some p.2 else mgetS n l
    | _ => mgetS n l
def mputS (n : List UInt8) (v : D) : List (D × D) -> List (D × D)
  | [] => [(.str n, v)]
  | p :: l => match p.1 with
    | .str m => if n = m then (.str n, v) :: l else p :: mputS n v l
    | _ => p :: mputS n v l
theorem ba_eq (a b : ByteArray) : (a == b) = decide (a = b) := by
  obtain ⟨x⟩ := a
  obtain ⟨y⟩ := b
  show (x == y) = _
  by_cases h : x = y
  . subst h; simp
  . simp [h]
theorem bs_eq {n m : List UInt8} : ((⟨n.toArray⟩ : ByteArray) == ⟨m.toArray⟩) = decide (n = m) := by
  rw [ba_eq]
  by_cases h : n = m
  . subst h; simp
  . simp [h]
theorem find_nowS {ok : Nat -> Prop} {w : World} (n : List UInt8) : ∀ {es : List MapEntry} {kvs : List (D × D)}, es.length = kvs.length ->
    (∀ (i : Nat) e kv, es[i]? = some e -> kvs[i]? = some kv -> RepD ok w e.key kv.1 /\ RepD ok w e.val kv.2) -> keysS kvs = true -> ∀ i0,
    (mgetS n kvs = none /\ Instr.findNow .string (.string ⟨n.toArray⟩) es i0 = some none /\ ∀ v, mputS n v kvs = kvs ++ [(.str n, v)]) \/
    (∃ j e u, es[j]? = some e /\ kvs[j]? = some (.str n, u) /\ e.key = .string ⟨n.toArray⟩ /\ mgetS n kvs = some u /\ Instr.findNow .string (.string ⟨n.toArray⟩) es i0 = some (some (i0 + j, e.val)) /\ ∀ v, mputS n v kvs = kvs.set j (.str n, v))
  | [], [], _, _, _, i0 => .inl ⟨rfl, rfl, fun _ => rfl⟩
  | [], _ :: _, hl, _, _, _ => by simp at hl
  | _ :: _, [], hl, _, _, _ => by simp at hl
  | e :: es, p :: kvs, hl, hr, hk, i0 => by
    obtain ⟨x, u⟩ := p
    simp only [keysS] at hk
    split at hk
    . rename_i m
      have h0 := hr 0 e (.str m, u) rfl rfl
      have hkey := RepD.str_inv h0.1
      by_cases hnm : n = m
      . subst hnm
        refine .inr ⟨0, e, u, rfl, rfl, hkey, by simp [mgetS], by simp [Instr.findNow, hkey, Instr.sameNow, ba_eq], fun v => by simp [mputS]⟩
      . have hb : ((⟨n.toArray⟩ : ByteArray) == ⟨m.toArray⟩) = false := by rw [bs_eq]; simp [hnm]
        rcases find_nowS n (es := es) (kvs := kvs) (by simpa using hl) (fun i e' kv h1 h2 => hr (i + 1) e' kv (by simpa using h1) (by simpa using h2)) hk (i0 + 1) with ⟨h1, h2, h3⟩ | ⟨j, e', u', h1, h2, h3, h4, h5, h6⟩
        . refine .inl ⟨by simp [mgetS, hnm, h1], by simp [Instr.findNow, hkey, Instr.sameNow, hb, h2], fun v => by simp [mputS, hnm, h3]⟩
        . refine .inr ⟨j + 1, e', u', by simpa using h1, by simpa using h2, h3, by simp [mgetS, hnm, h4], by simp [Instr.findNow, hkey, Instr.sameNow, hb, h5]; omega, fun v => by simp [mputS, hnm, h6]⟩
    . cases hk
section
variable {cx : Cx} {s : Slots} {h : Heap} {dst : Option Nat} {t ty : Nat} {pos : String} {af : Array Edge} {gd : Option (Nat × Bool)}
theorem wa_lookupS {T : Nat} {x i : Operand} {tr tk te : TR} {kt et : Nat} {f : Nat -> SV} {kvs : List (D × D)} {n : List UInt8} {okc : Bool} (hx : mapOf h (opv f x) = some kvs) (hi : opv f i = .d (.str n)) (ht : tget cx.T T = some tr) (hm : tr.mp = some (kt, et))
    (htk : tget cx.T kt = some tk) (hkk : tk.isStr = true) (hte : tget cx.T et = some te) (ha : te.agg = false) (hz : Nat.beq te.zero.length 1 = true) (hk : keysS kvs = true) :
    Qt cx h ⟨dst, .lookup T x i okc, ty, pos, af, gd⟩ f (.d (mans te okc (mgetS n kvs))) :=
  qt_of fun r hr σ a w hv hh _ => by
    have h1 := hv x
    have h2 := hv i
    rw [hr x (by simp [Op.operands])] at h1
    rw [hr i (by simp [Op.operands]), hi] at h2
    have h2' := RepD.str_inv h2
    obtain ⟨b, es, clock, e1, e2, e3, e4⟩ := mapOf_rep hh.rep h1 hx
    have hd := tr_map (tget_ok cx.tab ht) hm
    obtain ⟨dk, ik, hdk, _, _, _, _, _, hkind, _⟩ := tr_facts (tget_ok cx.tab htk)
    have := hkind hkk
    subst this
    obtain ⟨ie, z, hie, hz', hzr⟩ := zero_val (tget_ok cx.tab hte) ha hz (ok := okf cx σ h) (w := w)
    have hck : (Instr.checkKey es.isEmpty 10000 kt (.string ⟨n.toArray⟩)).run cx.P w = .ok () w := by
      unfold Instr.checkKey
      simp [run_underlying hdk]
    have hzv : (zeroValue et).run cx.P w = .ok z w := by simp [zeroValue, typeInfo, hie, hz']
    rcases find_nowS n (es := es.toList) (by simpa using e3) (fun j e kv h3 h4 => e4 j e kv (by simpa using h3) h4) hk 0 with ⟨g1, g2, g3⟩ | ⟨j, e, u, g1, g2, g3, g4, g5, g6⟩
    . have hf : (Instr.findKey kt (.string ⟨n.toArray⟩) es.toList).run cx.P w = .ok none w := by simp [Instr.findKey, run_underlying hdk, g2]
      rw [g1]
      cases okc with
      | false =>
        refine ⟨z, w, ?_, Below.refl _ _, hzr⟩
        simp [execOp, e1, h2', Instr.lookup, run_underlying hd, go_map e2, hck, hf, hzv]
      | true =>
        refine ⟨.tuple #[z, .bool false], w, ?_, Below.refl _ _, ?_⟩
        . simp [execOp, e1, h2', Instr.lookup, run_underlying hd, go_map e2, hck, hf, hzv]
        . refine RepD.tup _ _ (by simp) fun i v x hv hx => ?_
          match i with
          | 0 => simp at hv hx; subst hv hx; exact hzr
          | 1 => simp at hv hx; subst hv hx; exact RepD.bool _
          | i + 2 => simp at hv
    . have hf : (Instr.findKey kt (.string ⟨n.toArray⟩) es.toList).run cx.P w = .ok (some (0 + j, e.val)) w := by simp [Instr.findKey, run_underlying hdk, g5]
      have hval := (e4 j e _ (by simpa using g1) g2).2
      rw [g4]
      cases okc with
      | false =>
        refine ⟨e.val, w, ?_, Below.refl _ _, hval⟩
        simp [execOp, e1, h2', Instr.lookup, run_underlying hd, go_map e2, hck, hf]
      | true =>
        refine ⟨.tuple #[e.val, .bool true], w, ?_, Below.refl _ _, ?_⟩
        . simp [execOp, e1, h2', Instr.lookup, run_underlying hd, go_map e2, hck, hf]
        . refine RepD.tup _ _ (by simp) fun i v x hv hx => ?_
          match i with
          | 0 => simp at hv hx; subst hv hx; exact hval
          | 1 => simp at hv hx; subst hv hx; exact RepD.bool _
          | i + 2 => simp at hv
theorem key_staysS {P : Program} {w : World} (n : ByteArray) : (Instr.keyThatStays (.string n) (.string n)).run P w = .ok (.string n) w := by
  have : Instr.sameBits 10000 (.string n) (.string n) = true := by simp [Instr.sameBits, ba_eq]
  simp [Instr.keyThatStays, this]
theorem op_mapPutS {T : Nat} {m i y : Operand} {tr tk : TR} {kt et id : Nat} {kvs : List (D × D)} {n : List UInt8} {u : D} {o : Oper} (ho : execOp = execOp -> ∀ ρ : Operand -> Value, execOp ρ o = (do Instr.mapUpdate T (ρ m) (ρ i) (ρ y); pure .skip)) (hdn : o.dst = none)
    (hx : opv (lk s) m = .own id) (hg : h.get id = some (.map kvs)) (hi : opv (lk s) i = .d (.str n)) (hy : opv (lk s) y = .d u) (ht : tget cx.T T = some tr) (hm : tr.mp = some (kt, et))
    (htk : tget cx.T kt = some tk) (hkk : tk.isStr = true) (hk : keysS kvs = true) :
    OpTo cx o s h s (setH id (.map (mputS n u kvs)) h) := by
  rintro a w ⟨σ, hr⟩ K Q hK
  have h1 := rep_eval hr m
  rw [hx] at h1
  simp only [RepSV, hg] at h1
  have h2 := rep_eval hr i
  rw [hi] at h2
  have h2' := RepD.str_inv h2
  have h3 := rep_eval hr y
  rw [hy] at h3
  have h3' : RepD (okf cx σ h) w (a.eval y) u := h3
  obtain ⟨p0, hp0, rfl, hp2⟩ := get_mem hg
  have hc := hr.heap.rep p0 hp0
  rw [hp2] at hc
  obtain ⟨es, clock, c1, c2, c3⟩ := hc
  have hd := tr_map (tget_ok cx.tab ht) hm
  obtain ⟨dk, ik, hdk, _, _, _, _, _, hkind, _⟩ := tr_facts (tget_ok cx.tab htk)
  have := hkind hkk
  subst this
  have hck : (Instr.checkKey false 10000 kt (.string ⟨n.toArray⟩)).run cx.P w = .ok () w := by
    unfold Instr.checkKey
    simp [run_underlying hdk]
  have hlt : (σ p0.1).b < w.heap.size := by
    rcases Nat.lt_or_ge (σ p0.1).b w.heap.size with h' | h'
    . exact h'
    . simp [Array.getElem?_eq_none h'] at c1
  have fin : ∀ (es' : Array MapEntry) (clock' : Nat) (kvs' : List (D × D)), es'.size = kvs'.length -> (∀ (i : Nat) e kv, es'[i]? = some e -> kvs'[i]? = some kv -> RepD (okf cx σ h) w e.key kv.1 /\ RepD (okf cx σ h) w e.val kv.2) ->
      (execOp a.eval o).run cx.P w = .ok .skip (wset w (σ p0.1).b (.map es' clock')) -> R cx (lk s) (setH p0.1 (.map kvs') h) a (wset w (σ p0.1).b (.map es' clock')) := fun es' clock' kvs' k1 k2 _ => by
    refine ⟨σ, hr.set (w' := wset w (σ p0.1).b (.map es' clock')) (c' := .map kvs') hg (by simp [Chunk.like]) rfl rfl rfl (by simp [wset]) (fun b hb => ?_) fun hok => ?_⟩
    . have hne : (σ p0.1).b ≠ b := fun e => hb (by simp [blk, e])
      simp [wset, Array.getElem?_setIfInBounds_ne hne]
    . exact ⟨es', clock', by simp [wset, hlt], k1, fun i e kv he hkv => ⟨(k2 i e kv he hkv).1.mono hok, (k2 i e kv he hkv).2.mono hok⟩⟩
  have hset : ∀ (ob : Obj), (setObj (σ p0.1).b ob).run cx.P w = .ok () (wset w (σ p0.1).b ob) := fun ob => by simp [setObj, Sem.run, c1, wset]
  unfold Oper.wp
  rcases find_nowS n (es := es.toList) (by simpa using c2) (fun j e kv h3 h4 => c3 j e kv (by simpa using h3) h4) hk 0 with ⟨g1, g2, g3⟩ | ⟨j, e, u', g1, g2, g3, g4, g5, g6⟩
  . have hf : (Instr.findKey kt (.string ⟨n.toArray⟩) es.toList).run cx.P w = .ok none w := by simp [Instr.findKey, run_underlying hdk, g2]
    have run : (execOp a.eval o).run cx.P w = .ok .skip (wset w (σ p0.1).b (.map (es.push { key := .string ⟨n.toArray⟩, val := a.eval y, born := clock }) (clock + 1))) := by
      rw [ho rfl]
      simp [h1, h2', Instr.mapUpdate, run_underlying hd, go_map c1, hck, hf, hset]
    have := fin _ _ (kvs ++ [(.str n, u)]) (by simp [c2]) (fun i e kv he hkv => by
      by_cases hi2 : i < kvs.length
      . rw [List.getElem?_append_left hi2] at hkv
        rw [Array.getElem?_push_lt (by omega)] at he
        exact c3 i e kv (by rw [Array.getElem?_eq_getElem (by omega)]; exact he) hkv
      . by_cases hi3 : i = kvs.length
        . subst hi3
          simp at hkv
          subst hkv
          rw [<- c2] at he
          simp at he
          subst he
          exact ⟨RepD.str _ _ rfl, h3'⟩
        . rw [List.getElem?_eq_none (by simp; omega)] at hkv
          cases hkv) run
    rw [<- g3 u] at this
    rw [run]
    exact hK _ _ (by rw [hdn]; exact this)
  . have hf : (Instr.findKey kt (.string ⟨n.toArray⟩) es.toList).run cx.P w = .ok (some (0 + j, e.val)) w := by simp [Instr.findKey, run_underlying hdk, g5]
    have hj : es[j]? = some e := by simpa using g1
    have run : (execOp a.eval o).run cx.P w = .ok .skip (wset w (σ p0.1).b (.map (es.modify j fun e => { e with key := .string ⟨n.toArray⟩, val := a.eval y }) clock)) := by
      rw [ho rfl]
      simp [h1, h2', Instr.mapUpdate, run_underlying hd, go_map c1, hck, hf, hset, hj, g3, key_staysS]
    have := fin _ _ (kvs.set j (.str n, u)) (by simp [c2]) (fun i e' kv he hkv => by
      by_cases hij : j = i
      . subst hij
        have hjl : j < kvs.length := by
          rcases Nat.lt_or_ge j kvs.length with h' | h'
          . exact h'
          . simp [h'] at g2
        rw [List.getElem?_set_self hjl] at hkv
        cases hkv
        rw [Array.getElem?_modify, if_pos rfl, hj] at he
        cases he
        exact ⟨RepD.str _ _ rfl, h3'⟩
      . rw [List.getElem?_set_ne hij] at hkv
        rw [Array.getElem?_modify, if_neg hij] at he
        exact c3 i e' kv he hkv) run
    rw [<- g6 u] at this
    rw [run]
    exact hK _ _ (by rw [hdn]; exact this)
theorem wo_mapUpdateS {T : Nat} {m i y : Operand} {tr tk : TR} {kt et id : Nat} {kvs : List (D × D)} {n : List UInt8} {u : D} (hx : opv (lk s) m = .own id) (hg : h.get id = some (.map kvs)) (hi : opv (lk s) i = .d (.str n)) (hy : opv (lk s) y = .d u) (ht : tget cx.T T = some tr) (hm : tr.mp = some (kt, et))
    (htk : tget cx.T kt = some tk) (hkk : tk.isStr = true) (hk : keysS kvs = true) :
    OpTo cx ⟨none, .mapUpdate T m i y, ty, pos, af, none⟩ s h s (setH id (.map (mputS n u kvs)) h) := op_mapPutS (fun _ ρ => by simp [execOp]) rfl hx hg hi hy ht hm htk hkk hk
theorem wo_mapInsertS {T : Nat} {m i y : Operand} {tr tk : TR} {kt et id : Nat} {kvs : List (D × D)} {n : List UInt8} {u : D} (hx : opv (lk s) m = .own id) (hg : h.get id = some (.map kvs)) (hi : opv (lk s) i = .d (.str n)) (hy : opv (lk s) y = .d u) (ht : tget cx.T T = some tr) (hm : tr.mp = some (kt, et))
    (htk : tget cx.T kt = some tk) (hkk : tk.isStr = true) (hk : keysS kvs = true) :
    OpTo cx ⟨none, .insert T m i y, ty, pos, af, none⟩ s h s (setH id (.map (mputS n u kvs)) h) := op_mapPutS (fun _ ρ => by simp [execOp]) rfl hx hg hi hy ht hm htk hkk hk
end
structure MGtS (n : List UInt8) (kvs : List (D × D)) (r : Option D) : Prop where
  h : mgetS n kvs = r
theorem wa_gtS {cx : Cx} {h : Heap} {dst : Option Nat} {ty : Nat} {pos : String} {af : Array Edge} {gd : Option (Nat × Bool)} {T : Nat} {x i : Operand} {tr tk te : TR} {kt et : Nat} {f : Nat -> SV} {kvs : List (D × D)} {n : List UInt8} {okc : Bool} {r : Option D} (hx : mapOf h (opv f x) = some kvs) (hi : opv f i = .d (.str n)) (ht : tget cx.T T = some tr) (hm : tr.mp = some (kt, et))
    (htk : tget cx.T kt = some tk) (hkk : tk.isStr = true) (hte : tget cx.T et = some te) (ha : te.agg = false) (hz : Nat.beq te.zero.length 1 = true) (hk : keysS kvs = true) (hr : MGtS n kvs r) :
    Qt cx h ⟨dst, .lookup T x i okc, ty, pos, af, gd⟩ f (.d (mans te okc r)) := by
  have := wa_lookupS (cx := cx) (h := h) (dst := dst) (ty := ty) (pos := pos) (af := af) (gd := gd) (okc := okc) hx hi ht hm htk hkk hte ha hz hk
  rwa [hr.h] at this
end Go.Proofs.YtckpadnjldebaaaGreat
