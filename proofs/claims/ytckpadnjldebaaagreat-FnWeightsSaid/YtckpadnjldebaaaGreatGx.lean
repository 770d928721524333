/- Contracts: contains, keys, codes. Printed by gengx.py. No condition. -/
import Derived.Test.YtckpadnjldebaaaGreatRa
import Derived.Test.YtckpadnjldebaaaGreatGw
namespace Go.Proofs.YtckpadnjldebaaaGreat
open Go
attribute [local irreducible] awp awpL awpQL awpQ awpM pWalk Qt AC thenQ blockQ loopQ OpTo
set_option linter.unusedVariables false
set_option linter.unusedSimpArgs false
set_option maxHeartbeats 2000000
attribute [local irreducible] HC
theorem first_exG {P : Nat -> Prop} : ∀ k, P k -> ∃ D, D <= k /\ P D /\ ∀ d, d < D -> ¬ P d := fun k => by
  induction k using Nat.strongRecOn with
  | _ k ih =>
    intro h
    by_cases he : ∃ d, d < k /\ P d
    . obtain ⟨d, hd, hp⟩ := he
      obtain ⟨D, h1, h2⟩ := ih d hd hp
      exact ⟨D, by omega, h2⟩
    . exact ⟨k, Nat.le_refl _, h, fun d hd hp => he ⟨d, hd, hp⟩⟩
theorem spec_l00HasG {l : List Int} {q : Int} (hn : l.length <= 9223372036854775807) : AC Tryz.prog 272 [ints l, .int .i64 q] (.bool (decide (q ∈ l))) := by
  have hle : (List.map (D.int IntKind.i64) l).length = l.length := by simp
  refine ac_intro tabIs _ Tryz.func272 rfl rfl Tryz.ntmps272 rfl rfl fun w0 ok0 he0 => ?_
  repeat (first | refine zc ?_ | refine zv ?_)
  refine awp_loop (fun k : Nat => k <= l.length /\ q ∉ l.take k) (fun k => [(0, .d (ints l)), (1, .d (.int .i64 q)), (5, .d (.int .i64 k))]) (fun _ => []) (fun k => l.length - k) 0 (by exact ⟨by omega, by simp⟩) ?_ rfl ?_
  . exact zs
  . rintro k ⟨hk, hnot⟩
    by_cases hlt : k < l.length
    . have hx := el_int hlt
      by_cases e : l[k] = q
      . repeat (first | refine zc ?_ | refine zv ?_)
        refine zt ?_
        rw [decide_eq_true (e ▸ List.getElem_mem hlt)]
      . repeat (first | refine zc ?_ | refine zv ?_)
        refine loop_n (k + 1) ⟨by omega, fun h => ?_⟩ ?_ rfl (by omega)
        . rw [List.take_succ_eq_append_getElem hlt, List.mem_append, List.mem_singleton] at h
          rcases h with h | h
          . exact hnot h
          . exact e h.symm
        . exact zs
    . have : k = l.length := by omega
      subst this
      rw [List.take_length] at hnot
      repeat (first | refine zc ?_ | refine zv ?_)
      refine zt ?_
      rw [decide_eq_false hnot]
theorem impl_indexSG {l : List Int} {q : Int} {k0 : Nat} (hn : l.length <= 9223372036854775807) (h0 : k0 < l.length) (hq : l[k0] = q) (hmin : ∀ d, (h : d < k0) -> ¬ l[d] = q) : AC Tryz.prog 276 [ints l, .int .i64 q] (.int .i64 k0) := by
  have hle : (List.map (D.int IntKind.i64) l).length = l.length := by simp
  refine ac_intro tabIs _ Tryz.func276 rfl rfl Tryz.ntmps276 rfl rfl fun w0 ok0 he0 => ?_
  repeat (first | refine zc ?_ | refine zv ?_)
  refine awp_loop (fun k : Nat => k <= k0) (fun k => [(0, .d (ints l)), (1, .d (.int .i64 q)), (7, .d (.int .i64 l.length)), (8, .d (.int .i64 k))]) (fun _ => []) (fun k => l.length - k) 0 (by omega) ?_ rfl ?_
  . refine ⟨rfl, rfl, ?_, rfl, trivial⟩
    simp [lk, args0]
  . intro k hk
    have hlt : k < l.length := by omega
    have hx := el_int hlt
    by_cases e : k < k0
    . have hne := hmin k e
      have hne2 : ¬ q = l[k] := fun h => hne h.symm
      repeat (first | refine zc ?_ | refine zv ?_)
      refine loop_n (k + 1) (by omega) ?_ rfl (by omega)
      exact zs
    . have : k = k0 := by omega
      subst this
      have he : q = l[k] := hq.symm
      repeat (first | refine zc ?_ | refine zv ?_)
      refine zt ?_
      rfl
theorem impl_indexS0G {l : List Int} {q : Int} (hn : l.length <= 9223372036854775807) (hnot : q ∉ l) : AC Tryz.prog 276 [ints l, .int .i64 q] (.int .i64 (-1)) := by
  have hle : (List.map (D.int IntKind.i64) l).length = l.length := by simp
  refine ac_intro tabIs _ Tryz.func276 rfl rfl Tryz.ntmps276 rfl rfl fun w0 ok0 he0 => ?_
  repeat (first | refine zc ?_ | refine zv ?_)
  refine awp_loop (fun k : Nat => k <= l.length) (fun k => [(0, .d (ints l)), (1, .d (.int .i64 q)), (7, .d (.int .i64 l.length)), (8, .d (.int .i64 k))]) (fun _ => []) (fun k => l.length - k) 0 (by omega) ?_ rfl ?_
  . refine ⟨rfl, rfl, ?_, rfl, trivial⟩
    simp [lk, args0]
  . intro k hk
    by_cases hlt : k < l.length
    . have hx := el_int hlt
      have hne2 : ¬ q = l[k] := fun h => hnot (h ▸ List.getElem_mem hlt)
      repeat (first | refine zc ?_ | refine zv ?_)
      refine loop_n (k + 1) (by omega) ?_ rfl (by omega)
      exact zs
    . have : k = l.length := by omega
      subst this
      repeat (first | refine zc ?_ | refine zv ?_)
      refine zt ?_
      rfl
theorem impl_containsSG {l : List Int} {q : Int} (hn : l.length <= 9223372036854775807) : AC Tryz.prog 204 [ints l, .int .i64 q] (.bool (decide (q ∈ l))) := by
  by_cases h : q ∈ l
  . obtain ⟨k, hk, hkq⟩ := List.getElem_of_mem h
    obtain ⟨k0, h1, ⟨h2, h3⟩, h4⟩ := first_exG (P := fun k => ∃ hk : k < l.length, l[k] = q) k ⟨hk, hkq⟩
    have e1 := impl_indexSG hn h2 h3 fun d hd he => h4 d hd ⟨by omega, he⟩
    rw [decide_eq_true h]
    refine ac_intro tabIs _ Tryz.func204 rfl rfl Tryz.ntmps204 rfl rfl fun w0 ok0 he0 => ?_
    repeat (first | refine zc ?_ | refine zk (e := by exact e1) (n := ?_) | refine zv ?_)
    refine zt ?_
    rw [decide_eq_true (by omega)]
  . have e1 := impl_indexS0G hn h
    rw [decide_eq_false h]
    refine ac_intro tabIs _ Tryz.func204 rfl rfl Tryz.ntmps204 rfl rfl fun w0 ok0 he0 => ?_
    repeat (first | refine zc ?_ | refine zk (e := by exact e1) (n := ?_) | refine zv ?_)
    refine zt ?_
    rfl
def kyBG (w : List Int) : List UInt8 := w.map fun n => UInt8.ofNat n.toNat
theorem kyB_injG : ∀ {a b : List Int}, (∀ n ∈ a, 0 <= n /\ n < 256) -> (∀ n ∈ b, 0 <= n /\ n < 256) -> kyBG a = kyBG b -> a = b
  | [], [], _, _, _ => rfl
  | [], _ :: _, _, _, h => by cases h
  | _ :: _, [], _, _, h => by cases h
  | x :: a, y :: b, h1, h2, h => by
    obtain ⟨e1, e2⟩ := List.cons.inj (show UInt8.ofNat x.toNat :: kyBG a = UInt8.ofNat y.toNat :: kyBG b from h)
    have hx := h1 x (List.mem_cons_self ..)
    have hy := h2 y (List.mem_cons_self ..)
    have e3 := congrArg UInt8.toNat e1
    simp only [UInt8.toNat_ofNat'] at e3
    rw [Nat.mod_eq_of_lt (by omega), Nat.mod_eq_of_lt (by omega)] at e3
    rw [kyB_injG (fun n hn => h1 n (List.mem_cons_of_mem _ hn)) (fun n hn => h2 n (List.mem_cons_of_mem _ hn)) e2, show x = y by omega]
theorem u8_wrapG {n : Int} (h : 0 <= n /\ n < 256) : IntKind.u8.wrap n = n := wrap_in (by simp [IntKind.min, IntKind.signed, IntKind.bits]; omega) (by simp [IntKind.max, IntKind.signed, IntKind.bits]; omega)
theorem impl_keyOfG {w : List Int} (hw : ∀ n ∈ w, 0 <= n /\ n < 256) (hl : w.length <= 100000) : AC Tryz.prog 97 [ints w] (.str (kyBG w)) := by
  have hwm : (List.map (D.int .i64) w).length = w.length := by simp
  refine ac_intro tabIs _ Tryz.func97 rfl rfl Tryz.ntmps97 rfl rfl fun w0 ok0 he0 => ?_
  repeat (first | refine v_w (t := 6) ?_ | refine zc ?_ | refine u_w (t := 6) ?_ | refine zv ?_)
  refine awp_loop (fun i : Nat => i <= w.length) (fun i => [(3, .own 6), (7, .d (ints w)), (8, .d (.int .i64 (List.map (D.int .i64) w).length)), (9, .d (.int .i64 i))]) (fun i => [(6, .arr 5 1 ((w.take i).map (.int .u8)))]) (fun i => w.length - i) 0 (by omega) ?_ rfl ?_
  . exact zs
  . intro i hi
    have htl : ((w.take i).map (D.int .u8)).length = i := by simp [hi]
    by_cases hlt : i < w.length
    . have hx := el_int hlt
      have hst := List.take_succ_eq_append_getElem hlt
      have hwr := congrArg (D.int .u8) (u8_wrapG (hw _ (List.getElem_mem hlt)))
      generalize w[i] = n at *
      repeat (first | refine zc ?_ | refine zv ?_)
      refine loop_n (i + 1) (by omega) ?_ ?_ (by omega)
      . exact zs
      . rw [hst, List.map_append]
        exact congrArg (fun d => [(6, Chunk.arr 5 1 ((w.take i).map (D.int .u8) ++ [d]))]) hwr.symm
    . have hie : i = w.length := by omega
      subst hie
      rw [List.take_length]
      repeat (first | refine zc ?_ | refine zv ?_)
      refine zt ?_
      rfl
theorem impl_codeAG {s : Int} {nx : List (List Int)} {g : Nat} {cap : List D} {b : Bool} (h1 : RowsOk nx) (hv : autoOk s nx = true) (hg : AC Tryz.prog g cap (.bool b)) : AC Tryz.prog 89 [.agg [.int .i64 s, rows nx], .fn g cap] (.int .i64 (if b then 0 else 2)) := by
  have e1 := impl_ValidAutomaton (s := s) h1
  rw [hv] at e1
  cases b with
  | true =>
    refine ac_intro tabIs _ Tryz.func89 rfl rfl Tryz.ntmps89 rfl rfl fun w0 ok0 he0 => ?_
    repeat (first | refine zc ?_ | refine zk (e := by exact e1) (n := ?_) | refine zk (e := by exact hg) (n := ?_) | refine zv ?_)
    refine zt ?_
    rfl
  | false =>
    refine ac_intro tabIs _ Tryz.func89 rfl rfl Tryz.ntmps89 rfl rfl fun w0 ok0 he0 => ?_
    repeat (first | refine zc ?_ | refine zk (e := by exact e1) (n := ?_) | refine zk (e := by exact hg) (n := ?_) | refine zv ?_)
    refine zt ?_
    rfl
end Go.Proofs.YtckpadnjldebaaaGreat
namespace Go.Proofs.YtckpadnjldebaaaGreat
open Go
attribute [local irreducible] awp awpL awpQL awpQ awpM pWalk Qt AC thenQ blockQ loopQ OpTo
set_option linter.unusedVariables false
set_option linter.unusedSimpArgs false
set_option maxHeartbeats 2000000
attribute [local irreducible] HC
open Go.RowKit (Below)
section
variable {cx : Cx} {h : Heap} {s : Nat -> SV} {dst : Option Nat} {ty : Nat} {pos : String} {af : Array Edge} {gd : Option (Nat × Bool)}
attribute [local semireducible] Qt in
theorem qa_max {tys : Array TypeId} {x y : Operand} {k k' : IntKind} {a b : Int} (hx : opv s x = .d (.int k a)) (hy : opv s y = .d (.int k' b)) :
    Qt cx h ⟨dst, .call { callee := .builtin .max, args := #[x, y], argTypes := tys }, ty, pos, af, gd⟩ s (.d (.int k (max a b))) :=
  qt_of fun r hr σ c w hv _ _ => by
    have h1 := hv x
    have h2 := hv y
    rw [hr x (by simp [Op.operands, Call.operands]), hx] at h1
    rw [hr y (by simp [Op.operands, Call.operands]), hy] at h2
    have h1' := RepD.int_inv h1
    have h2' := RepD.int_inv h2
    refine ⟨.int k (max a b), w, ?_, Below.refl _ _, RepD.int _ _⟩
    have e : (if b > a then b else a) = max a b := by split <;> omega
    simp [execOp, resolve, invoke, builtin, h1', h2', Builtin.max_, Builtin.max2, e, Sem.run_bind, Sem.run_pure, Result.andThen]
end
def clo2 (nx : List (List Int)) (out : List Int) (i : Nat) : Prop := ∀ (k : Nat) (t : Int), k < i -> out[k]? = some t -> ∀ l : Int, 0 <= l /\ l < nx.length -> at2 nx l t ∈ out
theorem clo2_snoc {nx : List (List Int)} {out : List Int} {i : Nat} {y : Int} (h : clo2 nx out i) (hi : i <= out.length) : clo2 nx (out ++ [y]) i := fun k t hk ht l hl => by
  rw [List.getElem?_append_left (by omega)] at ht
  exact List.mem_append_left _ (h k t hk ht l hl)
theorem clo2_next {nx : List (List Int)} {out : List Int} {i : Nat} {y : Int} (h : clo2 nx out i) (hy : out[i]? = some y) (hl : ∀ l : Int, 0 <= l /\ l < nx.length -> at2 nx l y ∈ out) : clo2 nx out (i + 1) := fun k t hk ht l hl' => by
  by_cases hki : k = i
  . subst hki
    rw [hy] at ht
    rw [<- Option.some.inj ht]
    exact hl l hl'
  . exact h k t (by omega) ht l hl'
theorem Bf.snoc {s q t : Int} {nx : List (List Int)} {out : List Int} (b : Bf s q nx out) (h : t ∉ out) (hr : Rc nx q t) : Bf s q nx (out ++ [t]) :=
  ⟨nd_snoc b.nd h, List.mem_append_left _ b.mem, fun x hx => (List.mem_append.1 hx).elim (b.rc x) fun e => by rw [List.mem_singleton.1 e]; exact hr⟩
theorem impl_reached {s q : Int} {nx : List (List Int)} {lp : List Int} (v : LV s nx lp) (hq : 0 <= q /\ q < s) : AC Tryz.prog 274 [.agg [.int .i64 s, rows nx], .int .i64 q] (ints (rcL s nx q)) := by
  have hs := v.s1
  have hn := v.n1
  have hnl : (List.map ints nx).length = nx.length := by simp
  refine ac_intro tabIs _ Tryz.func274 rfl rfl Tryz.ntmps274 rfl rfl fun w0 ok0 he0 => ?_
  repeat (first | refine v_w (t := 11) ?_ | refine zc ?_ | refine u_w (t := 11) ?_ | refine zv ?_)
  refine awp_loop (fun p : List Int × Nat => Bf s q nx p.1 /\ p.2 <= p.1.length /\ clo2 nx p.1 p.2)
    (fun p => [(2, .d (.ptr (.agg [.int .i64 s, rows nx]))), (5, .own 11), (6, .d (.int .i64 p.2))]) (fun p => [(11, .arr 2 1 (p.1.map (.int .i64)))]) (fun p => s.toNat - p.2) ([q], 0) ⟨⟨by simp, by simp, fun t ht => by rw [List.mem_singleton.1 ht]; exact rc_refl⟩, by simp, fun k t hk => by omega⟩ ?_ rfl ?_
  . exact zs
  . rintro ⟨out, i⟩ ⟨b, hi, hc⟩
    dsimp only at b hi hc
    have hol := b.len v.nx hq
    have hm : (List.map (D.int .i64) out).length = out.length := by simp
    by_cases hlt : i < out.length
    . have hxm := List.getElem_mem hlt
      have hxg : out[i]? = some out[i] := List.getElem?_eq_getElem hlt
      generalize out[i] = x at *
      have hxr := b.rng v.nx hq x hxm
      repeat (first | refine zc ?_ | refine zv ?_)
      refine awp_loop (fun p : List Int × Nat => Bf s q nx p.1 /\ i < p.1.length /\ p.1[i]? = some x /\ clo2 nx p.1 i /\ p.2 <= nx.length /\ ∀ l : Int, 0 <= l /\ l < p.2 -> at2 nx l x ∈ p.1)
        (fun p => [(2, .d (.ptr (.agg [.int .i64 s, rows nx]))), (5, .own 11), (6, .d (.int .i64 i)), (19, .d (rows nx)), (20, .d (.int .i64 (List.map ints nx).length)), (21, .d (.int .i64 p.2))]) (fun p => [(11, .arr 2 1 (p.1.map (.int .i64)))]) (fun p => nx.length - p.2) (out, 0) ⟨b, hlt, hxg, hc, by omega, fun l hl => by omega⟩ ?_ rfl ?_
      . exact zs
      . rintro ⟨o2, k⟩ ⟨b2, hi2, hx2, hc2, hk, hl2⟩
        dsimp only at b2 hi2 hx2 hc2 hk hl2
        have hol2 := b2.len v.nx hq
        have hm2 : (List.map (D.int .i64) o2).length = o2.length := by simp
        by_cases hkl : k < nx.length
        . have hlk : 0 <= (k : Int) /\ (k : Int) < nx.length := by omega
          have r1 := el_row2 hlk
          have r2 := tbl_row v.nx hlk
          have x1 : (o2.map (D.int .i64))[(i : Int).toNat]? = some (.int .i64 x) := by rw [Int.toNat_natCast, List.getElem?_map, hx2]; rfl
          have x2 := el_int2 (ns := row nx k) (q := x) (by omega)
          have ht := rc_step (b2.rc x (List.mem_of_getElem? hx2)) hlk
          have c1 := impl_containsSG (l := o2) (q := at2 nx k x) (by omega)
          rw [show (row nx k).getD x.toNat 0 = at2 nx k x from rfl] at x2
          have hu : ∀ o3 : List Int, (∀ y ∈ o2, y ∈ o3) -> at2 nx k x ∈ o3 -> ∀ l : Int, 0 <= l /\ l < ((k + 1 : Nat) : Int) -> at2 nx l x ∈ o3 := fun o3 h1 h2 l hl => by
            by_cases hlk' : l = k
            . subst hlk'; exact h2
            . exact h1 _ (hl2 l (by omega))
          by_cases hmem : at2 nx k x ∈ o2
          . rw [decide_eq_true hmem] at c1
            have hup := hu o2 (fun _ h => h) hmem
            clear hu
            generalize at2 nx k x = t at *
            repeat (first | refine zc ?_ | refine zk (e := by exact c1) (n := ?_) | refine zv ?_)
            refine loop_n (o2, k + 1) ⟨b2, hi2, hx2, hc2, by dsimp only; omega, hup⟩ ?_ rfl (by dsimp only; omega)
            exact zs
          . rw [decide_eq_false hmem] at c1
            have hup := hu (o2 ++ [at2 nx k x]) (fun _ h => List.mem_append_left _ h) (List.mem_append_right _ (List.mem_singleton.2 rfl))
            clear hu
            have b3 := b2.snoc hmem ht
            generalize at2 nx k x = t at *
            repeat (first | refine zc ?_ | refine zk (e := by exact c1) (n := ?_) | refine zv ?_)
            refine loop_n (o2 ++ [t], k + 1) ⟨b3, by dsimp only; rw [List.length_append]; omega, by dsimp only; rw [List.getElem?_append_left hi2]; exact hx2, clo2_snoc hc2 (by omega), by dsimp only; omega, hup⟩ ?_ ?_ (by dsimp only; omega)
            . exact zs
            . simp only [List.map_append]; rfl
        . have hke : k = nx.length := by omega
          subst hke
          repeat (first | refine zc ?_ | refine zv ?_)
          refine loop_n (o2, i + 1) ⟨b2, by dsimp only; omega, clo2_next hc2 hx2 fun l hl => hl2 l hl⟩ ?_ rfl (by dsimp only; omega)
          exact zs
    . have hie : i = out.length := by omega
      subst hie
      have hall := fun {t} => rc_closed (s := s) (q := q) (nx := nx) b.mem (fun t ht l hl => by
        obtain ⟨k, hk, e⟩ := List.getElem_of_mem ht
        exact hc k t hk (by rw [List.getElem?_eq_getElem hk, e]) l hl) (t := t)
      have e1 := impl_sorted (xs := out) (by omega)
      rw [srtd_of (rcL_ris s nx q) fun t => (rcL_mem v.nx hs.1 hq).trans ⟨fun h => hall h, b.rc t⟩] at e1
      dsimp only
      refine awp_freeze 11 rfl rfl ?_
      repeat (first | refine zc ?_ | refine zk (e := by exact e1) (n := ?_) | refine zv ?_)
      refine zt ?_
      rfl
theorem impl_isConnected {s : Int} {nx : List (List Int)} {lp : List Int} (v : LV s nx lp) : AC Tryz.prog 200 [.agg [.int .i64 s, rows nx]] (.bool (cnB s nx)) := by
  classical
  have hs := v.s1
  refine ac_intro tabIs _ Tryz.func200 rfl rfl Tryz.ntmps200 rfl rfl fun w0 ok0 he0 => ?_
  repeat (first | refine zc ?_ | refine zv ?_)
  refine awp_loop (fun k : Nat => (k : Int) <= s /\ ∀ q : Int, 0 <= q -> q < k -> (rcL s nx q).length = s.toNat) (fun k => [(1, .d (.ptr (.agg [.int .i64 s, rows nx]))), (5, .d (.int .i64 s)), (6, .d (.int .i64 k))]) (fun _ => []) (fun k => s.toNat - k) 0 ⟨by omega, fun q h0 h1 => by omega⟩ ?_ rfl ?_
  . exact zs
  . rintro k ⟨hk, hall⟩
    by_cases hlt : (k : Int) < s
    . have c1 := impl_reached v (q := (k : Int)) (by omega)
      have c2 := impl_size1 (ns := rcL s nx k)
      have hle := rcL_length (nx := nx) (q := (k : Int)) hs.1
      by_cases hf : (rcL s nx k).length = s.toNat
      . have hx : ((rcL s nx k).length : Int) = s := by omega
        rw [hx] at c2
        repeat (first | refine zc ?_ | refine zk (e := by exact c1) (n := ?_) | refine zk (e := by exact c2) (n := ?_) | refine zv ?_)
        refine loop_n (k + 1) ⟨by omega, fun q h0 h1 => ?_⟩ ?_ rfl (by omega)
        . by_cases hqk : q = k
          . subst hqk; exact hf
          . exact hall q h0 (by omega)
        . exact zs
      . have hno : cnB s nx = false := decide_eq_false fun h => hf (h k (by omega) hlt)
        rw [hno]
        repeat (first | refine zc ?_ | refine zk (e := by exact c1) (n := ?_) | refine zk (e := by exact c2) (n := ?_) | refine zv ?_)
        refine zt ?_
        rfl
    . have hyes : cnB s nx = true := decide_eq_true fun q h0 h1 => hall q h0 (by omega)
      rw [hyes]
      repeat (first | refine zc ?_ | refine zv ?_)
      refine zt ?_
      rfl
theorem impl_divisor {a b : Int} (ha : 0 <= a /\ a <= 1000000) (hb : 0 <= b /\ b <= 1000000) : AC Tryz.prog 202 [.int .i64 a, .int .i64 b] (.int .i64 (Int.gcd a b)) := by
  refine ac_intro tabIs _ Tryz.func202 rfl rfl Tryz.ntmps202 rfl rfl fun w0 ok0 he0 => ?_
  repeat (first | refine zc ?_ | refine zv ?_)
  refine awp_loop (fun p : Int × Int => (0 <= p.1 /\ p.1 <= 1000000) /\ (0 <= p.2 /\ p.2 <= 1000000) /\ Int.gcd p.1 p.2 = Int.gcd a b) (fun p => [(0, .d (.int .i64 p.1)), (1, .d (.int .i64 p.2))]) (fun _ => []) (fun p => p.2.toNat) (a, b) ⟨ha, hb, rfl⟩ ?_ rfl ?_
  . exact zs
  . rintro ⟨x, y⟩ ⟨hx, hy, hg⟩
    dsimp only at hx hy hg
    by_cases h0 : y = 0
    . subst h0
      rw [Int.gcd_zero_right] at hg
      have hg : x = ((Int.gcd a b : Nat) : Int) := by omega
      have hmx : max x (IntKind.i64.wrap (0 - x)) = x := by
        rw [wrap_in (by simp [IntKind.min, IntKind.signed, IntKind.bits]; omega) (by simp [IntKind.max, IntKind.signed, IntKind.bits]; omega)]
        omega
      rw [<- hg]
      dsimp only
      repeat (first | refine zc ?_ | ((first | apply x_l | apply x_q | apply x_lr | apply x_qr); (focus (first | (apply qa_max; (iterate 2 (focus (first | exact rfl | (first | assumption | omega | (simp; omega) | (simp; done) | rfl))))))); exact rfl) | (apply v_x; (iterate 2 exact rfl); (focus (intro ok0 nw hle; (first | (apply qa_max; (iterate 2 (focus (first | exact rfl | (first | assumption | omega | (simp; omega) | (simp; done) | rfl)))))))); (iterate 2 exact rfl)) | refine zv ?_)
      refine zt ?_
      rw [hmx]
    . have h1 : 0 <= x % y := Int.emod_nonneg _ h0
      have h2 : x % y < y := Int.emod_lt_of_pos _ (by omega)
      have h3 : Int.gcd y (x % y) = Int.gcd x y := by
        unfold Int.gcd
        rw [Int.natAbs_emod_of_nonneg hx.1, Nat.gcd_comm, <- Nat.gcd_rec, Nat.gcd_comm]
      repeat (first | refine zc ?_ | refine zv ?_)
      refine loop_n (y, x % y) ⟨hy, by dsimp only; omega, by dsimp only; rw [h3, hg]⟩ ?_ rfl (by dsimp only; omega)
      exact zs
structure Bq (s q : Int) (nx : List (List Int)) (out todo : List Int) : Prop where
  ris : out.Pairwise (· < ·)
  mem : q ∈ out
  rc : ∀ t ∈ out, Rc nx q t
  sub : ∀ t ∈ todo, t ∈ out
theorem Bq.rng {s q : Int} {nx : List (List Int)} {out todo : List Int} (b : Bq s q nx out todo) (h : Tbl s s nx) (hq : 0 <= q /\ q < s) : ∀ t ∈ out, 0 <= t /\ t < s := fun t ht => rc_rng (o := 0) h hq (b.rc t ht)
theorem Bq.len {s q : Int} {nx : List (List Int)} {out todo : List Int} (b : Bq s q nx out todo) (h : Tbl s s nx) (hq : 0 <= q /\ q < s) : out.length <= s.toNat := nd_len _ (ris_nd b.ris) fun t ht => by have := b.rng h hq t ht; omega
theorem spec_l01Gcd {a b : Int} (ha : 0 <= a /\ a <= 1000000) (hb : 0 <= b /\ b <= 1000000) : AC Tryz.prog 198 [.int .i64 a, .int .i64 b] (.int .i64 (Int.gcd a b)) := by
  refine ac_intro tabIs _ Tryz.func198 rfl rfl Tryz.ntmps198 rfl rfl fun w0 ok0 he0 => ?_
  repeat (first | refine zc ?_ | refine zv ?_)
  refine awp_loop (fun p : Int × Int => (0 <= p.1 /\ p.1 <= 1000000) /\ (0 <= p.2 /\ p.2 <= 1000000) /\ Int.gcd p.1 p.2 = Int.gcd a b) (fun p => [(0, .d (.int .i64 p.1)), (1, .d (.int .i64 p.2))]) (fun _ => []) (fun p => p.2.toNat) (a, b) ⟨ha, hb, rfl⟩ ?_ rfl ?_
  . exact zs
  . rintro ⟨x, y⟩ ⟨hx, hy, hg⟩
    dsimp only at hx hy hg
    by_cases h0 : y = 0
    . subst h0
      rw [Int.gcd_zero_right] at hg
      have hg : x = ((Int.gcd a b : Nat) : Int) := by omega
      rw [<- hg]
      dsimp only
      repeat (first | refine zc ?_ | refine zv ?_)
      refine zt ?_
      rfl
    . have h1 : 0 <= x % y := Int.emod_nonneg _ h0
      have h2 : x % y < y := Int.emod_lt_of_pos _ (by omega)
      have h3 : Int.gcd y (x % y) = Int.gcd x y := by
        unfold Int.gcd
        rw [Int.natAbs_emod_of_nonneg hx.1, Nat.gcd_comm, <- Nat.gcd_rec, Nat.gcd_comm]
      repeat (first | refine zc ?_ | refine zv ?_)
      refine loop_n (y, x % y) ⟨hy, by dsimp only; omega, by dsimp only; rw [h3, hg]⟩ ?_ rfl (by dsimp only; omega)
      exact zs
end Go.Proofs.YtckpadnjldebaaaGreat
namespace Go.Proofs.YtckpadnjldebaaaGreat
open Go
attribute [local irreducible] awp awpL awpQL awpQ awpM pWalk Qt AC thenQ blockQ loopQ OpTo
set_option linter.unusedVariables false
set_option linter.unusedSimpArgs false
set_option maxHeartbeats 2000000
attribute [local irreducible] HC
def maxL (x : Int) : List Int -> Int
  | [] => x
  | y :: l => maxL (max x y) l
theorem maxL_snoc : ∀ (l : List Int) (x y : Int), maxL x (l ++ [y]) = max (maxL x l) y
  | [], _, _ => rfl
  | z :: l, x, y => maxL_snoc l (max x z) y
theorem impl_Max {x : Int} {l : List Int} (hl : l.length <= 1000) : AC Tryz.prog 58 [ints (x :: l)] (.int .i64 (maxL x l)) := by
  have hle : (List.map (D.int .i64) (x :: l)).length = l.length + 1 := by simp
  have hg0 : (List.map (D.int .i64) (x :: l))[(0 : Int).toNat]? = some (.int .i64 x) := rfl
  have hg : ∀ k (h : k < l.length), (List.map (D.int .i64) (x :: l))[((k : Int) + 1).toNat]? = some (.int .i64 l[k]) := fun k h => by
    rw [show ((k : Int) + 1).toNat = k + 1 by omega]; simp [h]
  unfold ints
  generalize List.map (D.int .i64) (x :: l) = XS at *
  refine ac_intro tabIs _ Tryz.func58 rfl rfl Tryz.ntmps58 rfl rfl fun w0 ok0 he0 => ?_
  repeat (first | refine zc ?_ | refine zv ?_)
  refine awp_loop (fun k : Nat => k <= l.length) (fun k => [(0, .d (.lst XS)), (3, .d (.int .i64 (maxL x (l.take k)))), (4, .d (.int .i64 ((k : Int) + 1)))]) (fun _ => []) (fun k => l.length - k) 0 (by omega) ?_ rfl ?_
  . exact zs
  . intro k hk
    by_cases hlt : k < l.length
    . have g1 := hg k hlt
      have e1 : maxL x (l.take (k + 1)) = max (maxL x (l.take k)) l[k] := by rw [List.take_succ_eq_append_getElem hlt, maxL_snoc]
      generalize l[k] = y at *
      generalize maxL x (l.take k) = m at *
      repeat (first | refine zc ?_ | ((first | apply x_l | apply x_q | apply x_lr | apply x_qr); (focus (first | (apply qa_max; (iterate 2 (focus (first | exact rfl | (first | assumption | omega | (simp; omega) | (simp; done) | rfl))))))); exact rfl) | (apply v_x; (iterate 2 exact rfl); (focus (intro ok0 nw hle; (first | (apply qa_max; (iterate 2 (focus (first | exact rfl | (first | assumption | omega | (simp; omega) | (simp; done) | rfl)))))))); (iterate 2 exact rfl)) | refine zv ?_)
      refine loop_n (k + 1) (by omega) ?_ rfl (by omega)
      rw [e1]
      exact zs
    . have : k = l.length := by omega
      subst this
      rw [List.take_length]
      repeat (first | refine zc ?_ | refine zv ?_)
      refine zt ?_
      rfl
end Go.Proofs.YtckpadnjldebaaaGreat
