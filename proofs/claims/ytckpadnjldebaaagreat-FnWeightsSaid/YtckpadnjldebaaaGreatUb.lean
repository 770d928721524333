/- Shortest words for sets: the program's tour. No condition. -/
import Derived.Test.YtckpadnjldebaaaGreatUa
import Derived.Test.YtckpadnjldebaaaGreatDh
import Derived.Test.YtckpadnjldebaaaGreatFwZ
namespace Go.Proofs.YtckpadnjldebaaaGreat
open Go
attribute [local irreducible] awp awpL awpQL awpQ awpM pWalk Qt AC thenQ blockQ loopQ OpTo
set_option linter.unusedVariables false
set_option linter.unusedSimpArgs false
set_option maxHeartbeats 2000000
attribute [local irreducible] HC HX
def kvU (e : Nat) (bs : List (Option Nat)) (L : List (Nat × List Int)) : List (D × D) := List.zipWith (fun b p => (D.int .u64 ((p.1 : Nat) : Int), tagD e 1 b (p.2.map (.int .i64)))) bs L
theorem kvU_keys {e : Nat} : ∀ (bs : List (Option Nat)) (L : List (Nat × List Int)), keysI .u64 (kvU e bs L) = true
  | [], _ => by simp [kvU, keysI]
  | _ :: _, [] => by simp [kvU, keysI]
  | b :: bs, p :: L => by
    show keysI .u64 ((D.int .u64 ((p.1 : Nat) : Int), _) :: kvU e bs L) = true
    simp only [keysI, Bool.and_eq_true]
    exact ⟨rfl, kvU_keys bs L⟩
theorem kvU_none {e c : Nat} : ∀ (bs : List (Option Nat)) (L : List (Nat × List Int)), c ∉ L.map (·.1) -> mget ((c : Nat) : Int) (kvU e bs L) = none
  | [], _, _ => by simp [kvU, mget]
  | _ :: _, [], _ => by simp [kvU, mget]
  | b :: bs, p :: L, h => by
    simp only [List.map_cons, List.mem_cons, not_or] at h
    show mget _ ((D.int .u64 ((p.1 : Nat) : Int), _) :: kvU e bs L) = none
    simp only [mget]
    rw [if_neg (by omega)]
    exact kvU_none bs L h.2
theorem kvU_get {e : Nat} : ∀ (bs : List (Option Nat)) (L : List (Nat × List Int)) (i : Nat) (b : Option Nat) (p : Nat × List Int), (L.map (·.1)).Nodup -> bs[i]? = some b -> L[i]? = some p -> mget ((p.1 : Nat) : Int) (kvU e bs L) = some (tagD e 1 b (p.2.map (.int .i64)))
  | [], _, i, b, p, _, hb, _ => by simp at hb
  | _ :: _, [], i, b, p, _, _, hp => by simp at hp
  | b' :: bs, p' :: L, 0, b, p, hn, hb, hp => by
    simp at hb hp; subst hb hp
    show mget _ ((D.int .u64 ((p'.1 : Nat) : Int), _) :: kvU e bs L) = _
    simp [mget]
  | b' :: bs, p' :: L, i + 1, b, p, hn, hb, hp => by
    have hp' : L[i]? = some p := by simpa using hp
    simp only [List.map_cons, List.nodup_cons] at hn
    have hne : p.1 ≠ p'.1 := fun e => hn.1 (e ▸ List.mem_map_of_mem (List.mem_of_getElem? hp'))
    show mget _ ((D.int .u64 ((p'.1 : Nat) : Int), _) :: kvU e bs L) = _
    simp only [mget]
    rw [if_neg (by omega)]
    exact kvU_get bs L i b p hn.2 (by simpa using hb) hp'
theorem kvU_put {e c : Nat} {ob : Option Nat} {w : List Int} : ∀ (bs : List (Option Nat)) (L : List (Nat × List Int)), bs.length = L.length -> c ∉ L.map (·.1) -> mput .u64 ((c : Nat) : Int) (tagD e 1 ob (w.map (.int .i64))) (kvU e bs L) = kvU e (bs ++ [ob]) (L ++ [(c, w)])
  | [], [], _, _ => rfl
  | [], _ :: _, h, _ => by simp at h
  | _ :: _, [], h, _ => by simp at h
  | b :: bs, p :: L, hl, h => by
    simp only [List.map_cons, List.mem_cons, not_or] at h
    have ih := kvU_put (e := e) (ob := ob) (w := w) bs L (by simpa using hl) h.2
    show mput .u64 _ _ ((D.int .u64 ((p.1 : Nat) : Int), tagD e 1 b (p.2.map (.int .i64))) :: kvU e bs L) = (D.int .u64 ((p.1 : Nat) : Int), tagD e 1 b (p.2.map (.int .i64))) :: kvU e (bs ++ [ob]) (L ++ [(c, w)])
    simp only [mput]
    rw [if_neg (by omega), ih]
theorem kvU_tags {e : Nat} : ∀ (bs : List (Option Nat)) (L : List (Nat × List Int)), bs.length = L.length -> ∀ b, some b ∈ bs -> ∃ kv ∈ kvU e bs L, ∃ e' sz' zs, kv.2 = .rowb b e' sz' zs
  | [], _, _, b, h => by cases h
  | _ :: _, [], hl, _, _ => by simp at hl
  | b' :: bs, p :: L, hl, b, h => by
    show ∃ kv ∈ (D.int .u64 ((p.1 : Nat) : Int), tagD e 1 b' (p.2.map (.int .i64))) :: kvU e bs L, _
    rcases List.mem_cons.1 h with h | h
    . subst h
      exact ⟨_, List.mem_cons_self .., e, 1, _, rfl⟩
    . obtain ⟨kv, h1, h2⟩ := kvU_tags (e := e) bs L (by simpa using hl) b h
      exact ⟨kv, List.mem_cons_of_mem _ h1, h2⟩
abbrev QL := List (Nat × List Int)
def addQ (L : QL) (c : Nat) (w : List Int) : QL := if c ∈ L.map (·.1) then L else L ++ [(c, w)]
theorem addQ_new {L : QL} {c : Nat} {w : List Int} (h : c ∉ L.map (·.1)) : addQ L c w = L ++ [(c, w)] := if_neg h
theorem addQ_old {L : QL} {c : Nat} {w : List Int} (h : c ∈ L.map (·.1)) : addQ L c w = L := if_pos h
theorem addQ_pre (L : QL) (c : Nat) (w : List Int) : ∃ t, addQ L c w = L ++ t := by
  unfold addQ
  split
  . exact ⟨[], by simp⟩
  . exact ⟨_, rfl⟩
def letQ (nf : Nat -> Nat -> Nat) (p : Nat × List Int) (L : QL) : Nat -> QL
  | 0 => L
  | x + 1 => addQ (letQ nf p L x) (nf p.1 x) (p.2 ++ [(x : Int)])
def lstQ (nf : Nat -> Nat -> Nat) (n fr : Nat) : Nat -> QL
  | 0 => [(fr, [])]
  | i + 1 => match (lstQ nf n fr i)[i]? with
    | some p => letQ nf p (lstQ nf n fr i) n
    | none => lstQ nf n fr i
def goF (nf : Nat -> Nat -> Nat) (f : Nat) (w : List Int) : Nat := w.foldl (fun c l => nf c l.toNat) f
structure QOk (N n fr : Nat) (nf : Nat -> Nat -> Nat) (L : QL) : Prop where
  nd : (L.map (·.1)).Nodup
  lt : ∀ p ∈ L, p.1 < N
  wl : ∀ p ∈ L, p.2.length < L.length
  el : ∀ p ∈ L, ∀ l ∈ p.2, 0 <= l /\ l < n
  rt : ∀ p ∈ L, goF nf fr p.2 = p.1
section
variable {N n fr : Nat} {nf : Nat -> Nat -> Nat}
theorem QOk.len {L : QL} (h : QOk N n fr nf L) : L.length <= N := by
  have := nodup_le N (L.map (·.1)) h.nd fun x hx => by
    obtain ⟨p, hp, rfl⟩ := List.mem_map.1 hx
    exact h.lt p hp
  simpa using this
theorem addQ_ok {L : QL} {c : Nat} {w : List Int} (h : QOk N n fr nf L) (hc : c < N) (hw : w.length <= L.length) (hl : ∀ l ∈ w, 0 <= l /\ l < n) (hr : goF nf fr w = c) : QOk N n fr nf (addQ L c w) := by
  unfold addQ
  split
  . exact h
  . rename_i hn
    refine ⟨?_, fun p hp => ?_, fun p hp => ?_, fun p hp => ?_, fun p hp => ?_⟩
    . rw [List.map_append]
      refine List.nodup_append.2 ⟨h.nd, by simp, fun a ha b hb => ?_⟩
      simp only [List.map_cons, List.map_nil, List.mem_singleton] at hb
      subst hb
      exact fun e => hn (e ▸ ha)
    . rcases List.mem_append.1 hp with h1 | h1
      . exact h.lt p h1
      . simp only [List.mem_singleton] at h1; subst h1; exact hc
    . rw [List.length_append, List.length_singleton]
      rcases List.mem_append.1 hp with h1 | h1
      . have := h.wl p h1; omega
      . simp only [List.mem_singleton] at h1; subst h1; show w.length < _; omega
    . rcases List.mem_append.1 hp with h1 | h1
      . exact h.el p h1
      . simp only [List.mem_singleton] at h1; subst h1; exact hl
    . rcases List.mem_append.1 hp with h1 | h1
      . exact h.rt p h1
      . simp only [List.mem_singleton] at h1; subst h1; exact hr
theorem letQ_pre (p : Nat × List Int) (L : QL) : ∀ k, ∃ t, letQ nf p L k = L ++ t
  | 0 => ⟨[], by simp [letQ]⟩
  | k + 1 => by
    obtain ⟨t, ht⟩ := letQ_pre p L k
    obtain ⟨u, hu⟩ := addQ_pre (letQ nf p L k) (nf p.1 k) (p.2 ++ [(k : Int)])
    exact ⟨t ++ u, by show addQ _ _ _ = _; rw [hu, ht, List.append_assoc]⟩
theorem letQ_ok (hn : ∀ c x, c < N -> x < n -> nf c x < N) {p : Nat × List Int} {L : QL} (h : QOk N n fr nf L) (hp : p ∈ L) : ∀ k, k <= n -> QOk N n fr nf (letQ nf p L k)
  | 0, _ => h
  | k + 1, hk => by
    have ih := letQ_ok hn h hp k (by omega)
    obtain ⟨t, ht⟩ := letQ_pre (nf := nf) p L k
    have hw := h.wl p hp
    refine addQ_ok ih (hn _ _ (h.lt p hp) (by omega)) ?_ (fun l hl => ?_) ?_
    . rw [ht, List.length_append, List.length_append]
      simp only [List.length_singleton]
      omega
    . rcases List.mem_append.1 hl with hl | hl
      . exact h.el p hp l hl
      . simp only [List.mem_singleton] at hl; subst hl; omega
    . show List.foldl _ _ (p.2 ++ [(k : Int)]) = _
      rw [List.foldl_append]
      show nf (goF nf fr p.2) ((k : Int).toNat) = _
      rw [h.rt p hp, Int.toNat_natCast]
theorem lstQ_ok (hn : ∀ c x, c < N -> x < n -> nf c x < N) (hf : fr < N) : ∀ i, QOk N n fr nf (lstQ nf n fr i)
  | 0 => by
    refine ⟨by simp [lstQ], fun p hp => ?_, fun p hp => ?_, fun p hp => ?_, fun p hp => ?_⟩
    . simp only [lstQ, List.mem_singleton] at hp; subst hp; exact hf
    . simp only [lstQ, List.mem_singleton] at hp; subst hp; simp [lstQ]
    . simp only [lstQ, List.mem_singleton] at hp; subst hp; simp
    . simp only [lstQ, List.mem_singleton] at hp; subst hp; rfl
  | i + 1 => by
    have ih := lstQ_ok hn hf i
    unfold lstQ
    split
    . rename_i p hp
      exact letQ_ok hn ih (List.mem_of_getElem? hp) n (Nat.le_refl _)
    . exact ih
theorem lstQ_next {i : Nat} {p : Nat × List Int} (hp : (lstQ nf n fr i)[i]? = some p) : lstQ nf n fr (i + 1) = letQ nf p (lstQ nf n fr i) n := by
  conv => lhs; unfold lstQ
  rw [hp]
theorem lstQ_stop {i : Nat} (h : (lstQ nf n fr i).length <= i) : ∀ d, lstQ nf n fr (i + d) = lstQ nf n fr i
  | 0 => rfl
  | d + 1 => by
    have ih := lstQ_stop h d
    show lstQ nf n fr (i + d + 1) = _
    conv => lhs; unfold lstQ
    rw [ih, List.getElem?_eq_none (by omega)]
def trQ (nf : Nat -> Nat -> Nat) (n fr : Nat) : QL := lstQ nf n fr 1024
theorem trQ_eq {i : Nat} (hi : i <= 1024) (h : (lstQ nf n fr i).length <= i) : lstQ nf n fr i = trQ nf n fr := by
  have := lstQ_stop h (1024 - i)
  rw [show i + (1024 - i) = 1024 by omega] at this
  exact this.symm
end
def ordU (L : QL) : List D := L.map fun p => D.int .u64 (p.1 : Nat)
def wrQ (L : QL) : List (List Int) := L.map (·.2)
theorem wrQ_snoc (L : QL) (c : Nat) (w : List Int) : rws (wrQ (L ++ [(c, w)])) = rws (wrQ L) ++ [w.map (.int .i64)] := by simp [rws, wrQ]
theorem wrQ_len (L : QL) : (rws (wrQ L)).length = L.length := by simp [rws, wrQ]
theorem ordU_snoc (L : QL) (c : Nat) (w : List Int) : ordU (L ++ [(c, w)]) = ordU L ++ [.int .u64 (c : Nat)] := by simp [ordU]
theorem tags_noneQ {n : Nat} {bs : List (Option Nat)} {xs : List (List Int)} {i : Nat} {w : List Int} (T : Tags n bs (rws xs)) (hx : xs[i]? = some w) (hb : bs[i]? = some none) : w.map (D.int .i64) = [] := by
  have := T.emp i hb
  rw [show (rws xs)[i]? = some (w.map (.int .i64)) by simp [rws, hx]] at this
  exact Option.some.inj this
def nfB (nx : List (List Int)) (f x : Nat) : Nat := bitsL 0 ((setN f).map fun q => at2 nx x q)
theorem nfB_lt {s : Int} {nx : List (List Int)} {lp : List Int} (v : LV s nx lp) {f x : Nat} (hf : f < 2 ^ s.toNat) (hx : x < nx.length) : nfB nx f x < 2 ^ s.toNat := bits_lt _ _ (Nat.two_pow_pos _) fun q hq => by
  obtain ⟨r, hr, rfl⟩ := List.mem_map.1 hq
  have h1 := setN_lt hf hr
  have := tbl_at v.nx (l := (x : Int)) (q := r) (by omega) (by omega)
  omega
def kvP (L : QL) : List (D × D) := L.map fun p => (D.int .u64 (p.1 : Nat), D.lst (p.2.map (.int .i64)))
theorem kvU_imp {n e : Nat} {bs : List (Option Nat)} {L : QL} (T : Tags n bs (rws (wrQ L))) : ∀ (ok : Nat -> Prop) (w : World) (v : Value), RepD ok w v (.map (kvU e bs L)) -> RepD ok w v (.map (kvP L)) := fun ok w v h => by
  have hl : bs.length = L.length := by rw [T.len, wrQ_len]
  have hkl : (kvU e bs L).length = L.length := by simp [kvU, hl]
  have hget : ∀ (i : Nat) (kv : D × D), (kvP L)[i]? = some kv -> ∃ ku, (kvU e bs L)[i]? = some ku /\ ku.1 = kv.1 /\ D.Le ku.2 kv.2 := fun i kv hi => by
    unfold kvP at hi
    rw [List.getElem?_map, Option.map_eq_some_iff] at hi
    obtain ⟨p, hp, rfl⟩ := hi
    have hil : i < L.length := by
      rcases Nat.lt_or_ge i L.length with h | h
      . exact h
      . rw [List.getElem?_eq_none h] at hp; cases hp
    have hb : bs[i]? = some (bs[i]'(by omega)) := List.getElem?_eq_getElem (by omega)
    refine ⟨(D.int .u64 (p.1 : Nat), tagD e 1 (bs[i]'(by omega)) (p.2.map (.int .i64))), by simp [kvU, List.getElem?_zipWith, hb, hp], rfl, tagD_le fun hn => ?_⟩
    exact tags_noneQ (xs := wrQ L) (i := i) T (by simp [wrQ, hp]) (by rw [hb, hn])
  cases h with
  | map b es clock kvs h1 h2 h3 h4 h5 =>
    refine .map b es clock _ h1 h2 (by rw [h3, hkl]; simp [kvP]) (fun i e kv he hk => ?_) (fun i e kv he hk => ?_)
    . obtain ⟨ku, k1, k2, _⟩ := hget i kv hk
      have := h4 i e ku he k1
      rwa [k2] at this
    . obtain ⟨ku, k1, _, k3⟩ := hget i kv hk
      exact (h5 i e ku he k1).le k3
theorem R_cellImp {cx : Cx} {s : Slots} {h : Heap} {a : Act} {w : World} {id off : Nat} {cells : List SV} {x y : D} (hr : R cx (lk s) h a w) (hg : h.get id = some (.box cells)) (hc : cells[off]? = some (.d x)) (hl : ∀ (ok : Nat -> Prop) (w : World) (v : Value), RepD ok w v x -> RepD ok w v y) :
    R cx (lk s) (setH id (.box (cells.set off (.d y))) h) a w := by
  obtain ⟨σ, hr⟩ := hr
  have hlike : (Chunk.box cells).like (.box (cells.set off (.d y))) := by simp [Chunk.like]
  refine ⟨σ, hr.set (w' := w) hg hlike rfl rfl rfl rfl (fun _ _ => rfl) fun hok => ?_⟩
  obtain ⟨p, hp, hp1, hp2⟩ := get_mem hg
  have hrep := hr.heap.rep p hp
  rw [hp2, hp1] at hrep
  obtain ⟨h0, cs, t, h1, h2, h3⟩ := hrep
  refine ⟨h0, cs, t, h1, by simpa using h2, fun i v x' hv hx => ?_⟩
  by_cases e : i = off
  . subst e
    have hlt : i < cells.length := by
      rcases Nat.lt_or_ge i cells.length with hh | hh
      . exact hh
      . simp [hh] at hc
    rw [List.getElem?_set_self hlt] at hx
    cases hx
    obtain ⟨k1, k2⟩ := h3 i v _ hv hc
    have k1 : RepD (okf cx σ h) w v x := k1
    exact ⟨(hl _ _ _ k1).mono hok, k2⟩
  . rw [List.getElem?_set_ne (by omega)] at hx
    obtain ⟨k1, k2⟩ := h3 i v x' hv hx
    exact ⟨RepSV.set k1 hg hlike hok, k2⟩
attribute [local semireducible] awp in
theorem awp_cellImp {cx : Cx} {s : Slots} {h : Heap} {Q : Exit -> Slots -> Heap -> Prop} {c : Code} (id off : Nat) {cells : List SV} {x y : D} (hg : h.get id = some (.box cells)) (hc : cells[off]? = some (.d x)) (hl : ∀ (ok : Nat -> Prop) (w : World) (v : Value), RepD ok w v x -> RepD ok w v y) (hn : awp cx c s (setH id (.box (cells.set off (.d y))) h) Q) : awp cx c s h Q := fun a w hr => hn a w (R_cellImp hr hg hc hl)
theorem impl_tour {s : Int} {nx : List (List Int)} {lp : List Int} {fr : Nat} (v : LV s nx lp) (hf : fr < 2 ^ s.toNat) :
    AC Tryz.prog 113 [.agg [.int .i64 s, rows nx], .int .u64 fr] (.agg [.lst (ordU (trQ (nfB nx) nx.length fr)), .map (kvP (trQ (nfB nx) nx.length fr))]) := by
  have hs := v.s1
  have hn := v.n1
  have hpw := pow_le (m := s.toNat) (by omega)
  have hle : (List.map ints nx).length = nx.length := by simp
  have hokk := fun i => lstQ_ok (nf := nfB nx) (n := nx.length) (fun c x hc hx => nfB_lt v hc hx) hf i
  have e0 := impl_letters (s := s) (nx := nx)
  refine ac_introC tabIs _ Tryz.func113 rfl rfl Tryz.ntmps113 rfl rfl fun w0 ok0 he0 => ?_
  repeat (first | refine zcr ?_ | refine zv ?_)
  refine awp_region ?_
  repeat (first | refine zcr ?_ | refine zv ?_)
  refine awp_region ?_
  repeat (first | refine v_w (t := 16) ?_ | refine v_w (t := 13) ?_ | refine zcr ?_ | refine u_w (t := 13) ?_ | refine u_w (t := 16) ?_ | refine zv ?_)
  refine awpL_tagFirst 16 rfl rfl fun ob T0 => ?_
  (apply lto; (focus (apply wo_mapInsert; (iterate 9 exact rfl))))
  repeat (first | refine zcr ?_ | refine zv ?_)
  refine awp_sub (s' := [(2, .d (.ptr (.agg [.int .i64 s, rows nx]))), (4, .ref 4 0), (5, .ref 5 0)]) (by exact zs) ?_
  refine awp_permTo [(4, .box [.d .nils, .d .nilm]), (5, .box [.own 13, .own 14]), (13, .arr 127 1 (ordU (lstQ (nfB nx) nx.length fr 0))), (14, .map (kvU 2 [ob] (lstQ (nfB nx) nx.length fr 0)))] (by as_aux_lemma => kernel_rfl) ?_
  refine awp_region ?_
  repeat (first | refine zcr ?_ | refine zv ?_)
  refine awp_loop (fun q : Nat × List (Option Nat) => q.1 <= 1024 /\ Tags w0.heap.size q.2 (rws (wrQ (lstQ (nfB nx) nx.length fr q.1)))) (fun q => [(2, .d (.ptr (.agg [.int .i64 s, rows nx]))), (4, .ref 4 0), (5, .ref 5 0), (6, .d (.int .i64 q.1))])
    (fun q => [(4, .box [.d .nils, .d .nilm]), (5, .box [.own 13, .own 14]), (13, .arr 127 1 (ordU (lstQ (nfB nx) nx.length fr q.1))), (14, .map (kvU 2 q.2 (lstQ (nfB nx) nx.length fr q.1)))]) (fun q => 1024 - q.1) (0, [ob]) ⟨Nat.zero_le _, T0⟩ ?_ rfl ?_
  . exact zs
  . rintro ⟨i, bs⟩ ⟨hi, T⟩
    dsimp only at hi T ⊢
    have hok0 := hokk i
    have hl := hok0.len
    have hlo : (ordU (lstQ (nfB nx) nx.length fr i)).length = (lstQ (nfB nx) nx.length fr i).length := by simp [ordU]
    by_cases hlt : i < (lstQ (nfB nx) nx.length fr i).length
    . have hp : (lstQ (nfB nx) nx.length fr i)[i]? = some (lstQ (nfB nx) nx.length fr i)[i] := List.getElem?_eq_getElem hlt
      have hpm : (lstQ (nfB nx) nx.length fr i)[i] ∈ lstQ (nfB nx) nx.length fr i := List.getElem_mem hlt
      have hnx := lstQ_next hp
      have hlo0 := hok0.lt _ hpm
      have hwl := hok0.wl _ hpm
      have hok := letQ_ok (nf := nfB nx) (fun c x hc hx => nfB_lt v hc hx) hok0 hpm
      have hpre := letQ_pre (nf := nfB nx) (lstQ (nfB nx) nx.length fr i)[i] (lstQ (nfB nx) nx.length fr i)
      generalize (lstQ (nfB nx) nx.length fr i)[i] = p at *
      have x0 : (ordU (lstQ (nfB nx) nx.length fr i))[(i : Int).toNat]? = some (.int .u64 (p.1 : Nat)) := by rw [Int.toNat_natCast]; simp [ordU, hp]
      repeat (first | refine zc ?_ | refine zk (e := by exact e0) (n := ?_) | refine zv ?_)
      refine awp_loop (fun q : Nat × List (Option Nat) => q.1 <= nx.length /\ Tags w0.heap.size q.2 (rws (wrQ (letQ (nfB nx) p (lstQ (nfB nx) nx.length fr i) q.1)))) (fun q => [(2, .d (.ptr (.agg [.int .i64 s, rows nx]))), (4, .ref 4 0), (5, .ref 5 0), (6, .d (.int .i64 i)), (7, .d (.int .u64 (p.1 : Nat))), (32, .d (.int .i64 nx.length)), (33, .d (.int .i64 q.1))])
        (fun q => [(4, .box [.d .nils, .d .nilm]), (5, .box [.own 13, .own 14]), (13, .arr 127 1 (ordU (letQ (nfB nx) p (lstQ (nfB nx) nx.length fr i) q.1))), (14, .map (kvU 2 q.2 (letQ (nfB nx) p (lstQ (nfB nx) nx.length fr i) q.1)))]) (fun q => nx.length - q.1) (0, bs) ⟨Nat.zero_le _, T⟩ ?_ rfl ?_
      . exact zs
      . rintro ⟨k, cs⟩ ⟨hk, T2⟩
        dsimp only at hk T2 ⊢
        have hokk2 := hok k hk
        have hlk := hokk2.len
        obtain ⟨t, ht⟩ := hpre k
        have hpk : (letQ (nfB nx) p (lstQ (nfB nx) nx.length fr i) k)[i]? = some p := by rw [ht, List.getElem?_append_left hlt]; exact hp
        have hTl := T2.len
        rw [wrQ_len] at hTl
        by_cases hkn : k < nx.length
        . have hst : letQ (nfB nx) p (lstQ (nfB nx) nx.length fr i) (k + 1) = addQ (letQ (nfB nx) p (lstQ (nfB nx) nx.length fr i) k) (nfB nx p.1 k) (p.2 ++ [(k : Int)]) := rfl
          have e1 : AC Tryz.prog 227 [.agg [.int .i64 s, rows nx], .int .u64 (p.1 : Nat), .int .i64 (k : Nat)] (.int .u64 (nfB nx p.1 k : Nat)) := impl_step v (by omega) (fun q hq => by have := setN_lt hlo0 hq; omega) (by omega)
          have hcN := nfB_lt v hlo0 hkn
          have hiL : i < (letQ (nfB nx) p (lstQ (nfB nx) nx.length fr i) k).length := by rw [ht, List.length_append]; omega
          generalize letQ (nfB nx) p (lstQ (nfB nx) nx.length fr i) k = L at *
          have hlL : (ordU L).length = L.length := by simp [ordU]
          generalize nfB nx p.1 k = c at *
          have hkeys : keysI .u64 (kvU 2 cs L) = true := kvU_keys cs L
          by_cases hm : c ∈ L.map (·.1)
          . rw [addQ_old hm] at hst
            obtain ⟨q, hq, hqe⟩ := List.mem_map.1 hm
            obtain ⟨j, hj, e⟩ := List.getElem_of_mem hq
            have hLj : L[j]? = some q := by rw [List.getElem?_eq_getElem hj, e]
            have hg : MGt ((c : Nat) : Int) (kvU 2 cs L) (some (tagD 2 1 (cs[j]'(by omega)) (q.2.map (.int .i64)))) := ⟨by rw [<- hqe]; exact kvU_get cs L j _ q hokk2.nd (List.getElem?_eq_getElem (by omega)) hLj⟩
            repeat (first | refine zc ?_ | ((first | apply x_l | apply x_q | apply x_lr | apply x_qr); (focus (first | (apply wa_gt; (iterate 11 (focus (first | exact rfl | (first | assumption | omega | (simp; omega) | (simp; done) | rfl))))))); exact rfl) | refine zk (e := by exact e1) (n := ?_) | (apply v_x; (iterate 2 exact rfl); (focus (intro ok0 nw hle; (first | (apply wa_gt; (iterate 11 (focus (first | exact rfl | (first | assumption | omega | (simp; omega) | (simp; done) | rfl)))))))); (iterate 2 exact rfl)) | refine zv ?_)
            refine loop_n (k + 1, cs) ⟨by show k + 1 <= _; omega, by rw [hst]; exact T2⟩ ?_ ?_ (by show _ - (k + 1) < _ - k; omega)
            . exact zs
            . show [_, _, _, _] = _
              rw [hst]
          . rw [addQ_new hm] at hst
            have hg : MGt ((c : Nat) : Int) (kvU 2 cs L) none := ⟨kvU_none cs L hm⟩
            have hb2 : cs[i]? = some (cs[i]'(by omega)) := List.getElem?_eq_getElem (by omega)
            have hg2 : MGt ((p.1 : Nat) : Int) (kvU 2 cs L) (some (tagD 2 1 (cs[i]'(by omega)) (p.2.map (.int .i64)))) := ⟨kvU_get cs L i _ p hokk2.nd hb2 hpk⟩
            have hbn : cs[i]'(by omega) = none -> p.2.map (D.int .i64) = [] := fun hn => tags_noneQ (xs := wrQ L) (i := i) T2 (by simp [wrQ, hpk]) (by rw [hb2, hn])
            have e2 := HC.le1 (impl_cloneH (ns := p.2) (by omega)) (tagD_le (e := 2) (sz := 1) hbn)
            have hmt := kvU_tags (e := 2) cs L (by omega)
            generalize cs[i]'(by omega) = b at *
            have hw : (p.2 ++ [(k : Int)]).map (D.int .i64) = p.2.map (D.int .i64) ++ [.int .i64 k] := by simp
            have hwb : (p.2.map (D.int .i64)).length + 1 <= 1099511627776 := by simp; omega
            repeat (first | refine zcn ?_ | ((first | apply x_l | apply x_q | apply x_lr | apply x_qr); (focus (first | (apply wa_gt; (iterate 11 (focus (first | exact rfl | (first | assumption | omega | (simp; omega) | (simp; done) | rfl))))))); exact rfl) | refine zk (e := by exact e1) (n := ?_) | (apply v_x; (iterate 2 exact rfl); (focus (intro ok0 nw hle; (first | (apply wa_gt; (iterate 11 (focus (first | exact rfl | (first | assumption | omega | (simp; omega) | (simp; done) | rfl)))))))); (iterate 2 exact rfl)) | refine zv ?_)
            refine awp_planT 11 [(7, [500]), (10, [500])] (.tk [500] [0, 1, 2, 3, 4, 5, 6, 8, 9] (.tk [] [7, 10] .done)) mixedIs (by as_aux_lemma => kernel_rfl) rfl ?_
            repeat (first | refine zc ?_ | ((first | apply x_l | apply x_q | apply x_lr | apply x_qr); (focus (first | (apply wa_gt; (iterate 11 (focus (first | exact rfl | (first | assumption | omega | (simp; omega) | (simp; done) | rfl))))))); exact rfl) | (apply v_x; (iterate 2 exact rfl); (focus (intro ok0 nw hle; (first | (apply wa_gt; (iterate 11 (focus (first | exact rfl | (first | assumption | omega | (simp; omega) | (simp; done) | rfl)))))))); (iterate 2 exact rfl)) | refine zv ?_)
            refine hclM [] [(30000, 500)] e2 ?_
            repeat (first | refine zc ?_ | refine zv ?_)
            refine awpL_tagMap 500 14 T2 rfl rfl hmt rfl fun ob' T3 => ?_
            (apply lto; (focus (apply wo_mapUpdate; (iterate 8 exact rfl); exact hkeys)))
            repeat (first | refine zcr ?_ | refine zv ?_)
            refine awp_region ?_
            repeat (first | refine zcr ?_ | refine zv ?_)
            refine awp_perm _ rfl ?_
            repeat (first | refine zc ?_ | refine zv ?_)
            refine loop_n (k + 1, cs ++ [ob']) ⟨by show k + 1 <= _; omega, by rw [hst, wrQ_snoc, hw]; exact T3⟩ ?_ ?_ (by show _ - (k + 1) < _ - k; omega)
            . exact zs
            . show [_, _, _, _] = _
              rw [hst, ordU_snoc, <- kvU_put cs L (by omega) hm, hw]
              rfl
        . have hke : k = nx.length := by omega
          subst hke
          repeat (first | refine zc ?_ | refine zv ?_)
          refine loop_n (i + 1, cs) ⟨by show i + 1 <= _; omega, by rw [hnx]; exact T2⟩ ?_ ?_ (by show _ - (i + 1) < _ - i; omega)
          . exact zs
          . show [_, _, _, _] = _
            rw [hnx]
    . have hce := trQ_eq (nf := nfB nx) (n := nx.length) (fr := fr) hi (by omega)
      rw [hce] at hlo hlt T ⊢
      have hokT := hok0
      rw [hce] at hokT
      generalize trQ (nfB nx) nx.length fr = TQ at *
      repeat (first | refine zc ?_ | refine zv ?_)
      refine awp_freeze 13 rfl rfl ?_
      refine awp_freeze 14 rfl rfl ?_
      refine awp_cellImp 4 1 rfl rfl (kvU_imp T) ?_
      refine ztC ?_
      rfl
end Go.Proofs.YtckpadnjldebaaaGreat
