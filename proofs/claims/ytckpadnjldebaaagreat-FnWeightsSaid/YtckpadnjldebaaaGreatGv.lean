/- A part of one's own row, from an element on, to which is appended: it grows in place, or it moves into a new block. -/
import Derived.Test.YtckpadnjldebaaaGreatFwX
import Derived.Test.YtckpadnjldebaaaGreatFwW
import Derived.ArgAppend
namespace Go.Proofs.YtckpadnjldebaaaGreat
open Go
set_option linter.unusedVariables false
set_option linter.unusedSimpArgs false
variable {cx : Cx} {ops : Array Oper} {s : Slots} {h : Heap} {Q : Exit -> Slots -> Heap -> Prop} {t : Nat} {ty : Nat} {pos : String} {af : Array Edge} {rest : List Oper}
theorem run_append_roomO {P : Program} (w : World) (t ty e : TypeId) (i : TypeInfo) (ht : P.underlying t = some (.slice e)) (hi : P.info? e = some i)
    (g off sLen sCap : Nat) (cur : Array Value) (hg : w.heap[g]? = some (.cells cur e (0, 0)))
    (a : Addr) (m c : Nat) (news : List Value) (hl : news.length = m * i.size) (hnews : ∀ j u, news[j]? = some u -> w.cell? (a.add j) = some u) (h1 : ∀ u ∈ news, u.oneCell' = true)
    (hroom : sLen + m <= sCap) (hfit : off + sLen * i.size + news.length <= cur.size) :
    (Builtin.append_ #[t, t] ty #[.slice (some ⟨g, off, none⟩) sLen sCap, .slice (some a) m c]).run P w =
      .ok (.slice (some ⟨g, off, none⟩) (sLen + m) sCap) (w.setRow g (cur.toList.take (off + sLen * i.size) ++ news ++ cur.toList.drop (off + sLen * i.size + news.length)).toArray) := by
  have hf := run_firstCells_some (P := P) w i.size m a m c news hl hnews
  have hst := run_storeCells_at P g (off + sLen * i.size) e news 0 cur w hg (by simpa using hfit) h1
  simp only [Nat.add_zero] at hst
  simp [Builtin.append_, run_underlying ht, sizeOf, typeInfo, hi, Builtin.lenOf, hroom, hf, Addr.add_lit, hst]
theorem lay_sub {σ : Nat -> Loc} {a : Act} {w w' : World} (hr : RW cx σ (lk s) h a w) (hd : Nat.blt t cx.nt = true) (id : Nat) (hid : isAnc id = false) (l : Loc) (e sz : Nat) (xs : List D) (m : Nat)
    (hos : w'.os = w.os) (htape : w'.tape = w.tape) (hout : w'.output = w.output) (hsize : w.heap.size <= w'.heap.size)
    (hblock : ∀ b, b < w.heap.size -> (∀ p ∈ h, p.1 = id -> b ∉ blk (σ p.1) p.2) -> w'.heap[b]? = w.heap[b]?)
    (hlb : l.nil = false -> w.heap.size <= l.b \/ ∃ q ∈ h, q.1 = id /\ l.b ∈ blk (σ q.1) q.2) (hsz : 0 < sz)
    (cl : List Value) (ho : w'.ownsRow 0 e sz (sliceAt l xs.length) xs.length cl) (hc : RepCells (okf cx σ h) w sz cl xs) :
    R cx (lk ((t, .sub id (2 * m)) :: killS id s)) ((id, .arr e sz xs) :: killH id h) (a.put (some t) (viewAt l (2 * m) sz xs.length)) w' := by
  obtain ⟨σ', e1, hr'⟩ := hr.lay id hid l (.arr e sz xs) hos htape hout hsize hblock (by cases hn : l.nil <;> simp [blk, hn]) (fun b hb => by
    cases hn : l.nil with
    | true => simp [blk, hn] at hb
    | false =>
      simp [blk, hn] at hb
      subst hb
      exact ⟨ownsRow_lt ho hn, hlb hn⟩) fun σ' ok' hok _ _ => ⟨hsz, cl, ho, hc.mono hok⟩
  exact put_lay hr' hd (by simp only [RepSV, Heap.get, if_true, e1]; exact .inl rfl)
theorem R_ownSub {a : Act} {w : World} {t id e sz : Nat} {xs : List D} (hr : R cx (lk s) h a w) (ht : lk s t = .own id) (hg : h.get id = some (.arr e sz xs)) : R cx (lk ((t, .sub id 0) :: s)) h a w := by
  obtain ⟨σ, hr⟩ := hr
  refine ⟨σ, hr.evo, hr.defers, hr.size, hr.heap, fun q => ?_⟩
  by_cases hq : q = t
  . subst hq
    have v1 := hr.slots q
    rw [ht] at v1
    simp only [RepSV, hg] at v1
    simp only [lk, if_true, RepSV, hg]
    refine .inl ?_
    rw [v1]
    unfold sliceAt viewAt
    split
    . rfl
    . simp
  . simp only [lk, hq, if_false]
    exact hr.slots q
theorem awp_ownSub {c : Code} (t id : Nat) {e sz : Nat} {xs : List D} (ht : lk s t = .own id) (hg : h.get id = some (.arr e sz xs)) (hn : awp cx c ((t, .sub id 0) :: s) h Q) : awp cx c s h Q := fun a w hr => hn a w (R_ownSub hr ht hg)
theorem wv_viewSub {dst : Option Nat} {gd : Option (Nat × Bool)} {T : Nat} {x lo : Operand} {ts te : TR} {f : Nat -> SV} {id e sz m : Nat} {xs : List D} {k : IntKind} {n : Int} (hx : opv f x = .sub id (2 * m)) (hg : h.get id = some (.arr e sz xs)) (hl : opv f lo = .d (.int k n))
    (ht : tget cx.T T = some ts) (hsl : ts.isSl = true) (hte : tget cx.T ts.elem = some te) (hsz : Nat.beq sz te.size = true) (h0 : 0 <= n) (hn : (m : Int) + n <= xs.length) (hpos : 0 < xs.length) :
    Qt cx h ⟨dst, .slice T x (some lo) none none, ty, pos, af, gd⟩ f (.sub id (2 * (m + n.toNat))) := by
  intro s₁ hs σ a w hr K Q hK
  have h1 := rep_eval hr x
  have h2 := rep_eval hr lo
  rw [show opv s₁ x = opv f x from by cases x <;> first | rfl | exact hs _ (by simp [Op.operands]), hx] at h1
  rw [show opv s₁ lo = opv f lo from by cases lo <;> first | rfl | exact hs _ (by simp [Op.operands]), hl] at h2
  have h2' := RepD.int_inv h2
  simp only [RepSV, hg] at h1
  obtain ⟨d, i, hdd, hi', -, -, -, hs', -⟩ := tr_facts (tget_ok cx.tab ht)
  obtain ⟨d', i', hdd', hi2, -, hz, -⟩ := tr_facts (tget_ok cx.tab hte)
  have := hs' hsl
  subst this
  have hsz' := Nat.eq_of_beq_eq_true hsz
  have hE : cx.P.elem T = ts.elem := by simp [Program.elem, hdd]
  have hd2 : cx.P.underlying T = some (.slice (cx.P.elem T)) := by rw [hE]; exact hdd
  obtain ⟨_, _, _, cl, ho, _⟩ := chunk_own hr hg
  obtain ⟨hnil, cur, c1, c2, c3, c4, c5⟩ := own_form ho hpos
  obtain ⟨o, h1, ho1⟩ := h1.ex hnil
  have run : (execOp a.eval ⟨dst, .slice T x (some lo) none none, ty, pos, af, gd⟩).run cx.P w = .ok (.value (sliced (some ⟨(σ id).b, o, none⟩) n.toNat (xs.length - m) ((σ id).cap - m) te.size)) w := by
    simp only [execOp, h1, h2', Option.map_some, Option.map_none]
    simp only [Sem.run_bind, Sem.run_pure]
    rw [run_sliceAt_slice (h := hd2), run_slice_l (ht := hd2) (h0 := h0) (h1 := by omega), hE]
    simp [sizeOf, typeInfo, hi2, hz, Result.andThen]
  unfold Oper.wp
  rw [run]
  refine hK _ _ (Go.RowKit.Below.refl _ _) ?_
  simp only [RepSV, hg]
  by_cases hc : (σ id).cap - m = n.toNat
  . refine .inr ⟨hnil, by omega, by omega, by omega, o, ?_⟩
    unfold sliced
    rw [if_pos hc, show xs.length - m - n.toNat = 0 by omega, show (σ id).cap - m - n.toNat = 0 by omega]
  . refine .inl ?_
    rw [view_from hnil, if_neg (by omega)]
    unfold sliced
    rw [if_neg hc, ho1 (by omega), hsz']
    simp only [Option.map_some, add_block, <- Nat.add_mul]
    rw [show xs.length - m - n.toNat = xs.length - (m + n.toNat) by omega, show (σ id).cap - m - n.toNat = (σ id).cap - (m + n.toNat) by omega]
theorem awpL_appendSub {T rt : Nat} {x y : Operand} {ts te : TR} {id e sz m : Nat} {xs ys : List D}
    (hn : ∀ (m' : Nat) (zs : List D), (m' = m /\ zs = xs ++ ys \/ m' = 0 /\ zs = xs.drop m ++ ys) -> awpL cx ops rest ((t, .sub id (2 * m')) :: killS id s) ((id, .arr e sz zs) :: killH id h) Q)
    (hx : opv (lk s) x = .sub id (2 * m)) (hg : h.get id = some (.arr e sz xs)) (hy : srcOf h id (opv (lk s) y) = some ys)
    (ht : tget cx.T T = some ts) (hsl : ts.isSl = true) (hel : Nat.beq ts.elem e = true) (hte : tget cx.T e = some te) (hd : Nat.blt t cx.nt = true) (hid : isAnc id = false)
    (hsz : Nat.beq sz te.size = true) (hz1 : (te.agg || Nat.beq te.zero.length 1) = true) (hz2 : Nat.beq te.zero.length te.size = true) (hz3 : Nat.ble 1 te.size = true) (hby : Nat.ble te.bytes 64 = true)
    (hw : elsOk te.size ys = true) (hm : m <= xs.length) (hpos : 0 < xs.length) (hyp : 0 < ys.length) (hb : xs.length + ys.length <= 1099511627776) :
    awpL cx ops (⟨some t, .call { callee := .builtin .append, args := #[x, y], argTypes := #[T, T] }, rt, pos, af, none⟩ :: rest) s h Q := by
  rintro a w ⟨σ, hr⟩
  have hby' := Nat.le_of_ble_eq_true hby
  have h1 := rep_eval hr x
  rw [hx] at h1
  simp only [RepSV, hg] at h1
  have h2 := srcOf_rep hr (rep_eval hr y) hy (elsOk_all hw)
  have hsz' := Nat.eq_of_beq_eq_true hsz
  subst hsz'
  have hel' := Nat.eq_of_beq_eq_true hel
  subst hel'
  obtain ⟨hex, h0, hlt, cl, ho, hc⟩ := chunk_own hr hg
  obtain ⟨hnil, cur, c1, c2, c3, c4, c5⟩ := own_form ho hpos
  obtain ⟨o, h1, ho1⟩ := h1.ex hnil
  obtain ⟨d, i', hdd, hi', _, _, _, hs', _⟩ := tr_facts (tget_ok cx.tab ht)
  have := hs' hsl
  subst this
  obtain ⟨i, z, hi, hz, hisz, hiby, hcs, _⟩ := zero_cells (tget_ok cx.tab hte) hz1 hz2 hz3 (ok := okf cx σ h) (w := w) 0
  have hin : ∃ q ∈ h, q.1 = id /\ (σ id).b ∈ blk (σ q.1) q.2 := by
    obtain ⟨p, hp, hp1, hp2⟩ := hex
    exact ⟨p, hp, hp1, by rw [hp1, hp2]; simp [blk, hnil]⟩
  rcases h2 with ⟨hyv, rfl⟩ | ⟨ad, c, news, hyv, hnc, hcells, hone⟩
  . simp at hyp
  have hcl : cl.length = xs.length * te.size := hc.1
  have hbb : ∀ n k : Nat, n <= k -> k <= 1099511627776 -> n * te.bytes <= 140737488355328 := fun n k h h' => by
    have : n * te.bytes <= n * 64 := Nat.mul_le_mul_left _ hby'
    omega
  have step : ∀ (v : Value) (w' : World), (Builtin.append_ #[T, T] rt #[a.eval x, a.eval y]).run cx.P w = .ok v w' -> (∃ m' zs, (m' = m /\ zs = xs ++ ys \/ m' = 0 /\ zs = xs.drop m ++ ys) /\ R cx (lk ((t, .sub id (2 * m')) :: killS id s)) ((id, .arr ts.elem te.size zs) :: killH id h) (a.put (some t) v) w') ->
      wpList cx.P ops (lift cx Q) (⟨some t, .call { callee := .builtin .append, args := #[x, y], argTypes := #[T, T] }, rt, pos, af, none⟩ :: rest) a w := by
    rintro v w' r1 ⟨m', zs, hmz, hR⟩
    unfold wpList
    rw [if_pos (by simp [Region.wanted])]
    refine .inl ?_
    unfold Oper.wp execOp
    simp only [resolve, invoke, builtin, Sem.run_bind, Sem.run_pure, Result.andThen_ok, List.map_toArray, List.map_cons, List.map_nil, r1]
    exact hn m' zs hmz _ _ hR
  have hout : ∀ (w' : World) b, w.grownBy w' (some (σ id).b) -> b < w.heap.size -> (∀ p ∈ h, p.1 = id -> b ∉ blk (σ p.1) p.2) -> w'.heap[b]? = w.heap[b]? := fun w' b g hb hne => g.block b hb fun e => by
    obtain ⟨q, q1, q2, q3⟩ := hin
    have := hne q q1 q2
    cases e
    exact this q3
  by_cases hroom : xs.length - m + ys.length <= (σ id).cap - m
  . have hcm : ¬ (σ id).cap = m := by omega
    have ho1 := ho1 hcm
    subst ho1
    have hoff : m * te.size + (xs.length - m) * te.size = xs.length * te.size := by rw [<- Nat.add_mul]; congr 1; omega
    have hfit2 : xs.length * te.size + ys.length * te.size <= (σ id).cap * te.size := by rw [<- Nat.add_mul]; exact Nat.mul_le_mul_right _ (by omega)
    have r1 := run_append_roomO (P := cx.P) w T rt ts.elem i hdd hi (σ id).b (m * te.size) (xs.length - m) ((σ id).cap - m) cur c1 ad ys.length c news (by rw [hisz]; exact hnc.1) hcells hone hroom (by rw [hisz, hnc.1, c4, hoff]; exact hfit2)
    rw [<- h1, <- hyv, hisz, hoff] at r1
    have r2 := run_append_room (P := cx.P) w T rt ts.elem i hdd hi (σ id).b xs.length (σ id).cap cur c1 ad ys.length c news (by rw [hisz]; exact hnc.1) hcells hone (by omega) (by rw [hisz, hnc.1, c4]; exact hfit2)
    rw [hisz] at r2
    obtain ⟨v', w', s1, s2, s3, s4⟩ := run_append_own (P := cx.P) w 0 T rt ts.elem i z te.size te.bytes hdd hi hz hisz hiby hcs h0 (sliceAt (σ id) xs.length) xs.length cl ho ad ys.length c news hnc.1 hcells hone (by simp only [maxLen]; omega) (hbb _ _ (Nat.le_refl _) hb) (Nat.zero_le _)
    have e0 : sliceAt (σ id) xs.length = .slice (some ⟨(σ id).b, 0, none⟩) xs.length (σ id).cap := by simp [sliceAt, hnil]
    rw [e0, r2] at s1
    obtain ⟨rfl, rfl⟩ := Result.ok.inj s1
    have hlen : (xs ++ ys).length = xs.length + ys.length := by simp
    refine step _ _ r1 ⟨m, xs ++ ys, .inl ⟨rfl, rfl⟩, ?_⟩
    have hv : viewAt (σ id) (2 * m) te.size (xs ++ ys).length = .slice (some ⟨(σ id).b, m * te.size, none⟩) (xs.length - m + ys.length) ((σ id).cap - m) := by
      rw [view_from hnil, if_neg hcm, hlen]
      congr 1
      omega
    rw [<- hv]
    refine lay_sub hr hd id hid (σ id) ts.elem te.size (xs ++ ys) m s3.os s3.tape s3.output s3.size (fun b hb hne => hout _ b (by rw [e0] at s3; exact s3) hb hne) (fun _ => .inr hin) h0 (cl ++ news) ?_ (hc.append hnc)
    rw [hlen, show sliceAt (σ id) (xs.length + ys.length) = .slice (some ⟨(σ id).b, 0, none⟩) (xs.length + ys.length) (σ id).cap by simp [sliceAt, hnil]]
    exact s2
  . have hol : (cl.drop (m * te.size)).length = (xs.length - m) * te.size := by rw [List.length_drop, hcl, Nat.sub_mul]
    have holds : ∀ (j : Nat) u, (cl.drop (m * te.size))[j]? = some u -> w.cell? ((⟨(σ id).b, o, none⟩ : Addr).add j) = some u := fun j u hu => by
      have hj : j < (cl.drop (m * te.size)).length := by
        rcases Nat.lt_or_ge j (cl.drop (m * te.size)).length with hh | hh
        . exact hh
        . rw [List.getElem?_eq_none hh] at hu; cases hu
      rw [hol] at hj
      have hne : ¬ (σ id).cap = m := fun e => by
        rw [show xs.length - m = 0 by omega] at hj
        omega
      rw [ho1 hne, add_block, cell_at c1]
      rw [List.getElem?_drop, <- c5, List.getElem?_take] at hu
      split at hu
      . simpa using hu
      . cases hu
    have hdl : (xs.drop m ++ ys).length = xs.length - m + ys.length := by simp
    obtain ⟨v', w', s1, s2, s3⟩ := run_append_arg_grows (P := cx.P) w T rt ts.elem i z te.size te.bytes hdd hi hz hisz hiby hcs h0 ⟨(σ id).b, o, none⟩ (xs.length - m) ((σ id).cap - m) (cl.drop (m * te.size)) hol holds ad ys.length c news hnc.1 hcells (by omega) (by simp only [maxLen]; omega) (hbb _ _ (Nat.le_refl _) (by omega))
    rw [<- h1, <- hyv] at s1
    rcases s2.2 with ⟨q1, q2⟩ | ⟨g, cap, cur', q1, q2, q3, q4, q5, q6, q7⟩
    . omega
    have hl : sliceAt ⟨g, cap, false, []⟩ (xs.drop m ++ ys).length = v' := by rw [q1, hdl]; simp [sliceAt]
    have hv : viewAt ⟨g, cap, false, []⟩ (2 * 0) te.size (xs.drop m ++ ys).length = v' := by
      rw [view_from rfl, q1, hdl]
      simp
    refine step _ _ s1 ⟨0, xs.drop m ++ ys, .inr ⟨rfl, rfl⟩, ?_⟩
    rw [<- hv]
    refine lay_sub hr hd id hid ⟨g, cap, false, []⟩ ts.elem te.size (xs.drop m ++ ys) 0 s3.os s3.tape s3.output s3.size (fun b hb hne => s3.block b hb (by simp)) (fun _ => .inl q2) h0 (cl.drop (m * te.size) ++ news) ?_ ((hc.drop hm).append hnc)
    rw [hl, hdl]
    exact ⟨s2.1, .inr ⟨g, cap, cur', q1, Nat.zero_le _, q3, q4, q5, q6, q7⟩⟩
end Go.Proofs.YtckpadnjldebaaaGreat
namespace Go.Proofs.YtckpadnjldebaaaGreat
open Go
open Go.RowKit (Below)
set_option linter.unusedVariables false
set_option linter.unusedSimpArgs false
variable {cx : Cx} {ops : Array Oper} {s : Slots} {h : Heap} {Q : Exit -> Slots -> Heap -> Prop} {t : Nat} {ty : Nat} {pos : String} {af : Array Edge} {rest : List Oper}
theorem memB_three {i a b c : Nat} : memB i [a, b, c] = true ↔ i = a \/ i = b \/ i = c := by
  rw [memB_iff]; simp
theorem memB_threeF {i a b c : Nat} : memB i [a, b, c] = false ↔ i ≠ a /\ i ≠ b /\ i ≠ c := by
  rw [<- Bool.not_eq_true, memB_three]; simp
def gLit2 (t j k : Nat) : SV -> SV
  | .own m => match Nat.beq m j with
    | true => .sub t 0
    | false => match Nat.beq m k with
      | true => .sub t 1
      | false => match Nat.beq m t with
        | true => .junk
        | false => .own m
  | .elt m n => match memB m [t, j, k] with
    | true => .junk
    | false => .elt m n
  | .sub m n => match memB m [t, j, k] with
    | true => .junk
    | false => .sub m n
  | .ref m n => match memB m [t, j, k] with
    | true => .junk
    | false => .ref m n
  | .cel m n o => match memB m [t, j, k] with
    | true => .junk
    | false => .cel m n o
  | x => x
theorem wo_litRow2 {T : Nat} {y z : Operand} {ts te : TR} {j k e2 sz2 : Nat} {xs xs' : List D} (hy : opv (lk s) y = .own j) (hz : opv (lk s) z = .own k) (hgj : h.get j = some (.arr e2 sz2 xs)) (hgk : h.get k = some (.arr e2 sz2 xs')) (ht : tget cx.T T = some ts) (hsl : ts.isSl = true) (hte : tget cx.T ts.elem = some te) (hd : Nat.blt t cx.nt = true)
    (hts : Nat.beq te.size 1 = true) (hz1 : (te.agg || Nat.beq te.zero.length 1) = true) (hz2 : Nat.beq te.zero.length te.size = true) (hne : Nat.beq j t = false) (hne2 : Nat.beq k t = false) (hne3 : Nat.beq k j = false) (hj : Nat.blt j 10000 = true) (hk : Nat.blt k 10000 = true) :
    OpTo cx ⟨some t, .buildSlice T 2 #[(0, y), (1, z)], ty, pos, af, none⟩ s h ((t, .own t) :: mapS (SV.lm (gLit2 t j k)) s) ((t, .rows ts.elem e2 sz2 [xs, xs'] none) :: keepH (SV.lm (gLit2 t j k)) [t, j, k] h) := by
  rintro a w ⟨σ, hr⟩ Kk Qq hK
  have hj' : j < 10000 := Nat.le_of_ble_eq_true hj
  have hk' : k < 10000 := Nat.le_of_ble_eq_true hk
  have hne' := Nat.ne_of_beq_eq_false hne
  have hne2' := Nat.ne_of_beq_eq_false hne2
  have hne3' := Nat.ne_of_beq_eq_false hne3
  obtain ⟨pj, hpj, hpj1, hpj2⟩ := get_mem hgj
  obtain ⟨pk, hpk, hpk1, hpk2⟩ := get_mem hgk
  have hcj := hr.heap.rep pj hpj
  rw [hpj1, hpj2] at hcj
  have hcj' : RepArr (okf cx σ h) w (σ j) e2 sz2 xs := hcj
  have hck := hr.heap.rep pk hpk
  rw [hpk1, hpk2] at hck
  have hck' : RepArr (okf cx σ h) w (σ k) e2 sz2 xs' := hck
  have hv := rep_eval hr y
  rw [hy] at hv
  simp only [RepSV, hgj] at hv
  have hu := rep_eval hr z
  rw [hz] at hu
  simp only [RepSV, hgk] at hu
  have hts' := Nat.eq_of_beq_eq_true hts
  have hrep0 : RepD (fun _ => True) w (a.eval y) (.lst xs) := by rw [hv]; exact own_rep hcj' (fun _ _ => trivial) fun _ => trivial
  have hrep1 : RepD (fun _ => True) w (a.eval z) (.lst xs') := by rw [hu]; exact own_rep hck' (fun _ _ => trivial) fun _ => trivial
  obtain ⟨out, r1, r2, r3, r4⟩ := lit_run (P := cx.P) (tget_ok cx.tab ht) hsl (tget_ok cx.tab hte) hz1 hz2 (by rw [hts']; rfl) (ok := fun _ => True) (w := w) (n := 2) (parts := [(0, a.eval y), (1, a.eval z)]) (ys := [.lst xs, .lst xs']) rfl rfl
    (fun i p hp => by
      match i with
      | 0 => simp at hp; subst hp; exact ⟨rfl, _, rfl, hrep0⟩
      | 1 => simp at hp; subst hp; exact ⟨rfl, _, rfl, hrep1⟩
      | i + 2 => simp at hp) (fun z hz => by
      rcases List.mem_cons.1 hz with rfl | hz
      . exact ⟨rfl, by rw [hts']; rfl⟩
      . simp at hz; subst hz; exact ⟨rfl, by rw [hts']; rfl⟩) (by rw [hts']; omega)
  have run : (execOp a.eval ⟨some t, .buildSlice T 2 #[(0, y), (1, z)], ty, pos, af, none⟩).run cx.P w = .ok (.value (.slice (some ⟨w.heap.size, 0, none⟩) 2 2)) (w.alloc (.cells out ts.elem)) := by
    simp only [execOp, List.map_toArray, List.map_cons, List.map_nil, Sem.run_bind, r1, Result.andThen_ok, Sem.run_pure]
  have hcell : out[0]? = some (a.eval y) := by
    have := r4 0 _ rfl 0 (by omega)
    simp only [Nat.zero_mul, Nat.add_zero] at this
    rw [this, hv, (slice_one _ _).2]
    rfl
  have hcell1 : out[1]? = some (a.eval z) := by
    have := r4 1 _ rfl 0 (by omega)
    simp only [hts', Nat.mul_one, Nat.add_zero] at this
    rw [this, hu, (slice_one _ _).2]
    rfl
  let l' : Loc := ⟨w.heap.size, 2, false, [((σ j).b, (σ j).cap, (σ j).nil), ((σ k).b, (σ k).cap, (σ k).nil)]⟩
  have hkq : ∀ n, sliceAt (kidLoc ((σ j).b, (σ j).cap, (σ j).nil)) n = sliceAt (σ j) n := fun n => rfl
  have hkq1 : ∀ n, sliceAt (kidLoc ((σ k).b, (σ k).cap, (σ k).nil)) n = sliceAt (σ k) n := fun n => rfl
  let N : Heap := [(t, .rows ts.elem e2 sz2 [xs, xs'] none)]
  have gid : ((N ++ keepH (SV.lm (gLit2 t j k)) [t, j, k] h : Heap)).get t = some (.rows ts.elem e2 sz2 [xs, xs'] none) := by simp [N, Heap.get]
  have hB : Below w.heap.size w (w.alloc (.cells out ts.elem)) := (Below.refl _ _).alloc (Nat.le_refl _) _
  have hbj : ∀ b, b ∈ blk l' (.rows ts.elem e2 sz2 [xs, xs'] none) -> b = w.heap.size \/ b ∈ blk (σ j) (.arr e2 sz2 xs) \/ b ∈ blk (σ k) (.arr e2 sz2 xs') := fun b hb => by
    simp only [blk, l', hat] at hb
    rcases List.mem_cons.1 hb with hb | hb
    . exact .inl hb
    . obtain ⟨m, p, m1, m2, m3, m4⟩ := mem_kidBlk.1 hb
      match m with
      | 0 => simp at m1; subst m1; right; left; simp at m2 m4; simp [blk, m2, m4]
      | 1 => simp at m1; subst m1; right; right; simp at m2 m4; simp [blk, m2, m4]
      | m + 2 => simp at m1
  have hdis : ∀ b, b ∈ blk (σ j) (.arr e2 sz2 xs) -> b ∈ blk (σ k) (.arr e2 sz2 xs') -> False := fun b h1 h2 => by
    have q := hr.heap.inj pj hpj pk hpk b (by rw [hpj1, hpj2]; exact h1) (by rw [hpk1, hpk2]; exact h2)
    rw [hpj1, hpk1] at q
    exact hne3' q.symm
  have hRW := hr.upd (σ' := setσ σ t l') (w' := w.alloc (.cells out ts.elem)) [t, j, k] N (SV.lm (gLit2 t j k)) (fun p hp => by simp [N] at hp; subst hp; simp [memB]) (by simp [N]) (fun m hm => setσ_ne (memB_threeF.1 hm).1) rfl rfl rfl (by simp)
    (fun b hb _ => hB.block b hb)
    (fun p hp => by
      simp [N] at hp; subst hp
      simp only [setσ_self, blk, l', hat, List.nodup_cons]
      refine ⟨fun hm => ?_, ?_⟩
      . obtain ⟨m, p, m1, m2, m3, m4⟩ := mem_kidBlk.1 hm
        match m with
        | 0 =>
          simp at m1; subst m1
          simp at m2 m4
          have := (hr.heap.mine pj hpj (σ j).b (by rw [hpj1, hpj2]; simp [blk, m2])).2.2
          omega
        | 1 =>
          simp at m1; subst m1
          simp at m2 m4
          have := (hr.heap.mine pk hpk (σ k).b (by rw [hpk1, hpk2]; simp [blk, m2])).2.2
          omega
        | m + 2 => simp at m1
      . refine kidBlk_nodup.2 fun m n p p' m1 n1 a1 a2 a3 a4 a5 => ?_
        match m, n with
        | 0, 0 => rfl
        | 1, 1 => rfl
        | 0, 1 =>
          simp at m1 n1
          subst m1 n1
          have a1' : (σ j).nil = false := a1
          have a2' : (σ k).nil = false := a2
          have a5' : (σ j).b = (σ k).b := a5
          exact (hdis (σ j).b (by simp [blk, a1']) (by simp [blk, a2', a5'])).elim
        | 1, 0 =>
          simp at m1 n1
          subst m1 n1
          have a1' : (σ k).nil = false := a1
          have a2' : (σ j).nil = false := a2
          have a5' : (σ k).b = (σ j).b := a5
          exact (hdis (σ k).b (by simp [blk, a2', a5']) (by simp [blk, a1'])).elim
        | m + 2, _ => simp at m1
        | 0, n + 2 => simp at n1
        | 1, n + 2 => simp at n1)
    (fun p hp p' hp' b hb hb' => by simp [N] at hp hp'; subst hp hp'; rfl)
    (fun p hp b hb => by
      simp [N] at hp; subst hp
      simp only [setσ_self] at hb
      rcases hbj b hb with hb | hb | hb
      . subst hb; exact ⟨by simp, .inl (Nat.le_refl _)⟩
      . have hb' : b ∈ blk (σ pj.1) pj.2 := by rw [hpj1, hpj2]; exact hb
        exact ⟨Nat.lt_of_lt_of_le (hr.heap.mine pj hpj b hb').2.2 (by simp), .inr ⟨pj, hpj, by rw [hpj1]; exact memB_iff.2 (by simp), hb', .inl (by rw [hpj1]; exact hj')⟩⟩
      . have hb' : b ∈ blk (σ pk.1) pk.2 := by rw [hpk1, hpk2]; exact hb
        exact ⟨Nat.lt_of_lt_of_le (hr.heap.mine pk hpk b hb').2.2 (by simp), .inr ⟨pk, hpk, by rw [hpk1]; exact memB_iff.2 (by simp), hb', .inl (by rw [hpk1]; exact hk')⟩⟩)
    (fun p hp ha => by simp [N] at hp; subst hp; rw [(anc_slot hd).1] at ha; cases ha)
    (fun hok v sv hv => RepSV.lm (leaf_upd (K := [t, j, k]) hok (fun m hm => setσ_ne (memB_threeF.1 hm).1) (simO_keep (fun p hp => by simp [N] at hp; subst hp; simp [memB]))
      (fun x hl hx => by
        refine leaf_ids (K := [t, j, k]) hl rfl rfl (fun _ => rfl) (fun i o hi => ?_) (fun i hi => ?_) (fun i o hi => ?_) (fun i o hi => ?_) hx
        all_goals
          obtain ⟨e1, e2, e3⟩ := memB_threeF.1 hi
          simp only [gLit2, beqF e2, beqF e1, beqF e3, hi])
      (fun x v m hl hm hK hv => by
        by_cases hmj : m = j
        . subst hmj
          cases x <;> simp only [SV.idOf, Option.some.injEq, reduceCtorEq] at hm <;> (replace hm := hm.symm; subst hm)
          case own =>
            simp only [gLit2, Nat.beq_refl, RepSV, hgj, gid, setσ_self] at hv ⊢
            exact ⟨_, xs, rfl, rfl, by rw [hv, hkq]⟩
          all_goals simp only [gLit2, hK, RepSV]
        . by_cases hmk : m = k
          . subst hmk
            cases x <;> simp only [SV.idOf, Option.some.injEq, reduceCtorEq] at hm <;> (replace hm := hm.symm; subst hm)
            case own =>
              simp only [gLit2, Nat.beq_refl, beqF hmj, RepSV, hgk, gid, setσ_self] at hv ⊢
              exact ⟨_, xs', rfl, rfl, by rw [hv, hkq1]⟩
            all_goals simp only [gLit2, hK, RepSV]
          . have hmi : m = t := by rcases memB_three.1 hK with h | h | h <;> first | exact h | exact absurd h hmj | exact absurd h hmk
            subst hmi
            cases x <;> simp only [SV.idOf, Option.some.injEq, reduceCtorEq] at hm <;> (replace hm := hm.symm; subst hm) <;> simp only [gLit2, hK, beqF hmj, beqF hmk, Nat.beq_refl, RepSV])) hv)
    (fun hok p hp => by
      simp [N] at hp; subst hp
      simp only [setσ_self]
      obtain ⟨c0, cl', c1, c2⟩ := id hcj'
      obtain ⟨d0, dl', d1, d2⟩ := id hck'
      refine ⟨c0, rfl, ⟨[a.eval y, a.eval z], ⟨rfl, .inr ⟨w.heap.size, 2, out, by simp [sliceAt, l'], Nat.zero_le _, heap_alloc_new w _, Nat.le_refl _, by simp [maxLen], by rw [r2, hts'], ?_⟩⟩, fun m q' zs h1 h2 => ?_⟩, fun m q' zs h1 h2 _ => ?_, by simp⟩
      . apply List.ext_getElem?
        intro m
        rw [List.getElem?_take]
        match m with
        | 0 => simp [hcell]
        | 1 => simp [hcell1]
        | m + 2 => simp [r2, hts']
      . match m with
        | 0 =>
          simp at h2
          subst h2
          have h1' : q' = ((σ j).b, (σ j).cap, (σ j).nil) := by simpa [l'] using h1.symm
          subst h1'
          refine ⟨by simp [hv, hkq], fun hn => ?_⟩
          rcases c1.2 with ⟨_, h⟩ | ⟨_, _, _, h, _⟩
          . exact List.eq_nil_of_length_eq_zero h
          . simp at hn
            simp [sliceAt, hn] at h
        | 1 =>
          simp at h2
          subst h2
          have h1' : q' = ((σ k).b, (σ k).cap, (σ k).nil) := by simpa [l'] using h1.symm
          subst h1'
          refine ⟨by simp [hu, hkq1], fun hn => ?_⟩
          rcases d1.2 with ⟨_, h⟩ | ⟨_, _, _, h, _⟩
          . exact List.eq_nil_of_length_eq_zero h
          . simp at hn
            simp [sliceAt, hn] at h
        | m + 2 => simp at h2
      . match m with
        | 0 =>
          simp at h2
          subst h2
          have h1' : q' = ((σ j).b, (σ j).cap, (σ j).nil) := by simpa [l'] using h1.symm
          subst h1'
          exact hcj'.mono hok fun hn => hB.block _ (by
            have hn' : (σ j).nil = false := hn
            exact (hr.heap.mine pj hpj (σ j).b (by rw [hpj1, hpj2]; simp [blk, hn'])).2.2)
        | 1 =>
          simp at h2
          subst h2
          have h1' : q' = ((σ k).b, (σ k).cap, (σ k).nil) := by simpa [l'] using h1.symm
          subst h1'
          exact hck'.mono hok fun hn => hB.block _ (by
            have hn' : (σ k).nil = false := hn
            exact (hr.heap.mine pk hpk (σ k).b (by rw [hpk1, hpk2]; simp [blk, hn'])).2.2)
        | m + 2 => simp at h2)
  unfold Oper.wp
  rw [run]
  refine hK _ _ ?_
  have e1 : lk (mapS (SV.lm (gLit2 t j k)) s) = fun u => SV.lm (gLit2 t j k) (lk s u) := lk_lm (g := gLit2 t j k) rfl s
  rw [<- e1] at hRW
  exact put_lay hRW hd (by simp only [RepSV, List.cons_append, List.nil_append, N, Heap.get, if_true, setσ_self]; simp [sliceAt, l'])
end Go.Proofs.YtckpadnjldebaaaGreat
namespace Go.Proofs.YtckpadnjldebaaaGreat
open Go
open Go.RowKit (Below)
set_option linter.unusedVariables false
set_option linter.unusedSimpArgs false
def sT (T : List (Nat × Nat × SV)) (L : Nat -> Bool) (s0 : Slots) : Slots := match T with
  | [] => s0
  | e :: T => if L e.1 = true then e.2 :: sT T L s0 else sT T L s0
theorem sT_get {L : Nat -> Bool} {s0 : Slots} {i u : Nat} {sv : SV} (hL : L i = true) : ∀ {T : List (Nat × Nat × SV)}, (i, u, sv) ∈ T -> (T.map (·.2.1)).Nodup -> lk (sT T L s0) u = sv
  | [], h, _ => by cases h
  | e :: T, h, hn => by
    rw [List.map_cons] at hn
    have hn' := List.nodup_cons.1 hn
    unfold sT
    rcases List.mem_cons.1 h with h | h
    . subst h
      rw [if_pos hL]
      simp [lk]
    . have hne : u ≠ e.2.1 := fun e' => hn'.1 (e' ▸ List.mem_map_of_mem (f := fun e : Nat × Nat × SV => e.2.1) h)
      split
      . simp only [lk, if_neg hne]; exact sT_get hL h hn'.2
      . exact sT_get hL h hn'.2
theorem sT_same {L L' : Nat -> Bool} {s0 : Slots} {t : Nat} : ∀ {T : List (Nat × Nat × SV)}, (∀ e ∈ T, e.2.1 = t -> L' e.1 = L e.1) -> lk (sT T L' s0) t = lk (sT T L s0) t
  | [], _ => rfl
  | e :: T, h => by
    have ih := sT_same (s0 := s0) (T := T) fun x hx => h x (List.mem_cons_of_mem _ hx)
    unfold sT
    by_cases ht : e.2.1 = t
    . rw [h e (List.mem_cons_self ..) ht]
      split
      . simp only [lk, ih]
      . exact ih
    . have ht' : ¬ t = e.2.1 := fun e => ht e.symm
      split <;> split <;> simp only [lk, if_neg ht', ih]
theorem sT_put {L L' : Nat -> Bool} {s0 : Slots} {i u : Nat} {sv : SV} {T : List (Nat × Nat × SV)} (hm : (i, u, sv) ∈ T) (hi : (T.map (·.1)).Nodup) (hu : (T.map (·.2.1)).Nodup) (h1 : L' i = true) (h2 : ∀ j, j ≠ i -> L' j = L j) : fput (lk (sT T L s0)) (some u) sv = lk (sT T L' s0) := by
  funext t
  rw [<- lk_put]
  simp only [put, lk]
  by_cases ht : t = u
  . subst ht
    rw [if_pos rfl, sT_get h1 hm hu]
  . rw [if_neg ht]
    refine (sT_same fun e he het => h2 _ fun hei => ?_).symm
    have : e = (i, u, sv) := by
      have key : ∀ {T : List (Nat × Nat × SV)} {x y : Nat × Nat × SV}, (T.map (·.1)).Nodup -> x ∈ T -> y ∈ T -> x.1 = y.1 -> x = y := fun {T} => by
        induction T with
        | nil => intro x y _ h; cases h
        | cons z T ih =>
          intro x y hn hx hy hxy
          rw [List.map_cons] at hn
          have hn' := List.nodup_cons.1 hn
          rcases List.mem_cons.1 hx with h1 | h1
          . rcases List.mem_cons.1 hy with h2 | h2
            . rw [h1, h2]
            . exact absurd (by rw [<- h1, hxy]; exact List.mem_map_of_mem (f := fun e : Nat × Nat × SV => e.1) h2) hn'.1
          . rcases List.mem_cons.1 hy with h2 | h2
            . exact absurd (by rw [<- h2, <- hxy]; exact List.mem_map_of_mem (f := fun e : Nat × Nat × SV => e.1) h1) hn'.1
            . exact ih hn'.2 h1 h2 hxy
      exact key hi he hm hei
    rw [this] at het
    exact ht het.symm
theorem sT_kill {L : Nat -> Bool} {s0 : Slots} {t : Nat} (h0 : killS t s0 = s0) : ∀ {T : List (Nat × Nat × SV)}, (∀ e ∈ T, SV.kill [t] e.2.2 = e.2.2) -> killS t (sT T L s0) = sT T L s0
  | [], _ => h0
  | e :: T, h => by
    have ih := sT_kill (L := L) h0 (T := T) fun x hx => h x (List.mem_cons_of_mem _ hx)
    have h1 := h e (List.mem_cons_self ..)
    unfold sT
    split
    . show (e.2.1, SV.kill [t] e.2.2) :: killS t (sT T L s0) = _
      rw [h1, ih]
    . exact ih
def cU (L : Nat -> Bool) : Nat -> Nat
  | 0 => 0
  | k + 1 => cU L k + if L k = true then 0 else 1
theorem cU_set {L L' : Nat -> Bool} {i : Nat} (h0 : L i = false) (h1 : L' i = true) (h2 : ∀ j, j ≠ i -> L' j = L j) : ∀ k, cU L k = cU L' k + if i < k then 1 else 0
  | 0 => by simp [cU]
  | k + 1 => by
    have ih := cU_set h0 h1 h2 k
    unfold cU
    by_cases hk : k = i
    . subst hk
      rw [h0, h1, ih]
      simp
    . rw [h2 k hk, ih]
      have : (i < k + 1) ↔ i < k := by omega
      simp only [this]
      omega
theorem cU_zero {L : Nat -> Bool} : ∀ {k : Nat}, cU L k = 0 -> ∀ j, j < k -> L j = true
  | k + 1, h, j, hj => by
    unfold cU at h
    by_cases hjk : j = k
    . subst hjk
      cases hL : L j with
      | true => rfl
      | false => rw [hL] at h; simp at h
    . exact cU_zero (k := k) (by omega) j (by omega)
theorem cU_pos {L : Nat -> Bool} : ∀ {k : Nat}, cU L k ≠ 0 -> ∃ j, j < k /\ L j = false /\ ∀ i, i < j -> L i = true
  | 0, h => absurd rfl h
  | k + 1, h => by
    by_cases hk : cU L k = 0
    . unfold cU at h
      rw [hk] at h
      refine ⟨k, by omega, ?_, fun i hi => cU_zero hk i hi⟩
      cases hL : L k with
      | true => rw [hL] at h; simp at h
      | false => rfl
    . obtain ⟨j, h1, h2⟩ := cU_pos hk
      exact ⟨j, by omega, h2⟩
theorem any_inv {P : Program} {ops : Array Oper} {Q : Exit -> Act -> World -> Prop} {I : (Nat -> Bool) -> Act -> World -> Prop} {q : Nat} (hq : q <= ops.size) (hord : ∀ (i : Nat) (o : Oper), ops[i]? = some o -> ∀ e ∈ o.after, e.on < i)
    (hall : ∀ (L : Nat -> Bool), (∀ (i : Nat) (o : Oper), ops[i]? = some o -> L i = true -> ∀ e ∈ o.after, Region.binds .any e = true -> L e.on = true) -> ∀ (i : Nat) (o : Oper), q <= i -> ops[i]? = some o -> (∀ e ∈ o.after, Region.binds .any e = true -> L e.on = true) -> ∀ j, j < q -> L j = true)
    (hstep : ∀ (L L' : Nat -> Bool) (i : Nat) (o : Oper) (a : Act) (w : World), i < q -> ops[i]? = some o -> L i = false -> L' i = true -> (∀ j, j ≠ i -> L' j = L j) -> (∀ e ∈ o.after, Region.binds .any e = true -> L e.on = true) -> I L a w -> wpOp P ops Q i (fun a' w' => I L' a' w') a w)
    (hend : ∀ (L : Nat -> Bool) (listed : Array Bool) (a : Act) (w : World), (∀ j, listed.getD j false = L j) -> listed.size = ops.size -> (∀ j, j < q -> L j = true) -> (∀ j, q <= j -> L j = false) -> I L a w -> wpAny P .any ops Q (ops.size - q) listed a w) :
    ∀ (m : Nat) (listed : Array Bool) (a : Act) (w : World), listed.size = ops.size -> (∀ j, q <= j -> listed.getD j false = false) -> (∀ (i : Nat) (o : Oper), ops[i]? = some o -> listed.getD i false = true -> ∀ e ∈ o.after, Region.binds .any e = true -> listed.getD e.on false = true) -> cU (fun j => listed.getD j false) q = m -> I (fun j => listed.getD j false) a w -> wpAny P .any ops Q (m + (ops.size - q)) listed a w
  | 0, listed, a, w, hs, hz, hcl, hm, hI => by
    rw [Nat.zero_add]
    exact hend _ listed a w (fun _ => rfl) hs (fun j hj => cU_zero hm j hj) hz hI
  | m + 1, listed, a, w, hs, hz, hcl, hm, hI => by
    have hd : ∀ j, j < ops.size -> listed.getD j true = listed.getD j false := fun j hj => by simp [hs, hj]
    rw [show m + 1 + (ops.size - q) = m + (ops.size - q) + 1 by omega]
    refine ⟨fun h => ?_, fun i hi => ?_⟩
    . obtain ⟨j, j1, j2, j3⟩ := cU_pos (L := fun j => listed.getD j false) (k := q) (by omega)
      have hjo : ops[j]? = some (ops[j]'(by omega)) := Array.getElem?_eq_getElem (by omega)
      have : j ∈ Region.ready .any ops listed := mem_ready.2 ⟨by rw [hd j (by omega)]; exact j2, _, hjo, fun e he _ => j3 _ (hord j _ hjo e he)⟩
      rw [h] at this
      cases this
    . obtain ⟨h1, o, h2, h3⟩ := mem_ready.1 hi
      have his : i < ops.size := (Array.getElem?_eq_some_iff.1 h2).1
      rw [hd i his] at h1
      have hiq : i < q := by
        refine Nat.not_le.1 fun hqi => ?_
        have := hall (fun j => listed.getD j false) hcl i o hqi h2 h3
        obtain ⟨j, j1, j2, -⟩ := cU_pos (L := fun j => listed.getD j false) (k := q) (by omega)
        have h5 : listed.getD j false = true := this j j1
        have h6 : listed.getD j false = false := j2
        rw [h6] at h5
        cases h5
      have e1 : (listed.setIfInBounds i true).getD i false = true := by simp [hs, his]
      have e2 : ∀ j, j ≠ i -> (listed.setIfInBounds i true).getD j false = listed.getD j false := fun j hj => getD_set_ne false (Ne.symm hj)
      have hcu := cU_set (L := fun j => listed.getD j false) (L' := fun j => (listed.setIfInBounds i true).getD j false) (i := i) h1 e1 e2 q
      rw [if_pos hiq] at hcu
      refine wpOp_mono (fun a' w' hI' => any_inv hq hord hall hstep hend m _ a' w' (by simpa using hs) (fun j hj => ?_) (fun j o' ho' hj e he hb => ?_) (by omega) hI') (hstep _ (fun j => (listed.setIfInBounds i true).getD j false) i o a w hiq h2 h1 e1 e2 h3 hI)
      . rw [e2 j (by omega)]; exact hz j hj
      . by_cases hji : j = i
        . subst hji
          rw [h2] at ho'
          cases ho'
          have := h3 e he hb
          rw [e2 _ (fun e' => by rw [e'] at this; rw [h1] at this; cases this)]
          exact this
        . rw [e2 j hji] at hj
          have := hcl j o' ho' hj e he hb
          rw [e2 _ (fun e' => by rw [e'] at this; rw [h1] at this; cases this)]
          exact this
theorem setH_same {id : Nat} {c : Chunk} : ∀ {h : Heap}, h.get id = some c -> setH id c h = h
  | [], hg => by cases hg
  | p :: h, hg => by
    unfold Heap.get at hg
    unfold setH
    by_cases e : p.1 = id
    . rw [if_pos e] at hg
      cases hg
      rw [show Nat.beq p.1 id = true by simp [e]]
      show (id, p.2) :: h = p :: h
      rw [<- e]
    . rw [if_neg e] at hg
      rw [show Nat.beq p.1 id = false from beqF e]
      show p :: setH id c h = p :: h
      rw [setH_same hg]
theorem okf_not {cx : Cx} {σ : Nat -> Loc} {h : Heap} {id e sz : Nat} {xs : List D} (hex : ∃ p ∈ h, p.1 = id /\ p.2 = Chunk.arr e sz xs) (hnil : (σ id).nil = false) (hb : okf cx σ h (σ id).b) : False := by
  obtain ⟨p, hp, hp1, hp2⟩ := hex
  exact hb.2 p hp (by rw [hp1, hp2]; simp [blk, hnil])
section
variable {cx : Cx} {h : Heap}
structure Raw (cx : Cx) (h : Heap) (σ : Nat -> Loc) (id t e sz : Nat) (xs ys : List D) (a : Act) (w : World) : Prop where
  nil : (σ id).nil = false
  val : a.tmps.getD t undef = sliceAt (σ id) (xs ++ ys).length
  cap : (xs ++ ys).length <= (σ id).cap /\ (σ id).cap <= maxLen
  cur : ∃ cur : Array Value, w.heap[(σ id).b]? = some (.cells cur e (0, 0)) /\ cur.size = (σ id).cap * sz /\ RepCells (okf cx σ h) w sz (cur.toList.take ((xs ++ ys).length * sz)) (xs ++ ys)
theorem Raw.ext {σ : Nat -> Loc} {id t e sz : Nat} {xs ys : List D} {a : Act} {w w' : World} {dst : Option Nat} {v : Value} (hr : Raw cx h σ id t e sz xs ys a w) (hb : Below w.heap.size w w') (hd : dst ≠ some t) : Raw cx h σ id t e sz xs ys (a.put dst v) w' := by
  obtain ⟨cur, c1, c2, c3⟩ := hr.cur
  have hlt : (σ id).b < w.heap.size := by
    rcases Nat.lt_or_ge (σ id).b w.heap.size with h | h
    . exact h
    . rw [Array.getElem?_eq_none h] at c1; cases c1
  refine ⟨hr.nil, ?_, hr.cap, cur, by rw [hb.block _ hlt]; exact c1, c2, c3.mono fun b h1 h2 => ⟨h1, hb.block b h2⟩⟩
  rw [<- hr.val]
  cases dst with
  | none => rfl
  | some u =>
    have : u ≠ t := fun e => hd (by rw [e])
    simp [Act.put, this]
theorem op_keep {σ : Nat -> Loc} {s : Slots} {a : Act} {w : World} {t id e sz : Nat} {T rt : Nat} {x y : Operand} {ts te : TR} {xs ys : List D} {pos : String} {af : Array Edge} {K : Act -> World -> Prop} {Q : Exit -> Act -> World -> Prop}
    (hr : RW cx σ (lk s) h a w) (hx : lk s t = .junk \/ True) (hxv : opv (lk s) x = .own id) (hg : h.get id = some (.arr e sz xs)) (hy : opv (lk s) y = .d (.lst ys))
    (ht : tget cx.T T = some ts) (hsl : ts.isSl = true) (hel : Nat.beq ts.elem e = true) (hte : tget cx.T e = some te) (hd : Nat.blt t cx.nt = true)
    (hsz : Nat.beq sz te.size = true) (hz1 : (te.agg || Nat.beq te.zero.length 1) = true) (hz2 : Nat.beq te.zero.length te.size = true) (hz3 : Nat.ble 1 te.size = true) (hby : Nat.ble te.bytes 64 = true)
    (hw : elsOk te.size ys = true) (hpos : 0 < xs.length) (hyp : 0 < ys.length) (hb : xs.length + ys.length <= 1099511627776)
    (hA : ∀ a' w', RW cx σ (fput (lk s) (some t) .junk) h a' w' -> Raw cx h σ id t e sz xs ys a' w' -> K a' w')
    (hB : ∀ a' w', R cx (lk ((t, .own t) :: killS t s)) ((t, .arr e sz (xs ++ ys)) :: killH t h) a' w' -> K a' w') :
    Oper.wp cx.P ⟨some t, .call { callee := .builtin .append, args := #[x, y], argTypes := #[T, T] }, rt, pos, af, none⟩ a w K Q := by
  have hby' := Nat.le_of_ble_eq_true hby
  have h1 := rep_eval hr x
  rw [hxv] at h1
  simp only [RepSV, hg] at h1
  have h2 : (a.eval y = .slice none 0 0 /\ ys = []) \/ ∃ ad c cl, a.eval y = .slice (some ad) ys.length c /\ RepCells (okf cx σ h) w te.size cl ys /\ (∀ (j : Nat) u, cl[j]? = some u -> w.cell? (ad.add j) = some u) /\ ∀ u ∈ cl, u.oneCell' = true := by
    have hv := rep_eval hr y
    rw [hy] at hv
    exact src_cells hv (elsOk_all hw)
  have hsz' := Nat.eq_of_beq_eq_true hsz
  subst hsz'
  have hel' := Nat.eq_of_beq_eq_true hel
  subst hel'
  obtain ⟨hex, h0, hlt, cl, ho, hc⟩ := chunk_own hr hg
  obtain ⟨hnil, cur, c1, c2, c3, c4, c5⟩ := own_form ho hpos
  obtain ⟨d, i', hdd, hi', _, _, _, hs', _⟩ := tr_facts (tget_ok cx.tab ht)
  have := hs' hsl
  subst this
  obtain ⟨i, z, hi, hz, hisz, hiby, hcs, _⟩ := zero_cells (tget_ok cx.tab hte) hz1 hz2 hz3 (ok := okf cx σ h) (w := w) 0
  rcases h2 with ⟨hyv, rfl⟩ | ⟨ad, c, news, hyv, hnc, hcells, hone⟩
  . simp at hyp
  have hcl : cl.length = xs.length * te.size := hc.1
  have e0 : sliceAt (σ id) xs.length = .slice (some ⟨(σ id).b, 0, none⟩) xs.length (σ id).cap := by simp [sliceAt, hnil]
  have hbb : (xs.length + ys.length) * te.bytes <= 140737488355328 := by
    have : (xs.length + ys.length) * te.bytes <= (xs.length + ys.length) * 64 := Nat.mul_le_mul_left _ hby'
    omega
  have step : ∀ (v : Value) (w' : World), (Builtin.append_ #[T, T] rt #[a.eval x, a.eval y]).run cx.P w = .ok v w' -> K (a.put (some t) v) w' ->
      Oper.wp cx.P ⟨some t, .call { callee := .builtin .append, args := #[x, y], argTypes := #[T, T] }, rt, pos, af, none⟩ a w K Q := by
    intro v w' r1 hK
    unfold Oper.wp execOp
    simp only [resolve, invoke, builtin, Sem.run_bind, Sem.run_pure, Result.andThen_ok, List.map_toArray, List.map_cons, List.map_nil, r1]
    exact hK
  have hlen : (xs ++ ys).length = xs.length + ys.length := by simp
  have htn : t < cx.nt := Nat.le_of_ble_eq_true hd
  obtain ⟨v', w', s1, s2, s3, s4⟩ := run_append_own (P := cx.P) w 0 T rt ts.elem i z te.size te.bytes hdd hi hz hisz hiby hcs h0 (sliceAt (σ id) xs.length) xs.length cl ho ad ys.length c news hnc.1 hcells hone (by simp only [maxLen]; omega) hbb (Nat.zero_le _)
  by_cases hroom : xs.length + ys.length <= (σ id).cap
  . have hfit2 : xs.length * te.size + ys.length * te.size <= (σ id).cap * te.size := by rw [<- Nat.add_mul]; exact Nat.mul_le_mul_right _ hroom
    have r2 := run_append_room (P := cx.P) w T rt ts.elem i hdd hi (σ id).b xs.length (σ id).cap cur c1 ad ys.length c news (by rw [hisz]; exact hnc.1) hcells hone hroom (by rw [hisz, hnc.1, c4]; exact hfit2)
    rw [hisz] at r2
    have s1' := s1
    rw [e0, r2] at s1'
    obtain ⟨rfl, rfl⟩ := Result.ok.inj s1'
    refine step _ _ (by rw [h1, hyv]; exact s1) ?_
    let row : Array Value := (cur.toList.take (xs.length * te.size) ++ news ++ cur.toList.drop (xs.length * te.size + news.length)).toArray
    have hrow : (w.setRow (σ id).b row).heap[(σ id).b]? = some (.cells row ts.elem (0, 0)) := setRow_heap w _ cur _ ts.elem (0, 0) c1
    have hct : (cur.toList.take (xs.length * te.size)).length = xs.length * te.size := by
      rw [List.length_take, Array.length_toList (xs := cur), c4, Nat.min_eq_left (Nat.mul_le_mul_right _ c2)]
    have hrsz : row.size = (σ id).cap * te.size := by
      simp only [row, List.size_toArray, List.length_append, hct, List.length_drop, Array.length_toList (xs := cur), c4, hnc.1]
      omega
    have htk : row.toList.take (xs.length * te.size) = cl := by
      simp only [row, List.toList_toArray, List.append_assoc]
      rw [List.take_left' hct, c5]
    have hr' := hr.set (w' := w.setRow (σ id).b row) (c' := .arr ts.elem te.size xs) hg (by simp [Chunk.like]) rfl rfl rfl (by simp) (fun b hb => setRow_other w _ b _ (by simpa [blk, hnil] using hb)) fun hok => by
      refine ⟨h0, cl, ⟨hcl, .inr ⟨(σ id).b, (σ id).cap, row, e0, Nat.zero_le _, hrow, c2, c3, hrsz, htk⟩⟩, hc.mono hok⟩
    have hsame : setH id (.arr ts.elem te.size xs) h = h := setH_same hg
    rw [hsame] at hr'
    have hokk : ∀ b, okf cx σ h b -> b < w.heap.size -> okf cx σ h b /\ (w.setRow (σ id).b row).heap[b]? = w.heap[b]? := fun b hb hbl => ⟨hb, setRow_other w _ b _ (fun hbe => okf_not hex hnil (hbe ▸ hb))⟩
    refine hA _ _ (hr'.put (dst := some t) (fun u hu => by cases hu; exact htn) trivial) ⟨hnil, ?_, ⟨by rw [hlen]; exact hroom, c3⟩, row, hrow, hrsz, ?_⟩
    . have htt : t < a.tmps.size := by rw [hr.size]; exact htn
      rw [hlen]
      simp [Act.put, htt, sliceAt, hnil]
    . have : row.toList.take ((xs ++ ys).length * te.size) = cl ++ news := by
        simp only [row, List.toList_toArray]
        rw [List.take_left' (by rw [List.length_append, hct, hnc.1, hlen, Nat.add_mul]), c5]
      rw [this]
      exact (hc.append hnc).mono hokk
  . obtain ⟨v2, w2, g1, g2, g3⟩ := run_append_arg_grows (P := cx.P) w T rt ts.elem i z te.size te.bytes hdd hi hz hisz hiby hcs h0 ⟨(σ id).b, 0, none⟩ xs.length (σ id).cap cl hcl (ho.cells (g := (σ id).b) (by rw [e0]; rfl)) ad ys.length c news hnc.1 hcells (by omega) (by simp only [maxLen]; omega) hbb
    rcases g2.2 with ⟨q1, q2⟩ | ⟨g, cap, cur', q1, q2, q3, q4, q5, q6, q7⟩
    . omega
    refine step v2 w2 (by rw [h1, hyv, e0]; exact g1) (hB _ _ ?_)
    have hl : sliceAt ⟨g, cap, false, []⟩ (xs ++ ys).length = v2 := by rw [q1, hlen]; simp [sliceAt]
    have := lay_arr (w' := w2) hr hd t (anc_slot hd).1 ⟨g, cap, false, []⟩ ts.elem te.size (xs ++ ys) g3.os g3.tape g3.output g3.size (fun b hb hne => g3.block b hb (by simp)) (fun _ => .inl q2) h0 (cl ++ news) (by
      rw [hl, hlen]
      exact ⟨g2.1, .inr ⟨g, cap, cur', q1, Nat.zero_le _, q3, q4, q5, q6, q7⟩⟩) (hc.append hnc)
    rw [hl] at this
    exact this
theorem put_same {a : Act} {t : Nat} {v : Value} (h : a.tmps.getD t undef = v) : a.put (some t) v = a := by
  have : a.tmps.setIfInBounds t v = a.tmps := by
    apply Array.ext
    . simp
    . intro i h1 h2
      by_cases e : t = i
      . subst e
        rw [Array.getElem_setIfInBounds_self]
        rw [<- h]
        simp [h2]
      . rw [Array.getElem_setIfInBounds_ne (h := e) (hj := by simpa using h2)]
  simp [Act.put, this]
theorem R_promote {σ : Nat -> Loc} {s : Slots} {a : Act} {w : World} {t id e sz : Nat} {xs ys xs0 : List D} (hr : RW cx σ (lk s) h a w) (hR : Raw cx h σ id t e sz xs ys a w) (hg : h.get id = some (.arr e sz xs0)) (hd : Nat.blt t cx.nt = true) (hid : isAnc id = false) :
    R cx (lk ((t, .own id) :: killS id s)) ((id, .arr e sz (xs ++ ys)) :: killH id h) a w := by
  obtain ⟨cur, c1, c2, c3⟩ := hR.cur
  obtain ⟨hex, h0, hlt, -, -, -⟩ := chunk_own hr hg
  have hnil := hR.nil
  have := lay_arr (w' := w) hr hd id hid (σ id) e sz (xs ++ ys) rfl rfl rfl (Nat.le_refl _) (fun _ _ _ => rfl) (fun hn => by
    obtain ⟨p, hp, hp1, hp2⟩ := hex
    exact .inr ⟨p, hp, hp1, by rw [hp1, hp2]; simp [blk, hn]⟩) h0 (cur.toList.take ((xs ++ ys).length * sz)) ⟨c3.1, .inr ⟨(σ id).b, (σ id).cap, cur, by simp [sliceAt, hnil], Nat.zero_le _, c1, hR.cap.1, hR.cap.2, c2, rfl⟩⟩ c3
  rwa [put_same hR.val] at this
def depB (T : List (Nat × Nat × SV)) (o : Oper) : Bool := o.op.operands.toList.all fun x => match x with
  | .tmp t => T.all fun e => !(Nat.beq e.2.1 t) || (o.after.toList.any fun ed => Region.binds .any ed && Nat.beq ed.on e.1)
  | _ => true
theorem depB_same {T : List (Nat × Nat × SV)} {o : Oper} {L L' : Nat -> Bool} {s0 : Slots} (hB : depB T o = true) (h1 : ∀ e ∈ o.after, Region.binds .any e = true -> L e.on = true) (h2 : ∀ e ∈ o.after, Region.binds .any e = true -> L' e.on = true) :
    ∀ t, .tmp t ∈ o.op.operands -> lk (sT T L' s0) t = lk (sT T L s0) t := fun t ht => sT_same fun e he het => by
  unfold depB at hB
  have := List.all_eq_true.1 hB (.tmp t) (by simpa using ht)
  have := List.all_eq_true.1 this e he
  simp only [het, Nat.beq_refl, Bool.not_true, Bool.false_or, List.any_eq_true, Bool.and_eq_true] at this
  obtain ⟨ed, q1, q2, q3⟩ := this
  have q3 := Nat.eq_of_beq_eq_true q3
  rw [<- q3, h1 ed (by simpa using q1) q2, h2 ed (by simpa using q1) q2]
theorem sT_congr {L L' : Nat -> Bool} {s0 : Slots} : ∀ {T : List (Nat × Nat × SV)}, (∀ e ∈ T, L e.1 = L' e.1) -> sT T L s0 = sT T L' s0
  | [], _ => rfl
  | e :: T, h => by
    unfold sT
    rw [h e (List.mem_cons_self ..), sT_congr fun x hx => h x (List.mem_cons_of_mem _ hx)]
theorem awp_appKeep {rid : Nat} {l : List Oper} {s0 : Slots} {Q : Exit -> Slots -> Heap -> Prop} (T : List (Nat × Nat × SV)) (p q : Nat) {t id e sz TT rt : Nat} {x y : Operand} {ts te : TR} {xs ys : List D} {pos : String} {af : Array Edge}
    (hA : awpL cx l.toArray (l.drop q) ((t, .own id) :: killS id (sT T (fun _ => true) s0)) ((id, .arr e sz (xs ++ ys)) :: killH id h) Q)
    (hB : awpL cx l.toArray (l.drop q) ((t, .own t) :: sT T (fun _ => true) s0) ((t, .arr e sz (xs ++ ys)) :: killH t h) Q)
    (hm : cx.P.follows .mixedOrders = true) (hql : q <= l.length) (hpq : p < q)
    (hordB : (l.zipIdx.all fun p => p.1.after.toList.all fun e => Nat.blt e.on p.2) = true)
    (hall : ∀ (L : Nat -> Bool), (∀ (i : Nat) (o : Oper), l[i]? = some o -> L i = true -> ∀ e ∈ o.after, Region.binds .any e = true -> L e.on = true) -> ∀ (i : Nat) (o : Oper), q <= i -> l[i]? = some o -> (∀ e ∈ o.after, Region.binds .any e = true -> L e.on = true) -> ∀ j, j < q -> L j = true)
    (hTi : (T.map (·.1)).Nodup) (hTu : (T.map (·.2.1)).Nodup) (hTq : ∀ e ∈ T, e.1 < q /\ e.1 ≠ p /\ e.2.1 ≠ t /\ SV.kill [t] e.2.2 = e.2.2)
    (hcovB : ((List.range q).all fun i => Nat.beq i p || T.any fun e => Nat.beq e.1 i) = true)
    (hT : ∀ i u sv, (i, u, sv) ∈ T -> ∃ o, l[i]? = some o /\ o.dst = some u /\ o.guard = none /\ Nat.blt u cx.nt = true /\ depB T o = true /\ Qt cx h o (lk (sT T (fun _ => true) s0)) sv /\ Qt cx ((t, .arr e sz (xs ++ ys)) :: killH t h) o (lk (sT T (fun _ => true) s0)) sv /\ ∀ t', .tmp t' ∈ o.op.operands -> t' ≠ t)
    (h0k : killS t s0 = s0) (h0t : lk s0 t = .junk)
    (hp : l[p]? = some ⟨some t, .call { callee := .builtin .append, args := #[x, y], argTypes := #[TT, TT] }, rt, pos, af, none⟩) (hpd : depB T ⟨some t, .call { callee := .builtin .append, args := #[x, y], argTypes := #[TT, TT] }, rt, pos, af, none⟩ = true)
    (hx : opv (lk (sT T (fun _ => true) s0)) x = .own id) (hy : opv (lk (sT T (fun _ => true) s0)) y = .d (.lst ys)) (hg : h.get id = some (.arr e sz xs)) (hid : isAnc id = false)
    (ht : tget cx.T TT = some ts) (hsl : ts.isSl = true) (hel : Nat.beq ts.elem e = true) (hte : tget cx.T e = some te) (hd : Nat.blt t cx.nt = true)
    (hsz : Nat.beq sz te.size = true) (hz1 : (te.agg || Nat.beq te.zero.length 1) = true) (hz2 : Nat.beq te.zero.length te.size = true) (hz3 : Nat.ble 1 te.size = true) (hby : Nat.ble te.bytes 64 = true)
    (hw : elsOk te.size ys = true) (hpos : 0 < xs.length) (hyp : 0 < ys.length) (hb : xs.length + ys.length <= 1099511627776)
    (hseq : Region.seqB .any l.toArray (l.drop q).length q ((List.range l.length).map fun j => decide (j < q)).toArray = true) :
    awp cx (.region rid l.toArray true) s0 h Q := fun a w hr0 => by
  have hsz0 : l.toArray.size = l.length := by simp
  have hord : ∀ (i : Nat) (o : Oper), l[i]? = some o -> ∀ e ∈ o.after, e.on < i := fun i o ho e he => by
    have := List.all_eq_true.1 hordB (o, i) (List.mem_zipIdx_iff_getElem?.2 ho)
    have := List.all_eq_true.1 this e (by simpa using he)
    exact Nat.le_of_ble_eq_true this
  have hcov : ∀ i, i < q -> i ≠ p -> ∃ u sv, (i, u, sv) ∈ T := fun i hi hip => by
    have := List.all_eq_true.1 hcovB i (List.mem_range.2 hi)
    rw [beqF hip, Bool.false_or, List.any_eq_true] at this
    obtain ⟨e, he, h2⟩ := this
    exact ⟨e.2.1, e.2.2, by rw [<- Nat.eq_of_beq_eq_true h2]; exact he⟩
  refine wp_region_any hm ?_
  have hlt : ∀ L : Nat -> Bool, lk (sT T L s0) t = .junk := fun L => by
    have : ∀ (T' : List (Nat × Nat × SV)), (∀ e ∈ T', e.2.1 ≠ t) -> lk (sT T' L s0) t = .junk := fun T' => by
      induction T' with
      | nil => intro _; exact h0t
      | cons z T' ih =>
        intro hz
        have ih := ih fun e he => hz e (List.mem_cons_of_mem _ he)
        have h1 := hz z (List.mem_cons_self ..)
        unfold sT
        split
        . simp only [lk, if_neg (Ne.symm h1), ih]
        . exact ih
    exact this T fun e he => (hTq e he).2.2.1
  let I : (Nat -> Bool) -> Act -> World -> Prop := fun L a w =>
    (L p = false /\ ∃ σ, RW cx σ (lk (sT T L s0)) h a w) \/ (L p = true /\ ∃ σ, RW cx σ (lk (sT T L s0)) h a w /\ Raw cx h σ id t e sz xs ys a w) \/ (L p = true /\ ∃ σ, RW cx σ (lk ((t, .own t) :: sT T L s0)) ((t, .arr e sz (xs ++ ys)) :: killH t h) a w)
  have hdrop : (l.drop q).length = l.length - q := by simp
  have key := any_inv (P := cx.P) (ops := l.toArray) (Q := lift cx Q) (I := I) (q := q) (by simpa using hql) (fun i o ho => hord i o (by simpa using ho)) (fun L hL i o hi ho => hall L (fun i o ho => hL i o (by simpa using ho)) i o hi (by simpa using ho))
    (fun L L' i o a w hiq ho h0 h1 h2 hdep hI => by
      have ho' : l[i]? = some o := by simpa using ho
      unfold wpOp
      simp only [ho]
      by_cases hip : i = p
      . subst hip
        rw [hp] at ho'
        cases ho'
        rw [if_pos (by simp [Region.wanted])]
        refine .inl ?_
        have hsame := depB_same (s0 := s0) (L := fun _ => true) (L' := L) hpd (fun _ _ _ => rfl) hdep
        have hxL : opv (lk (sT T L s0)) x = .own id := by
          rw [<- hx]
          cases x <;> first | rfl | exact hsame _ (by simp [Op.operands, Call.operands])
        have hyL : opv (lk (sT T L s0)) y = .d (.lst ys) := by
          rw [<- hy]
          cases y <;> first | rfl | exact hsame _ (by simp [Op.operands, Call.operands])
        have hTL : sT T L' s0 = sT T L s0 := sT_congr fun e he => h2 _ (hTq e he).2.1
        rcases hI with ⟨-, σ, hr⟩ | ⟨h3, -⟩ | ⟨h3, -⟩
        . refine op_keep hr (.inr trivial) hxL hg hyL ht hsl hel hte hd hsz hz1 hz2 hz3 hby hw hpos hyp hb (fun a' w' hr' hraw => ?_) (fun a' w' hr' => ?_)
          . refine .inr (.inl ⟨h1, σ, ?_, hraw⟩)
            rw [hTL]
            have : fput (lk (sT T L s0)) (some t) .junk = lk (sT T L s0) := by
              funext u
              rw [<- lk_put]
              simp only [put, lk]
              by_cases hu : u = t
              . rw [if_pos hu, hu, hlt L]
              . rw [if_neg hu]
            rw [this] at hr'
            exact hr'
          . obtain ⟨σ', hr'⟩ := hr'
            refine .inr (.inr ⟨h1, σ', ?_⟩)
            rw [hTL]
            rw [sT_kill h0k fun e he => (hTq e he).2.2.2] at hr'
            exact hr'
        . rw [h0] at h3; cases h3
        . rw [h0] at h3; cases h3
      . obtain ⟨u, sv, hm'⟩ := hcov i hiq hip
        obtain ⟨o', q1, q2, q3, q4, q5, q6, q7, q8⟩ := hT i u sv hm'
        have hoo : o' = o := by
          rw [q1] at ho'
          exact Option.some.inj ho'
        subst hoo
        have hut := (hTq _ hm').2.2.1
        have hLp : L' p = L p := h2 p (Ne.symm hip)
        have hsame := depB_same (s0 := s0) (L := fun _ => true) (L' := L) q5 (fun _ _ _ => rfl) hdep
        have hput := sT_put (s0 := s0) (L := L) (L' := L') hm' hTi hTu h1 h2
        have hdl : ∀ u', o'.dst = some u' -> u' < cx.nt := fun u' hu' => by rw [q2] at hu'; cases hu'; exact Nat.le_of_ble_eq_true q4
        rw [if_pos (by simp [Region.wanted, q3])]
        refine .inl ?_
        rcases hI with ⟨h3, σ, hr⟩ | ⟨h3, σ, hr, hraw⟩ | ⟨h3, σ, hr⟩
        . refine q6 _ hsame σ a w hr _ _ fun v w' hbl hv => .inl ⟨by rw [hLp]; exact h3, σ, ?_⟩
          have := (hr.ext hbl).put hdl hv
          rw [q2, hput] at this
          rw [q2]
          exact this
        . refine q6 _ hsame σ a w hr _ _ fun v w' hbl hv => .inr (.inl ⟨by rw [hLp]; exact h3, σ, ?_, ?_⟩)
          . have := (hr.ext hbl).put hdl hv
            rw [q2, hput] at this
            rw [q2]
            exact this
          . exact hraw.ext hbl (by rw [q2]; exact fun e => hut (Option.some.inj e))
        . refine q7 _ (fun t' ht' => by simp only [lk, if_neg (q8 t' ht')]; exact hsame t' ht') σ a w hr _ _ fun v w' hbl hv => .inr (.inr ⟨by rw [hLp]; exact h3, σ, ?_⟩)
          have := (hr.ext hbl).put hdl hv
          have e2 : fput (lk ((t, .own t) :: sT T L s0)) o'.dst sv = lk ((t, .own t) :: sT T L' s0) := by
            rw [q2]
            funext r
            have hr2 := congrFun hput r
            rw [<- lk_put] at hr2 ⊢
            simp only [put, lk] at hr2 ⊢
            by_cases hrt : r = t
            . rw [if_pos hrt, if_pos hrt, if_neg (by rw [hrt]; exact Ne.symm hut)]
            . rw [if_neg hrt, if_neg hrt]; exact hr2
          rw [e2] at this
          exact this)
    (fun L listed a w hL hs hlo hhi hI => by
      have hle : listed = ((List.range l.length).map fun j => decide (j < q)).toArray := by
        apply Array.ext
        . simp [hs]
        . intro j h1 h2
          have h3 := hL j
          rw [hs] at h1
          have hjs : j < listed.size := by rw [hs]; exact h1
          simp [Array.getD, hjs] at h3
          rw [h3]
          by_cases hjq : j < q
          . simp [hjq, hlo j hjq]
          . simp [hjq, hhi j (by omega)]
      have hTL : sT T L s0 = sT T (fun _ => true) s0 := sT_congr fun e he => hlo _ (hTq e he).1
      have fin : wpList cx.P l.toArray (lift cx Q) (l.drop q) a w := by
        rcases hI with ⟨h3, -⟩ | ⟨-, σ, hr, hraw⟩ | ⟨-, σ, hr⟩
        . rw [hlo p hpq] at h3; cases h3
        . refine hA a w ?_
          rw [<- hTL]
          exact R_promote hr hraw hg hd hid
        . refine hB a w ?_
          rw [<- hTL]
          exact ⟨σ, hr⟩
      rw [hle, hsz0, <- hdrop]
      exact wpAny_of_seq (md := .any) (l.drop q) q _ a w (fun j => by simp [List.getElem?_drop]) hseq fin)
    q (Array.replicate l.toArray.size false) a { w with drawn := w.drawn + 1 } (by simp) (fun j _ => by simp [Array.getD]) (fun i o _ hi => by simp [Array.getD] at hi) ?_ ?_
  . have : q + (l.toArray.size - q) = l.toArray.size := by simp; omega
    rw [this] at key
    exact key
  . have : ∀ k, cU (fun j => (Array.replicate l.toArray.size false).getD j false) k = k := fun k => by
      induction k with
      | zero => rfl
      | succ k ih => unfold cU; rw [ih]; simp [Array.getD]
    exact this q
  . obtain ⟨σ, hr⟩ := R_drew hr0
    refine .inl ⟨by simp [Array.getD], σ, ?_⟩
    have : sT T (fun j => (Array.replicate l.toArray.size false).getD j false) s0 = s0 := by
      have : ∀ T' : List (Nat × Nat × SV), sT T' (fun j => (Array.replicate l.toArray.size false).getD j false) s0 = s0 := fun T' => by
        induction T' with
        | nil => rfl
        | cons z T' ih => unfold sT; rw [if_neg (by simp [Array.getD]), ih]
      exact this T
    rw [this]
    exact hr
theorem qa_lit0 {T : Nat} {ts te : TR} {f : Nat -> SV} {dst : Option Nat} {ty : Nat} {pos : String} {af : Array Edge} {gd : Option (Nat × Bool)} (ht : tget cx.T T = some ts) (hsl : ts.isSl = true) (hte : tget cx.T ts.elem = some te)
    (hz1 : (te.agg || Nat.beq te.zero.length 1) = true) (hz2 : Nat.beq te.zero.length te.size = true) (hz3 : Nat.ble 1 te.size = true) :
    Qt cx h ⟨dst, .buildSlice T 0 #[], ty, pos, af, gd⟩ f (.d (.full [])) := by
  intro s₁ hs σ a w hr K Q hK
  obtain ⟨out, r1, -, -, -⟩ := lit_run (P := cx.P) (tget_ok cx.tab ht) hsl (tget_ok cx.tab hte) hz1 hz2 hz3 (ok := fun _ => True) (w := w) (n := 0) (parts := []) (ys := []) rfl rfl (fun i p hp => by simp at hp) (fun z hz => by cases hz) (by simp)
  have run : (execOp a.eval ⟨dst, .buildSlice T 0 #[], ty, pos, af, gd⟩).run cx.P w = .ok (.value (.slice (some ⟨w.heap.size, 0, none⟩) 0 0)) (w.alloc (.cells out ts.elem)) := by
    simp only [execOp, List.map_toArray, List.map_nil, Sem.run_bind, r1, Result.andThen_ok, Sem.run_pure]
  unfold Oper.wp
  rw [run]
  exact hK _ _ ((Below.refl _ _).alloc (Nat.le_refl _) _) (RepD.fullE _)
end
end Go.Proofs.YtckpadnjldebaaaGreat
namespace Go.Proofs.YtckpadnjldebaaaGreat
open Go
set_option linter.unusedVariables false
set_option linter.unusedSimpArgs false
variable {cx : Cx} {ops : Array Oper} {s : Slots} {h : Heap} {Q : Exit -> Slots -> Heap -> Prop}
section
variable {dst : Option Nat} {ty : Nat} {pos : String} {af : Array Edge} {gd : Option (Nat × Bool)}
theorem wv_indexSub {T : Nat} {x i : Operand} {ts te : TR} {f : Nat -> SV} {id r e e' sz : Nat} {xss : List (List D)} {xs : List D} {hole : Option (Nat × SV)} {k : IntKind} {n : Int} (hx : opv f x = .sub id r) (hi : opv f i = .d (.int k n)) (hg : h.get id = some (.rows e e' sz xss hole))
    (ht : tget cx.T T = some ts) (hsl : ts.isSl = true) (hte : tget cx.T ts.elem = some te) (hsz : Nat.beq te.size 1 = true) (hxs : xss[r]? = some xs) (h0 : 0 <= n) (hlt : n < xs.length) :
    Qt cx h ⟨dst, .indexAddr T x i, ty, pos, af, gd⟩ f (.cel id r n.toNat) := by
  intro s₁ hs σ a w hr K Q hK
  have h1 := rep_eval hr x
  have h2 := rep_eval hr i
  rw [show opv s₁ x = opv f x from by cases x <;> first | rfl | exact hs _ (by simp [Op.operands]), hx] at h1
  rw [show opv s₁ i = opv f i from by cases i <;> first | rfl | exact hs _ (by simp [Op.operands]), hi] at h2
  have h2' := RepD.int_inv h2
  simp only [RepSV, hg] at h1
  obtain ⟨q, xs', hq, hxs', hv⟩ := h1
  rw [hxs] at hxs'
  cases hxs'
  obtain ⟨d, i', hdd, hi', _, _, _, hs', _⟩ := tr_facts (tget_ok cx.tab ht)
  have := hs' hsl
  subst this
  obtain ⟨_, ie, _, hie, _, hies, _⟩ := tr_facts (tget_ok cx.tab hte)
  have hsz' := Nat.eq_of_beq_eq_true hsz
  obtain ⟨_, _, _, _, ⟨cl, ho, hc⟩, _⟩ := chunk_rows hr hg
  have hnil : q.2.2 = false := by
    cases hn : q.2.2 with
    | false => rfl
    | true =>
      have := (hc r q xs hq hxs).2 hn
      subst this
      simp at hlt
      omega
  simp only [sliceAt, kidLoc, hnil, Bool.false_eq_true, if_false] at hv
  unfold Oper.wp
  have run : (execOp a.eval ⟨dst, .indexAddr T x i, ty, pos, af, gd⟩).run cx.P w = .ok (.value (.pointer (some ⟨q.1, n.toNat, none⟩))) w := by
    simp only [execOp, hv, h2', Instr.indexAt, asIntOf, Sem.run_bind, Sem.run_pure, Result.andThen_ok, run_underlying hdd]
    rw [if_pos ⟨h0, hlt⟩]
    simp [sizeOf, typeInfo, hie, hies, add_block, hsz']
  rw [run]
  exact hK _ _ (Go.RowKit.Below.refl _ _) (by simp only [RepSV]; exact ⟨q, hq, rfl⟩)
theorem wv_loadCel {T : Nat} {x : Operand} {tr : TR} {f : Nat -> SV} {id r off e e' : Nat} {xss : List (List D)} {xs : List D} {hole : Option (Nat × SV)} {y : D} (hx : opv f x = .cel id r off) (hg : h.get id = some (.rows e e' 1 xss hole)) (ht : tget cx.T T = some tr) (ha : tr.agg = false)
    (hxs : xss[r]? = some xs) (hy : xs[off]? = some y) (hh : hat hole ≠ some r) (ho : y.one = true) :
    Qt cx h ⟨dst, .load T x, ty, pos, af, gd⟩ f (.d y) := by
  intro s₁ hs σ a w hr K Q hK
  have h1 := rep_eval hr x
  rw [show opv s₁ x = opv f x from by cases x <;> first | rfl | exact hs _ (by simp [Op.operands]), hx] at h1
  simp only [RepSV] at h1
  obtain ⟨q, hq, hv⟩ := h1
  obtain ⟨_, _, _, _, _, harr, _⟩ := chunk_rows hr hg
  obtain ⟨_, cl, hown, c1, vs, c2, c3, c4⟩ := harr r q xs hq hxs hh
  have hoff : off < xs.length := (List.getElem?_eq_some_iff.1 hy).1
  have hvi : vs[off]? = some (vs[off]'(by omega)) := List.getElem?_eq_getElem (by omega)
  have hre := c3 off _ _ hvi hy
  have hcv := (c4 off _ hvi).2 0 (by omega)
  generalize vs[off]'(by omega) = v at hre hcv
  have hc := hre.oneCell ho
  rw [hc] at hcv
  simp only [Nat.mul_one, Nat.add_zero] at hcv
  obtain ⟨d, ii, hdd, hii, e1, e2, _⟩ := tr_facts (tget_ok cx.tab ht)
  have hcell : w.cell? ⟨q.1, off, none⟩ = some v := by
    obtain ⟨o1, o2⟩ := hown
    rcases o2 with ⟨_, o2⟩ | ⟨g, cap, cur, q1, _, q3, q4, q5, q6, q7⟩
    . omega
    . have hgb : g = q.1 := by
        unfold sliceAt at q1
        split at q1
        . cases q1
        . cases q1; rfl
      subst hgb
      rw [cell_at q3]
      have : cl[off]? = cur[off]? := by rw [<- q7, List.getElem?_take, if_pos (by omega), Array.getElem?_toList]
      rw [<- this, hcv]
      simp
  unfold Oper.wp
  have run : (execOp a.eval ⟨dst, .load T x, ty, pos, af, gd⟩).run cx.P w = .ok (.value v) w := by
    simp only [execOp, hv, Instr.loadAt, Instr.sureAddr, Sem.run_bind, Sem.run_pure, Result.andThen_ok, loadVar, run_isAgg hdd, e1, ha, Bool.false_eq_true, if_false, run_load, hcell]
  rw [run]
  exact hK _ _ (Go.RowKit.Below.refl _ _) hre
end
end Go.Proofs.YtckpadnjldebaaaGreat
