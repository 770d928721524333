/- A row of one's own is put into the place from which a row was taken. No condition. -/
import Derived.Test.YtckpadnjldebaaaGreatFwT
import Derived.Laws.Slices
namespace Go.Proofs.YtckpadnjldebaaaGreat
open Go
open Go.RowKit (Below)
set_option linter.unusedVariables false
set_option linter.unusedSimpArgs false
section
variable {cx : Cx} {ops : Array Oper} {s : Slots} {h : Heap} {Q : Exit -> Slots -> Heap -> Prop} {dst : Option Nat} {t ty : Nat} {pos : String} {af : Array Edge} {gd : Option (Nat × Bool)}
theorem awp_permTo {cx : Cx} {c : Code} {s : Slots} {h : Heap} {Q : Exit -> Slots -> Heap -> Prop} (H0 : Heap) (hp : sortH h = sortH H0) (hn : awp cx c s H0 Q) : awp cx c s h Q := fun a w hr => hn a w (R_perm ((perm_of_sort hp).trans (perm_of_sort (rfl : sortH H0 = sortH H0)).symm) hr)
end
end Go.Proofs.YtckpadnjldebaaaGreat
namespace Go.Proofs.YtckpadnjldebaaaGreat
open Go
open Go.RowKit (Below)
set_option linter.unusedVariables false
set_option linter.unusedSimpArgs false
inductive D.Le : D -> D -> Prop
  | refl (x : D) : D.Le x x
  | tag (b e sz : Nat) (xs : List D) : D.Le (.rowb b e sz xs) (.lst xs)
  | nil : D.Le .nils (.lst [])
  | lst (xs ys : List D) : xs.length = ys.length -> (∀ (i : Nat) x y, xs[i]? = some x -> ys[i]? = some y -> D.Le x y) -> D.Le (.lst xs) (.lst ys)
theorem RepD.le {ok : Nat -> Prop} {w : World} {x y : D} (hl : D.Le x y) : ∀ {v : Value}, RepD ok w v x -> RepD ok w v y := by
  induction hl with
  | refl x => exact fun h => h
  | tag b e sz xs =>
    intro v h
    cases h with
    | rowb b cap n cells e xs vs sz h1 h2 h3 h4 h5 h5b h5c h5d h6 h7 =>
      exact .lst b 0 cap n cells e (0, 0) xs vs sz h1 h2 h3 h4 h5 (by have : cap <= maxLen := h5b; simp only [maxLen] at this; omega) h6 fun i v hv => ⟨(h7 i v hv).1, fun j hj => by rw [Nat.zero_add]; exact (h7 i v hv).2 j hj⟩
  | nil =>
    intro v h
    rw [RepD.nils_inv h]
    exact .nil0
  | lst xs ys hl _ ih =>
    intro v h
    cases h with
    | nil0 =>
      have : ys = [] := List.eq_nil_of_length_eq_zero (by simpa using hl.symm)
      subst this
      exact .nil0
    | emp a cap =>
      have : ys = [] := List.eq_nil_of_length_eq_zero (by simpa using hl.symm)
      subst this
      exact .emp a cap
    | lst b off cap n cells e fr xs vs sz h1 h2 h3 h4 h5 h5b h6 h7 =>
      refine .lst b off cap n cells e fr ys vs sz h1 h2 (h3.trans hl) (h4.trans hl) h5 h5b (fun i v y hv hy => ?_) h7
      have hi : i < ys.length := by
        rcases Nat.lt_or_ge i ys.length with h | h
        . exact h
        . simp [h] at hy
      have hx : xs[i]? = some (xs[i]'(by omega)) := List.getElem?_eq_getElem (by omega)
      exact ih i _ _ hx hy (h6 i v _ hv hx)
theorem AC.le {P : Program} {f : Nat} {xs ys : List D} {r : D} (h : AC P f ys r) (hl : xs.length = ys.length) (hle : ∀ (i : Nat) x y, xs[i]? = some x -> ys[i]? = some y -> D.Le x y) : AC P f xs r :=
  ⟨h.1, fun w ok vs he hok hr => h.2 w ok vs he hok ⟨hr.1.trans hl, fun i v y hv hy => by
    have hi : i < ys.length := by
      rcases Nat.lt_or_ge i ys.length with h | h
      . exact h
      . simp [h] at hy
    have hx : xs[i]? = some (xs[i]'(by omega)) := List.getElem?_eq_getElem (by omega)
    exact (hr.2 i v _ hv hx).le (hle i _ _ hx hy)⟩⟩
def tagD (e sz : Nat) : Option Nat -> List D -> D
  | none, _ => .nils
  | some b, xs => .rowb b e sz xs
def tagL (e sz : Nat) (bs : List (Option Nat)) (xss : List (List D)) : List D := List.zipWith (tagD e sz) bs xss
structure Tags (n : Nat) (bs : List (Option Nat)) (xss : List (List D)) : Prop where
  len : bs.length = xss.length
  new : ∀ b, some b ∈ bs -> n <= b
  nd : ∀ (i j b : Nat), bs[i]? = some (some b) -> bs[j]? = some (some b) -> i = j
  emp : ∀ i : Nat, bs[i]? = some none -> xss[i]? = some []
theorem tagL_length {e sz : Nat} {bs : List (Option Nat)} {xss : List (List D)} (h : bs.length = xss.length) : (tagL e sz bs xss).length = xss.length := by
  simp [tagL, h]
theorem tagL_get {e sz : Nat} {bs : List (Option Nat)} {xss : List (List D)} {i : Nat} {b : Option Nat} {xs : List D} (hb : bs[i]? = some b) (hx : xss[i]? = some xs) : (tagL e sz bs xss)[i]? = some (tagD e sz b xs) := by
  simp [tagL, List.getElem?_zipWith, hb, hx]
section
variable {cx : Cx} {ops : Array Oper} {s : Slots} {h : Heap} {Q : Exit -> Slots -> Heap -> Prop}
theorem R_tag {a : Act} {w : World} {id e e' sz : Nat} {xss : List (List D)} (hr : R cx (lk s) h a w) (hg : h.get id = some (.rows e e' sz xss none)) (hid : Nat.blt id 10000 = true) (hnw : cx.nw = cx.w0.heap.size) :
    ∃ bs, Tags cx.w0.heap.size bs xss /\ R cx (lk (mapS (SV.lm (gRow id)) s)) ((id, .arr e 1 (tagL e' sz bs xss)) :: keepH (SV.lm (gRow id)) [id] h) a w := by
  obtain ⟨σ, hr⟩ := hr
  have hid1 : id < 10000 := Nat.le_of_ble_eq_true hid
  have hida : isAnc id = false := by
    unfold isAnc
    have : Nat.ble 10000 id = false := by
      cases hb : Nat.ble 10000 id with
      | false => rfl
      | true => have := Nat.le_of_ble_eq_true hb; omega
    rw [this]; rfl
  obtain ⟨p0, hp0, hp1, hp2⟩ := get_mem hg
  have hc := hr.heap.rep p0 hp0
  rw [hp2, hp1] at hc
  obtain ⟨h0, h1, ⟨cl, ho, h3⟩, h4, -⟩ := hc
  have hmine := hr.heap.mine p0 hp0
  have hnd := hr.heap.nd p0 hp0
  rw [hp1, hp2] at hmine hnd
  let bs : List (Option Nat) := (σ id).kids.map fun q => if q.2.2 then none else some q.1
  have hbs : ∀ (i : Nat) q, (σ id).kids[i]? = some q -> bs[i]? = some (if q.2.2 then none else some q.1) := fun i q hq => by simp [bs, hq]
  have hbs' : ∀ (i b : Nat), bs[i]? = some (some b) -> ∃ q, (σ id).kids[i]? = some q /\ q.2.2 = false /\ q.1 = b := fun i b hb => by
    simp only [bs, List.getElem?_map, Option.map_eq_some_iff] at hb
    obtain ⟨q, hq, hqq⟩ := hb
    cases hn : q.2.2 with
    | true => rw [hn] at hqq; simp at hqq
    | false => rw [hn] at hqq; simp at hqq; exact ⟨q, hq, hn, hqq⟩
  have hnilk : (σ id).nil = true -> xss = [] := fun hn => List.eq_nil_of_length_eq_zero (rows_nil ho hn)
  have hin : ∀ (i : Nat) q, (σ id).kids[i]? = some q -> q.2.2 = false -> (σ id).nil = false /\ q.1 ∈ blk (σ id) (.rows e e' sz xss none) := fun i q hq hn => by
    cases hnil : (σ id).nil with
    | true =>
      have := hnilk hnil
      rw [this] at h1
      have : (σ id).kids = [] := List.eq_nil_of_length_eq_zero h1
      rw [this] at hq
      simp at hq
    | false => exact ⟨rfl, kid_blk hnil hq hn (by simp [hat])⟩
  have hlenb : bs.length = xss.length := by simp [bs, h1]
  have hT : Tags cx.w0.heap.size bs xss := by
    refine ⟨hlenb, fun b hb => ?_, fun i j b hi hj => ?_, fun i hi => ?_⟩
    . obtain ⟨i, hi, e1⟩ := List.getElem_of_mem hb
      obtain ⟨q, q1, q2, q3⟩ := hbs' i b (by rw [List.getElem?_eq_getElem hi, e1])
      have := (hmine q.1 (hin i q q1 q2).2).2.1 (by omega)
      omega
    . obtain ⟨q, q1, q2, q3⟩ := hbs' i b hi
      obtain ⟨q', q1', q2', q3'⟩ := hbs' j b hj
      obtain ⟨hnil, -⟩ := hin i q q1 q2
      unfold blk at hnd
      rw [hnil] at hnd
      have hk := (List.nodup_cons.1 hnd).2
      exact kidBlk_nodup.1 hk i j q q' q1 q1' q2 q2' (by simp [hat]) (by simp [hat]) (by omega)
    . simp only [bs, List.getElem?_map, Option.map_eq_some_iff] at hi
      obtain ⟨q, hq, hqq⟩ := hi
      have hil : i < xss.length := by
        rw [<- h1]
        rcases Nat.lt_or_ge i (σ id).kids.length with h | h
        . exact h
        . simp [h] at hq
      have hx : xss[i]? = some xss[i] := List.getElem?_eq_getElem hil
      cases hn : q.2.2 with
      | false => rw [hn] at hqq; simp at hqq
      | true => rw [hx, (h3 i q _ hq hx).2 hn]
  refine ⟨bs, hT, σ, ?_⟩
  have hlen : (tagL e' sz bs xss).length = xss.length := tagL_length hlenb
  rw [lk_lm rfl]
  have hsub : ∀ b, b ∈ blk (σ id) (.arr e 1 (tagL e' sz bs xss)) -> b ∈ blk (σ id) (.rows e e' sz xss none) := fun b hb => by
    unfold blk at hb ⊢
    cases hn : (σ id).nil with
    | true => rw [hn] at hb; cases hb
    | false => rw [hn] at hb; simp at hb; subst hb; exact List.mem_cons_self ..
  refine hr.upd (σ' := σ) (w' := w) [id] [(id, .arr e 1 (tagL e' sz bs xss))] (SV.lm (gRow id)) (by simp [memB]) (by simp) (fun j hj => rfl) rfl rfl rfl (Nat.le_refl _) (fun _ _ _ => rfl)
    (fun p hp => ?_) (fun p hp q hq _ _ _ => by simp at hp hq; subst hp hq; rfl) (fun p hp b hb => ?_) (fun p hp ha => by simp at hp; subst hp; rw [hida] at ha; cases ha) (fun hok v sv hv => RepSV.lm (fun x v hl hv => ?_) hv) (fun hok p hp => ?_)
  . simp at hp; subst hp
    cases hn : (σ id).nil <;> simp [blk, hn]
  . simp at hp; subst hp
    have hb' := hsub b hb
    exact ⟨(hmine b hb').2.2, .inr ⟨p0, hp0, memB_one.2 hp1, by rw [hp1, hp2]; exact hb', .inr (.inl hp1)⟩⟩
  . have hsk := simO_keep (f := SV.lm (gRow id)) (K := [id]) (N := [(id, .arr e 1 (tagL e' sz bs xss))]) (h := h) (by simp [memB])
    have other : ∀ x : SV, (∀ y, x.kill [id] = y -> y = x) -> RepSV σ h (okf cx σ h) w v x -> RepSV σ ([(id, .arr e 1 (tagL e' sz bs xss))] ++ keepH (SV.lm (gRow id)) [id] h) (okf cx σ ([(id, .arr e 1 (tagL e' sz bs xss))] ++ keepH (SV.lm (gRow id)) [id] h)) w v x := fun x hx hv =>
      leaf_other hok (fun j hj => rfl) hsk hv hx
    cases x with
    | junk => unfold gRow RepSV; trivial
    | und => exact hv
    | d x => exact RepD.mono hv hok
    | ref i n =>
      simp only [gRow, RepSV] at hv ⊢
      exact hv
    | own i =>
      by_cases e1 : i = id
      . subst e1
        simp only [gRow, RepSV, hg, List.cons_append, List.nil_append, Heap.get, if_true, hlen] at hv ⊢
        exact hv
      . exact other (.own i) (by rintro y rfl; simp [SV.kill, memB_oneF.2 e1]) hv
    | elt i n =>
      by_cases e1 : i = id
      . subst e1
        simp only [gRow, RepSV, hg, List.cons_append, List.nil_append, Heap.get, if_true, Nat.mul_one] at hv ⊢
        exact hv
      . exact other (.elt i n) (by rintro y rfl; simp [SV.kill, memB_oneF.2 e1]) hv
    | sub i n =>
      by_cases e1 : i = id
      . subst e1
        simp [gRow, RepSV]
      . have : gRow id (.sub i n) = .sub i n := by simp only [gRow, beqF e1]
        rw [this]
        exact other (.sub i n) (by rintro y rfl; simp [SV.kill, memB_oneF.2 e1]) hv
    | agg => cases hl
    | tup => cases hl
    | fn => cases hl
    | cel => cases hl
  . simp at hp; subst hp
    have hcl : cl.length = xss.length := by simpa using ho.1
    have hel : ∀ i, i < xss.length -> ∃ q xs, (σ id).kids[i]? = some q /\ xss[i]? = some xs /\ cl[i]? = some (sliceAt (kidLoc q) xs.length) /\ RepArr (okf cx σ h) w (kidLoc q) e' sz xs /\ (q.2.2 = true -> xs = []) := fun i hi => by
      have e1 : (σ id).kids[i]? = some (σ id).kids[i] := List.getElem?_eq_getElem (by omega)
      have e2 : xss[i]? = some xss[i] := List.getElem?_eq_getElem hi
      exact ⟨_, _, e1, e2, (h3 i _ _ e1 e2).1, h4 i _ _ e1 e2 (by simp [hat]), (h3 i _ _ e1 e2).2⟩
    refine ⟨Nat.one_pos, cl, by rw [hlen]; exact ho, by rw [hlen]; simpa using hcl, cl, by rw [hlen]; exact hcl, fun i v x hv hx => ?_, fun i v hv => ?_⟩
    . have hi : i < xss.length := by
        rw [<- hcl]
        rcases Nat.lt_or_ge i cl.length with h | h
        . exact h
        . simp [h] at hv
      obtain ⟨q, xs, q1, q2, q3, q4, q5⟩ := hel i hi
      rw [hv] at q3
      cases q3
      cases hn : q.2.2 with
      | true =>
        have hb := hbs i q q1
        rw [hn] at hb
        rw [tagL_get hb q2] at hx
        cases hx
        have : sliceAt (kidLoc q) xs.length = .slice none 0 0 := by simp [sliceAt, kidLoc, hn]
        rw [this]
        exact .nils
      | false =>
        have hb := hbs i q q1
        rw [hn] at hb
        rw [tagL_get hb q2] at hx
        cases hx
        obtain ⟨r0, cl2, r1, r2⟩ := q4
        obtain ⟨r3, vs, r4, r5, r6⟩ := r2
        obtain ⟨hnil, hbl⟩ := hin i q q1 hn
        have e0 : sliceAt (kidLoc q) xs.length = .slice (some ⟨q.1, 0, none⟩) xs.length q.2.1 := by simp [sliceAt, kidLoc, hn]
        rw [e0] at r1 ⊢
        obtain ⟨o1, o2⟩ := r1
        rcases o2 with ⟨z1, _⟩ | ⟨g, cap, cur, z1, z2, z3, z4, z5, z6, z7⟩
        . cases z1
        obtain ⟨za, -, zc⟩ := Value.slice.inj z1
        cases za
        rw [zc]
        refine .rowb q.1 cap xs.length cur e' xs vs sz ⟨.inr (by rw [hnw]; exact (hmine q.1 hbl).2.1 (by omega)), fun p hp hpb => ?_⟩ z3 r4 rfl z4 z5 z6 r0 (fun j v x hv hx => (r5 j v x hv hx).mono hok) fun j v hv => ?_
        . simp only [List.cons_append, List.nil_append, List.mem_cons] at hp
          rcases hp with rfl | hp
          . unfold blk at hpb hnd
            rw [hnil] at hpb hnd
            simp only [List.mem_singleton] at hpb
            exact (List.nodup_cons.1 hnd).1 (hpb ▸ mem_kidBlk.2 ⟨i, q, q1, hn, by simp [hat], rfl⟩)
          . obtain ⟨k1, c, k2, k3⟩ := mem_keepH hp
            rw [k3, blk_mapc] at hpb
            have := hr.heap.inj p0 hp0 _ k2 q.1 (by rw [hp1, hp2]; exact hbl) hpb
            rw [<- this, hp1] at k1
            simp [memB] at k1
        . refine ⟨(r6 j v hv).1, fun m hm => ?_⟩
          have hj : j < xs.length := by
            rw [<- r4]
            rcases Nat.lt_or_ge j vs.length with h | h
            . exact h
            . simp [h] at hv
          have hjm : (j + 1) * sz <= xs.length * sz := Nat.mul_le_mul_right _ hj
          rw [Nat.add_mul] at hjm
          have := (r6 j v hv).2 m hm
          rw [<- z7, List.getElem?_take, if_pos (by omega)] at this
          simpa using this
    . have hi : i < xss.length := by
        rw [<- hcl]
        rcases Nat.lt_or_ge i cl.length with h | h
        . exact h
        . simp [h] at hv
      obtain ⟨q, xs, q1, q2, q3, q4, q5⟩ := hel i hi
      rw [hv] at q3
      cases q3
      rw [(slice_one _ _).2]
      exact ⟨rfl, fun j hj => by
        have : j = 0 := by omega
        subst this
        simpa using hv⟩
theorem awp_tag {c : Code} (id : Nat) {e e' sz : Nat} {xss : List (List D)} (hg : h.get id = some (.rows e e' sz xss none)) (hid : Nat.blt id 10000 = true) (hn : ∀ bs, Tags cx.w0.heap.size bs xss -> awp cx c (mapS (SV.lm (gRow id)) s) ((id, .arr e 1 (tagL e' sz bs xss)) :: keepH (SV.lm (gRow id)) [id] h) Q) (hnw : cx.nw = cx.w0.heap.size := by exact rfl) : awp cx c s h Q := fun a w hr => by
  obtain ⟨bs, h1, h2⟩ := R_tag hr hg hid hnw
  exact hn bs h1 a w h2
def gFrz (id : Nat) (x : D) : SV -> SV
  | .own i => match Nat.beq i id with
    | true => .d x
    | false => .own i
  | .elt i n => match Nat.beq i id with
    | true => .junk
    | false => .elt i n
  | .sub i n => match Nat.beq i id with
    | true => .junk
    | false => .sub i n
  | .ref i n => match Nat.beq i id with
    | true => .junk
    | false => .ref i n
  | y => y
theorem R_tag1 {a : Act} {w : World} {id e sz : Nat} {xs : List D} (hr : R cx (lk s) h a w) (hg : h.get id = some (.arr e sz xs)) (hid : Nat.blt id 10000 = true) (hnw : cx.nw = cx.w0.heap.size) :
    ∃ ob, (∀ b, ob = some b -> cx.w0.heap.size <= b) /\ (ob = none -> xs = []) /\ (∀ id2 e2 sz2 ys b, ob = some b -> h.get id2 = some (.arr e2 sz2 ys) -> ∀ y ∈ ys, ∀ e' sz' zs, y ≠ .rowb b e' sz' zs) /\ (∀ id2 kvs b, ob = some b -> h.get id2 = some (.map kvs) -> ∀ kv ∈ kvs, ∀ e' sz' zs, kv.2 ≠ .rowb b e' sz' zs) /\
      R cx (lk (mapS (SV.lm (gFrz id (tagD e sz ob xs))) s)) (keepH (SV.lm (gFrz id (tagD e sz ob xs))) [id] h) a w := by
  obtain ⟨σ, hr⟩ := hr
  have hid1 : id < 10000 := Nat.le_of_ble_eq_true hid
  obtain ⟨hex, h0, hlt, cl, ho, hc⟩ := chunk_own hr hg
  obtain ⟨p0, hp0, hp1, hp2⟩ := hex
  have hmine := hr.heap.mine p0 hp0
  rw [hp1, hp2] at hmine
  let ob : Option Nat := if (σ id).nil then none else some (σ id).b
  have hob : ∀ b, ob = some b -> (σ id).nil = false /\ (σ id).b = b /\ b ∈ blk (σ id) (.arr e sz xs) := fun b hb => by
    cases hn : (σ id).nil with
    | true => simp [ob, hn] at hb
    | false => simp [ob, hn] at hb; exact ⟨rfl, hb, by simp [blk, hn, hb]⟩
  refine ⟨ob, fun b hb => (hmine b (hob b hb).2.2).2.1 hid1, fun hb => ?_, fun id2 e2 sz2 ys b hb hg2 y hy e' sz' zs hyy => ?_, fun id2 kvs b hb hg2 kv hkv e' sz' zs hyy => ?_, σ, ?_⟩
  . cases hn : (σ id).nil with
    | false => simp [ob, hn] at hb
    | true =>
      rcases ho.2 with ⟨_, q⟩ | ⟨_, _, _, q, _⟩
      . exact List.eq_nil_of_length_eq_zero q
      . simp [sliceAt, hn] at q
  . subst hyy
    obtain ⟨-, -, -, cl2, -, -, vs, v1, v2, -⟩ := chunk_own hr hg2
    obtain ⟨i, hi, e1⟩ := List.getElem_of_mem hy
    have hv : vs[i]? = some (vs[i]'(by omega)) := List.getElem?_eq_getElem (by omega)
    have := v2 i _ _ hv (by rw [List.getElem?_eq_getElem hi, e1])
    generalize vs[i]'(by omega) = v at this
    cases this with
    | rowb _ cap n cells e xs' vs' sz k1 k2 k3 k4 k5 k5b k5c k5d k6 k7 =>
      exact k1.2 p0 hp0 (by rw [hp1, hp2]; exact (hob b hb).2.2)
  . obtain ⟨p2, hp2', hp21, hp22⟩ := get_mem hg2
    have hc2 := hr.heap.rep p2 hp2'
    rw [hp22] at hc2
    obtain ⟨es, clock, m1, m2, m3⟩ := hc2
    obtain ⟨i, hi, e1⟩ := List.getElem_of_mem hkv
    have he : es[i]? = some (es[i]'(by omega)) := Array.getElem?_eq_getElem (by omega)
    have := (m3 i _ _ he (by rw [List.getElem?_eq_getElem hi, e1])).2
    rw [hyy] at this
    generalize (es[i]'(by omega)).val = v at this
    cases this with
    | rowb _ cap n cells e xs' vs' sz k1 k2 k3 k4 k5 k5b k5c k5d k6 k7 =>
      exact k1.2 p0 hp0 (by rw [hp1, hp2]; exact (hob b hb).2.2)
  . rw [lk_lm rfl]
    refine hr.upd (σ' := σ) (w' := w) [id] [] (SV.lm (gFrz id (tagD e sz ob xs))) (by simp) (by simp) (fun _ _ => rfl) rfl rfl rfl (Nat.le_refl _) (fun _ _ _ => rfl) (by simp) (by simp) (by simp) (by simp) (fun hok v sv hv => RepSV.lm (fun x v hl hv => ?_) hv) (by simp)
    have hsk := simO_keep (f := SV.lm (gFrz id (tagD e sz ob xs))) (K := [id]) (N := []) (h := h) (by simp)
    have other : ∀ x : SV, (∀ y, x.kill [id] = y -> y = x) -> RepSV σ h (okf cx σ h) w v x -> RepSV σ ([] ++ keepH (SV.lm (gFrz id (tagD e sz ob xs))) [id] h) (okf cx σ ([] ++ keepH (SV.lm (gFrz id (tagD e sz ob xs))) [id] h)) w v x := fun x hx hv =>
      leaf_other hok (fun j hj => rfl) hsk hv hx
    cases x with
    | junk => unfold gFrz RepSV; trivial
    | und => exact hv
    | d x => exact RepD.mono hv hok
    | ref i n =>
      by_cases e1 : i = id
      . subst e1; simp [gFrz, RepSV]
      . have : gFrz id (tagD e sz ob xs) (.ref i n) = .ref i n := by simp only [gFrz, beqF e1]
        rw [this]
        exact hv
    | own i =>
      by_cases e1 : i = id
      . subst e1
        have : gFrz i (tagD e sz ob xs) (.own i) = .d (tagD e sz ob xs) := by simp [gFrz]
        rw [this]
        simp only [RepSV, hg] at hv
        show RepD _ _ _ _
        subst hv
        cases hn : (σ i).nil with
        | true =>
          have e2 : ob = none := by simp [ob, hn]
          rw [e2]
          have : sliceAt (σ i) xs.length = .slice none 0 0 := by simp [sliceAt, hn]
          rw [this]
          exact .nils
        | false =>
          have e2 : ob = some (σ i).b := by simp [ob, hn]
          rw [e2]
          have hbm : (σ i).b ∈ blk (σ i) (.arr e sz xs) := by simp [blk, hn]
          have e0 : sliceAt (σ i) xs.length = .slice (some ⟨(σ i).b, 0, none⟩) xs.length (σ i).cap := by simp [sliceAt, hn]
          rw [e0] at ho ⊢
          obtain ⟨r3, vs, r4, r5, r6⟩ := hc
          obtain ⟨o1, o2⟩ := ho
          rcases o2 with ⟨z1, _⟩ | ⟨g, cap, cur, z1, z2, z3, z4, z5, z6, z7⟩
          . cases z1
          obtain ⟨za, -, zc⟩ := Value.slice.inj z1
          cases za
          rw [zc]
          refine .rowb _ cap xs.length cur e xs vs sz ⟨.inr (by rw [hnw]; exact (hmine _ hbm).2.1 hid1), fun p hp hpb => ?_⟩ z3 r4 rfl z4 z5 z6 h0 (fun j v x hv hx => (r5 j v x hv hx).mono fun b h1 h2 => by have := hok b h1 h2; rw [e2] at this; exact this) fun j v hv => ?_
          . obtain ⟨k1, c, k2, k3⟩ := mem_keepH hp
            rw [k3, blk_mapc] at hpb
            have := hr.heap.inj p0 hp0 _ k2 _ (by rw [hp1, hp2]; exact hbm) hpb
            rw [<- this, hp1] at k1
            simp [memB] at k1
          . refine ⟨(r6 j v hv).1, fun m hm => ?_⟩
            have hj : j < xs.length := by
              rw [<- r4]
              rcases Nat.lt_or_ge j vs.length with h | h
              . exact h
              . simp [h] at hv
            have hjm : (j + 1) * sz <= xs.length * sz := Nat.mul_le_mul_right _ hj
            rw [Nat.add_mul] at hjm
            have := (r6 j v hv).2 m hm
            rw [<- z7, List.getElem?_take, if_pos (by omega)] at this
            simpa using this
      . have : gFrz id (tagD e sz ob xs) (.own i) = .own i := by simp only [gFrz, beqF e1]
        rw [this]
        exact other (.own i) (by rintro y rfl; simp [SV.kill, memB_oneF.2 e1]) hv
    | elt i n =>
      by_cases e1 : i = id
      . subst e1; simp [gFrz, RepSV]
      . have : gFrz id (tagD e sz ob xs) (.elt i n) = .elt i n := by simp only [gFrz, beqF e1]
        rw [this]
        exact other (.elt i n) (by rintro y rfl; simp [SV.kill, memB_oneF.2 e1]) hv
    | sub i n =>
      by_cases e1 : i = id
      . subst e1; simp [gFrz, RepSV]
      . have : gFrz id (tagD e sz ob xs) (.sub i n) = .sub i n := by simp only [gFrz, beqF e1]
        rw [this]
        exact other (.sub i n) (by rintro y rfl; simp [SV.kill, memB_oneF.2 e1]) hv
    | agg => cases hl
    | tup => cases hl
    | fn => cases hl
    | cel => cases hl
theorem tags_snoc {n : Nat} {bs : List (Option Nat)} {xss : List (List D)} {ob : Option Nat} {xs : List D} (T : Tags n bs xss) (h1 : ∀ b, ob = some b -> n <= b) (h2 : ob = none -> xs = []) (h3 : ∀ b, ob = some b -> some b ∉ bs) : Tags n (bs ++ [ob]) (xss ++ [xs]) := by
  refine ⟨by simp [T.len], fun b hb => ?_, fun i j b hi hj => ?_, fun i hi => ?_⟩
  . rcases List.mem_append.1 hb with hb | hb
    . exact T.new b hb
    . simp only [List.mem_singleton] at hb; exact h1 b hb.symm
  . have key : ∀ k : Nat, (bs ++ [ob])[k]? = some (some b) -> (k < bs.length /\ bs[k]? = some (some b)) \/ (k = bs.length /\ ob = some b) := fun k hk => by
      rcases Nat.lt_trichotomy k bs.length with h | h | h
      . rw [List.getElem?_append_left h] at hk; exact .inl ⟨h, hk⟩
      . rw [List.getElem?_append_right (by omega), h, Nat.sub_self] at hk; simp at hk; exact .inr ⟨h, hk⟩
      . rw [List.getElem?_eq_none (by simp; omega)] at hk; cases hk
    rcases key i hi with ⟨a1, a2⟩ | ⟨a1, a2⟩ <;> rcases key j hj with ⟨b1, b2⟩ | ⟨b1, b2⟩
    . exact T.nd i j b a2 b2
    . exact absurd (List.mem_of_getElem? a2) (h3 b b2)
    . exact absurd (List.mem_of_getElem? b2) (h3 b a2)
    . omega
  . rcases Nat.lt_trichotomy i bs.length with h | h | h
    . rw [List.getElem?_append_left h] at hi
      have := T.emp i hi
      rw [List.getElem?_append_left (by have := T.len; omega)]
      exact this
    . have hl := T.len
      rw [List.getElem?_append_right (by omega), h, Nat.sub_self] at hi
      simp at hi
      rw [List.getElem?_append_right (by omega), h, hl, Nat.sub_self, h2 hi]
      rfl
    . rw [List.getElem?_eq_none (by simp; omega)] at hi; cases hi
theorem awpL_tagMap {l : List Oper} (id id2 : Nat) {e sz : Nat} {xs : List D} {bs : List (Option Nat)} {xss : List (List D)} {kvs : List (D × D)} (T : Tags cx.w0.heap.size bs xss) (hg : h.get id = some (.arr e sz xs)) (hg2 : h.get id2 = some (.map kvs)) (hm : ∀ b, some b ∈ bs -> ∃ kv ∈ kvs, ∃ e' sz' zs, kv.2 = .rowb b e' sz' zs) (hid : Nat.blt id 10000 = true)
    (hn : ∀ ob, Tags cx.w0.heap.size (bs ++ [ob]) (xss ++ [xs]) -> awpL cx ops l (mapS (SV.lm (gFrz id (tagD e sz ob xs))) s) (keepH (SV.lm (gFrz id (tagD e sz ob xs))) [id] h) Q) (hnw : cx.nw = cx.w0.heap.size := by exact rfl) : awpL cx ops l s h Q := fun a w hr => by
  obtain ⟨ob, h1, h2, -, h3, h4⟩ := R_tag1 hr hg hid hnw
  refine hn ob (tags_snoc T h1 h2 fun b hb hmem => ?_) a w h4
  obtain ⟨kv, k1, e', sz', zs, k2⟩ := hm b hmem
  exact h3 id2 kvs b hb hg2 kv k1 e' sz' zs k2
theorem tagD_le {e sz : Nat} {b : Option Nat} {xs : List D} (h : b = none -> xs = []) : D.Le (tagD e sz b xs) (.lst xs) := by
  cases b with
  | none => rw [h rfl]; exact .nil
  | some b => exact .tag _ _ _ _
theorem tags_first {n : Nat} {ob : Option Nat} {xs : List D} (h1 : ∀ b, ob = some b -> n <= b) (h2 : ob = none -> xs = []) : Tags n [ob] [xs] := tags_snoc (bs := []) (xss := []) ⟨rfl, by simp, by simp, by simp⟩ h1 h2 (by simp)
theorem awpL_tagFirst {l : List Oper} (id : Nat) {e sz : Nat} {xs : List D} (hg : h.get id = some (.arr e sz xs)) (hid : Nat.blt id 10000 = true)
    (hn : ∀ ob, Tags cx.w0.heap.size [ob] [xs] -> awpL cx ops l (mapS (SV.lm (gFrz id (tagD e sz ob xs))) s) (keepH (SV.lm (gFrz id (tagD e sz ob xs))) [id] h) Q) (hnw : cx.nw = cx.w0.heap.size := by exact rfl) : awpL cx ops l s h Q := fun a w hr => by
  obtain ⟨ob, h1, h2, -, -, h4⟩ := R_tag1 hr hg hid hnw
  exact hn ob (tags_first h1 h2) a w h4
end
end Go.Proofs.YtckpadnjldebaaaGreat
namespace Go.Proofs.YtckpadnjldebaaaGreat
open Go
open Go.RowKit (Below)
set_option linter.unusedVariables false
set_option linter.unusedSimpArgs false
section
variable {cx : Cx} {h : Heap} {s : Nat -> SV} {dst : Option Nat} {ty : Nat} {pos : String} {af : Array Edge} {gd : Option (Nat × Bool)}
end
end Go.Proofs.YtckpadnjldebaaaGreat
namespace Go.Proofs.YtckpadnjldebaaaGreat
open Go
open Go.RowKit (Below)
set_option linter.unusedVariables false
set_option linter.unusedSimpArgs false
section
variable {cx : Cx} {h : Heap} {dst : Option Nat} {t ty : Nat} {pos : String} {af : Array Edge} {gd : Option (Nat × Bool)}
end
theorem awpL_toG {cx : Cx} {ops : Array Oper} {rest : List Oper} {s s' : Slots} {h h' : Heap} {Q : Exit -> Slots -> Heap -> Prop} {dst : Option Nat} {op : Op} {ty : Nat} {pos : String} {af : Array Edge} {gd : Nat × Bool} (hw : wantedA ops ⟨dst, op, ty, pos, af, some gd⟩ (lk s) = some true) (ho : OpTo cx ⟨dst, op, ty, pos, af, none⟩ s h s' h') (hn : awpL cx ops rest s' h' Q) :
    awpL cx ops (⟨dst, op, ty, pos, af, some gd⟩ :: rest) s h Q := fun a w hr => by
  unfold wpList
  rw [if_pos (by obtain ⟨σ, hr⟩ := hr; exact wanted_of hr hw)]
  exact .inl (ho a w hr _ _ fun a' w' hr' => hn a' w' hr')
theorem hclG {cx : Cx} {ops : Array Oper} {rest : List Oper} {s : Slots} {h : Heap} {Q : Exit -> Slots -> Heap -> Prop} {t ty : Nat} {pos : String} {af : Array Edge} {gd : Nat × Bool} {f : Operand} {args : Array Operand} {tys : Array TypeId} {g : Nat} {cap ss : List SV} {hh : Heap} {r : SV} {hh' : Heap} (R1 R2 : List (Nat × Nat)) (hc : HC cx.P g ss hh r hh') (hn : awpL cx ops rest ((t, r.ren R2) :: mapS (SV.kill (movedIds R1 R2)) s) (renH R2 hh' ++ keepH (SV.kill (movedIds R1 R2)) (allIds R1 R2) h) Q)
    (hw : wantedA ops ⟨some t, .call { callee := .value f, args := args, argTypes := tys }, ty, pos, af, some gd⟩ (lk s) = some true := by exact rfl) (hf : fnv (opv (lk s) f) = some (g, cap) := by exact rfl) (ha : SV.rens R1 (args.toList.map (opv (lk s)) ++ cap) = ss := by exact rfl) (hp : pickH R1 h = some hh := by exact rfl) (hcall : callOk R1 R2 hh' = true := by exact rfl) (hd : Nat.blt t cx.nt = true := by exact rfl) :
    awpL cx ops (⟨some t, .call { callee := .value f, args := args, argTypes := tys }, ty, pos, af, some gd⟩ :: rest) s h Q := awpL_toG hw (op_hcall R1 R2 hf ha hp hc hcall hd) hn
end Go.Proofs.YtckpadnjldebaaaGreat
