/- Contracts whose answer hangs on something that only the call decides. Printed by genfwz.py. No condition. -/
import Derived.Test.YtckpadnjldebaaaGreatFwX
namespace Go.Proofs.YtckpadnjldebaaaGreat
open Go
open Go.RowKit (Below)
set_option linter.unusedVariables false
set_option linter.unusedSimpArgs false
def HX (P : Program) (f : Nat) (ss : List SV) (h : Heap) {ι : Type} (G : Nat -> ι -> Prop) (r : ι -> SV) (h' : ι -> Heap) : Prop :=
  Callable P f /\ (∀ i, likeIn h (h' i)) /\ ∀ (w : World) (ok : Nat -> Prop) (σ : Nat -> Loc) (vs : Array Value), EnvH P σ h w -> (∀ b, ok b -> b < w.heap.size) -> Own σ h ok w -> RepSVs σ h ok w false vs.toList ss ->
    Calls P f vs w fun e w' => ∃ i, G w.heap.size i /\ ∃ v σ', e = .returned v /\ HEnd σ h ok w σ' (h' i) w' /\ RepSV σ' (h' i) (okn ok w σ' (h' i)) w' v (r i)
theorem op_hxcall {cx : Cx} {s : Slots} {H : Heap} {t ty : Nat} {pos : String} {af : Array Edge} {f : Operand} {args : Array Operand} {tys : Array TypeId} {g : Nat} {cap : List SV} {ss : List SV} {h : Heap} {ι : Type} {G : Nat -> ι -> Prop} {r : ι -> SV} {h' : ι -> Heap} (R1 R2 : List (Nat × Nat)) (i0 : ι)
    (hf : fnv (opv (lk s) f) = some (g, cap)) (ha : SV.rens R1 (args.toList.map (opv (lk s)) ++ cap) = ss) (hp : pickH R1 H = some h) (hc : HX cx.P g ss h G r h') (hcall : ∀ i, callOk R1 R2 (h' i) = true) (hd : Nat.blt t cx.nt = true) :
    ∀ a w, R cx (lk s) H a w -> ∀ (K : Act -> World -> Prop) (Q : Exit -> Act -> World -> Prop), (∀ i, G w.heap.size i -> ∀ a' w', R cx (lk ((t, (r i).ren R2) :: mapS (SV.kill (movedIds R1 R2)) s)) (renH R2 (h' i) ++ keepH (SV.kill (movedIds R1 R2)) (allIds R1 R2) H) a' w' -> K a' w') ->
      Oper.wp cx.P ⟨some t, .call { callee := .value f, args := args, argTypes := tys }, ty, pos, af, none⟩ a w K Q := by
  rintro a w ⟨σ, hr⟩ K Q hK
  obtain ⟨hcl, hlike, hspec⟩ := hc
  have hcall0 := hcall i0
  simp only [callOk, Bool.and_eq_true] at hcall0
  obtain ⟨⟨⟨⟨⟨⟨⟨n1, n2⟩, n3⟩, n4⟩, n5⟩, n6⟩, n7⟩, n8⟩ := hcall0
  replace n1 := nodupB_iff n1
  replace n2 := nodupB_iff n2
  replace n3 := nodupB_iff n3
  replace n4 := nodupB_iff n4
  obtain ⟨cs, hu, hcap⟩ := fnv_rep (rep_eval hr f) hf
  have hargs : RepSVs σ H (okf cx σ H) w false (args.map a.eval ++ cs).toList (args.toList.map (opv (lk s)) ++ cap) := by
    rw [Array.toList_append, map_toList_arr]
    refine RepSVs.append (RepSVs.mk (by simp) fun i v x hv hx => ⟨?_, by simp⟩) hcap
    rw [List.getElem?_map, Option.map_eq_some_iff] at hv hx
    obtain ⟨y, hy, rfl⟩ := hv
    obtain ⟨y', hy', rfl⟩ := hx
    have : y = y' := Option.some.inj (hy.symm.trans hy')
    subst this
    exact rep_eval hr y
  obtain ⟨p1, p2, p3⟩ := pickG_spec hp
  let σc : Nat -> Loc := fun j => match look (swap R1) j with
    | some i => σ i
    | none => ⟨0, 0, true, []⟩
  have hswap : ∀ p ∈ R1, look (swap R1) p.2 = some p.1 := fun p hp1 => look_of_mem (R := swap R1) (by rw [swap_fst]; exact n2) (p := (p.2, p.1)) (List.mem_map.2 ⟨p, hp1, rfl⟩)
  have hσc : ∀ p ∈ R1, σc p.2 = σ p.1 := fun p hp1 => by simp only [σc, hswap p hp1]
  have hnd : (h.map (·.1)).Nodup := by rw [p1]; exact n2
  let ok : Nat -> Prop := fun b => okf cx σ H b /\ b < w.heap.size
  have hR1 : ∀ i j, look R1 i = some j -> σc j = σ i /\ ∃ c c', H.get i = some c /\ h.get j = some c' /\ c.sim c' := fun i j hl => by
    have hm := look_mem hl
    obtain ⟨c, h1, h2⟩ := p2 _ hm
    exact ⟨hσc _ hm, c, _, h1, get_of_mem hnd h2, sim_mapc c⟩
  have toH : ∀ q ∈ h, ∃ p ∈ R1, ∃ c, p.2 = q.1 /\ H.get p.1 = some c /\ (p.1, c) ∈ H /\ q.2 = c.mapc (SV.ren R1) /\ blk (σc q.1) q.2 = blk (σ p.1) c := fun q hq => by
    obtain ⟨p, h1, c, h2, h3, h4⟩ := p3 q hq
    obtain ⟨p', m1, m2, m3⟩ := get_mem h3
    refine ⟨p, h1, c, h2, h3, ?_, h4, ?_⟩
    . have : p' = (p.1, c) := by rw [<- m2, <- m3]
      rw [<- this]; exact m1
    . rw [h4, blk_mapc, <- h2, hσc p h1]
  have henv : EnvH cx.P σc h w := ⟨hr.evo.env, fun q hq b hb => by
    obtain ⟨p, h1, c, h2, h3, h3', h4, h5⟩ := toH q hq
    rw [h5] at hb
    exact hr.heap.env _ h3' b hb⟩
  have hown : Own σc h ok w := by
    refine ⟨hnd, fun q hq => ?_, fun q hq q' hq' b hb hb' => ?_, fun q hq b hb => ?_, fun q hq => ?_⟩
    . obtain ⟨p, h1, c, h2, h3, h3', h4, h5⟩ := toH q hq
      rw [h5]; exact hr.heap.nd _ h3'
    . obtain ⟨p, h1, c, h2, h3, h3', h4, h5⟩ := toH q hq
      obtain ⟨p', h1', c', h2', h3'', h3''', h4', h5'⟩ := toH q' hq'
      rw [h5] at hb
      rw [h5'] at hb'
      have e := hr.heap.inj _ h3' _ h3''' b hb hb'
      simp only at e
      have e1 := look_of_mem n1 h1
      have e2 := look_of_mem n1 h1'
      rw [e, e2] at e1
      rw [<- h2, <- h2']
      exact (Option.some.inj e1).symm
    . obtain ⟨p, h1, c, h2, h3, h3', h4, h5⟩ := toH q hq
      rw [h5] at hb
      exact ⟨(hr.heap.mine _ h3' b hb).2.2, fun hok => hok.1.2 _ h3' hb⟩
    . obtain ⟨p, h1, c, h2, h3, h3', h4, h5⟩ := toH q hq
      rw [h4, <- h2, hσc p h1]
      exact RepChunk.mapc (hr.heap.rep _ h3') (fun b h1 h2 => ⟨⟨h1, h2⟩, rfl⟩) (fun v sv hv => RepSV.ren (fun b h1 h2 => ⟨h1, h2⟩) hR1 hv) fun _ _ => rfl
  have hargs' : RepSVs σc h ok w false (args.map a.eval ++ cs).toList ss := by
    rw [<- ha]
    exact RepSVs.ren (fun b h1 h2 => ⟨h1, h2⟩) hR1 hargs
  unfold Oper.wp
  rw [exec_call rfl hu hcl]
  rw [Oper.upon_enter]
  refine (hspec w ok σc _ henv (fun b hb => hb.2) hown (by simpa using hargs')).mono ?_
  rintro e w' ⟨i, hG, v, σ', rfl, hE, hv⟩
  have hcall := hcall i
  have hlike := hlike i
  clear n1 n2 n3 n4 n5 n6 n7 n8
  simp only [callOk, Bool.and_eq_true] at hcall
  obtain ⟨⟨⟨⟨⟨⟨⟨n1, n2⟩, n3⟩, n4⟩, n5⟩, n6⟩, n7⟩, n8⟩ := hcall
  replace n1 := nodupB_iff n1
  replace n2 := nodupB_iff n2
  replace n3 := nodupB_iff n3
  replace n4 := nodupB_iff n4
  have hK : ∀ i, G w.heap.size i -> _ := hK
  replace hK := hK i
  generalize h' i = hz at *
  generalize r i = rz at *
  have hswap2 : ∀ p ∈ R2, look (swap R2) p.2 = some p.1 := fun p hp2 => look_of_mem (R := swap R2) (by rw [swap_fst]; exact n4) (p := (p.2, p.1)) (List.mem_map.2 ⟨p, hp2, rfl⟩)
  let σ2 : Nat -> Loc := fun j => match look (swap R2) j with
    | some c => σ' c
    | none => σ j
  have hσ2 : ∀ i k, look R2 i = some k -> σ2 k = σ' i := fun i k hl => by simp only [σ2, hswap2 _ (look_mem hl)]
  have hinj2 : ∀ i j k, look R2 i = some k -> look R2 j = some k -> i = j := fun i j k h1 h2 => by
    have e1 := hswap2 _ (look_mem h1)
    have e2 := hswap2 _ (look_mem h2)
    simp only at e1 e2
    rw [e1] at e2
    exact Option.some.inj e2
  have hkind : ∀ i k, look R2 i = some k -> (i < 30000 /\ look R1 k = some i) \/ (30000 <= i /\ k < 10000) := fun i k hl => by
    have := List.all_eq_true.1 n6 _ (look_mem hl)
    simp only [Bool.or_eq_true, Bool.and_eq_true] at this
    rcases this with ⟨h1, h2⟩ | ⟨h1, h2⟩
    . left
      refine ⟨Nat.le_of_ble_eq_true h1, ?_⟩
      split at h2
      . rename_i c hcc; rw [hcc, Nat.eq_of_beq_eq_true h2]
      . cases h2
    . exact .inr ⟨Nat.le_of_ble_eq_true h1, Nat.le_of_ble_eq_true h2⟩
  have fromN : ∀ q ∈ renH R2 hz, ∃ p ∈ hz, look R2 p.1 = some q.1 /\ q.2 = p.2.mapc (SV.ren R2) /\ blk (σ2 q.1) q.2 = blk (σ' p.1) p.2 := fun q hq => by
    obtain ⟨p, h1, h2, h3⟩ := mem_renH hq
    exact ⟨p, h1, h2, h3, by rw [h3, blk_mapc, hσ2 _ _ h2]⟩
  have memN : ∀ p ∈ hz, ∀ k, look R2 p.1 = some k -> (k, p.2.mapc (SV.ren R2)) ∈ renH R2 hz := by
    have key : ∀ (l : Heap), ∀ p ∈ l, ∀ k, look R2 p.1 = some k -> (k, p.2.mapc (SV.ren R2)) ∈ renH R2 l := by
      intro l
      induction l with
      | nil => intro p hp; cases hp
      | cons q l ih =>
        intro p hp k hk
        simp only [renH]
        rcases List.mem_cons.1 hp with rfl | hp
        . rw [hk]; exact List.mem_cons_self ..
        . split
          . exact List.mem_cons_of_mem _ (ih p hp k hk)
          . exact ih p hp k hk
    exact key hz
  have hallK : ∀ i k, look R2 i = some k -> memB k (allIds R1 R2) = true := fun i k hl => memB_iff.2 (List.mem_append_right _ (List.mem_map.2 ⟨_, look_mem hl, rfl⟩))
  have hNn : ((renH R2 hz).map (·.1)).Nodup := renH_nodup hinj2 hE.nodup
  have getN : ∀ p ∈ hz, ∀ k, look R2 p.1 = some k -> (renH R2 hz).get k = some (p.2.mapc (SV.ren R2)) := fun p hp k hk => get_of_mem hNn (memN p hp k hk)
  have hmvd : ∀ j, memB j (movedIds R1 R2) = false -> memB j (allIds R1 R2) = true -> ∃ c, isAnc c = true /\ look R1 j = some c /\ ∃ c1 c2, (c, c1) ∈ h /\ hz.get c = some c2 /\ c1.like c2 /\ look R2 c = some j := fun j h1 h2 => by
    have h1' : j ∉ movedIds R1 R2 := fun hm => by rw [memB_iff.2 hm] at h1; cases h1
    have main : ∀ c, look R1 j = some c -> ∃ c, isAnc c = true /\ look R1 j = some c /\ ∃ c1 c2, (c, c1) ∈ h /\ hz.get c = some c2 /\ c1.like c2 /\ look R2 c = some j := fun c hl => by
      have hm := look_mem hl
      have hanc : isAnc c = true := by
        cases hb : isAnc c with
        | true => rfl
        | false => exact absurd (List.mem_append_left _ (List.mem_map.2 ⟨(j, c), List.mem_filter.2 ⟨hm, by simp [hb]⟩, rfl⟩)) h1'
      obtain ⟨c0, g1, g2⟩ := p2 _ hm
      obtain ⟨c2, g3, g4⟩ := hlike _ g2 hanc
      obtain ⟨q, q1, q2, q3⟩ := get_mem g3
      obtain ⟨k, hk⟩ := idsIn_all n7 q q1
      simp only at q2
      rw [q2] at hk
      rcases hkind c k hk with ⟨_, g5⟩ | ⟨g5, _⟩
      . have e1 := look_mem g5
        have : k = j := by
          have e2 := hswap _ e1
          have e3 := hswap _ hm
          simp only at e2 e3
          rw [e2] at e3
          exact Option.some.inj e3
        subst this
        exact ⟨c, hanc, hl, _, c2, g2, g3, g4, hk⟩
      . have : c < 20000 := by
          unfold isAnc at hanc
          simp only [Bool.and_eq_true] at hanc
          exact Nat.le_of_ble_eq_true hanc.2
        omega
    rcases List.mem_append.1 (memB_iff.1 h2) with hm | hm
    . obtain ⟨p, hp1, rfl⟩ := List.mem_map.1 hm
      exact main _ (look_of_mem n1 hp1)
    . obtain ⟨p, hp1, rfl⟩ := List.mem_map.1 hm
      rcases hkind _ _ (look_of_mem n3 hp1) with ⟨_, g⟩ | ⟨g, _⟩
      . exact main _ g
      . exact absurd (List.mem_append_right _ (List.mem_map.2 ⟨p, List.mem_filter.2 ⟨hp1, Nat.ble_eq_true_of_le g⟩, rfl⟩)) h1'
  have hsim : ∀ j, memB j (movedIds R1 R2) = false -> σ2 j = σ j /\ simO (H.get j) ((renH R2 hz ++ keepH (SV.kill (movedIds R1 R2)) (allIds R1 R2) H : Heap).get j) := fun j hj => by
    cases hall : memB j (allIds R1 R2) with
    | true =>
      obtain ⟨c, hanc, g1, c1, c2, g2, g3, g4, g5⟩ := hmvd j hj hall
      obtain ⟨q, q1, q2, q3⟩ := get_mem g3
      have hm := look_mem g1
      refine ⟨?_, ?_⟩
      . rw [hσ2 c j g5]
        have := hE.anc q q1 (by rw [q2]; exact hanc)
        rw [q2] at this
        rw [this]
        exact hσc _ hm
      . rw [get_append_some (getN q q1 j (by rw [q2]; exact g5))]
        obtain ⟨c0, k1, k2⟩ := p2 _ hm
        rw [k1]
        simp only at k2
        have := get_of_mem hnd g2
        rw [get_of_mem hnd k2] at this
        simp only [Option.some.injEq] at this
        rw [q3]
        have s1 := like_sim g4
        rw [<- this] at s1
        revert s1
        cases c0 <;> cases c2 <;> simp [Chunk.sim, Chunk.mapc, simO]
    | false =>
      have hno : look (swap R2) j = none := by
        cases hl : look (swap R2) j with
        | none => rfl
        | some c =>
          have := look_mem hl
          obtain ⟨p, hp1, e⟩ := List.mem_map.1 this
          cases e
          have h5 : memB p.2 (allIds R1 R2) = true := memB_iff.2 (List.mem_append_right _ (List.mem_map.2 ⟨p, hp1, rfl⟩))
          rw [h5] at hall
          cases hall
      refine ⟨by simp only [σ2, hno], ?_⟩
      refine simO_keep (fun p hp => ?_) j hall
      obtain ⟨p', h1, h2, _⟩ := fromN p hp
      exact hallK _ _ h2
  have hσk : ∀ j, memB j (allIds R1 R2) = false -> σ2 j = σ j := fun j hj => by
    have hno : look (swap R2) j = none := by
      cases hl : look (swap R2) j with
      | none => rfl
      | some c =>
        obtain ⟨p, hp1, e⟩ := List.mem_map.1 (look_mem hl)
        cases e
        have h5 : memB p.2 (allIds R1 R2) = true := memB_iff.2 (List.mem_append_right _ (List.mem_map.2 ⟨p, hp1, rfl⟩))
        rw [h5] at hj
        cases hj
    simp only [σ2, hno]
  have hR2 : ∀ i k, look R2 i = some k -> σ2 k = σ' i /\ ∃ c c', hz.get i = some c /\ (renH R2 hz ++ keepH (SV.kill (movedIds R1 R2)) (allIds R1 R2) H : Heap).get k = some c' /\ c.sim c' := fun i k hl => by
    have := List.all_eq_true.1 n8 _ (look_mem hl)
    obtain ⟨c, hcg⟩ := Option.isSome_iff_exists.1 this
    obtain ⟨q, q1, q2, q3⟩ := get_mem hcg
    simp only at q2
    subst q2
    refine ⟨hσ2 _ _ hl, c, _, hcg, get_append_some (getN q q1 k hl), ?_⟩
    rw [<- q3]
    exact sim_mapc _
  have toOk : (∀ b, okf cx σ H b -> b < w.heap.size -> okf cx σ2 (renH R2 hz ++ keepH (SV.kill (movedIds R1 R2)) (allIds R1 R2) H) b) -> ∀ b, okn ok w σ' hz b -> okf cx σ2 (renH R2 hz ++ keepH (SV.kill (movedIds R1 R2)) (allIds R1 R2) H) b := fun hok b hb => by
    rcases hb.1 with hb1 | hb1
    . exact hok b hb1.1 hb1.2
    . refine ⟨.inr (Nat.le_trans hr.evo.size hb1), fun p hp hbb => ?_⟩
      rcases List.mem_append.1 hp with hp | hp
      . obtain ⟨p', h1, h2, h3, h4⟩ := fromN p hp
        rw [h4] at hbb
        exact hb.2 _ h1 hbb
      . obtain ⟨h1, c, h2, h3⟩ := mem_keepH hp
        rw [h3, blk_mapc, hσk _ h1] at hbb
        have := (hr.heap.mine _ h2 b hbb).2.2
        omega
  have hRW := hr.upd (σ' := σ2) (w' := w') (allIds R1 R2) (renH R2 hz) (SV.kill (movedIds R1 R2))
    (fun p hp => by obtain ⟨p', h1, h2, _⟩ := fromN p hp; exact hallK _ _ h2) hNn
    hσk
    hE.os hE.tape hE.output hE.size
    (fun b hb hno => hE.frame b hb fun q hq hbb => by
      obtain ⟨p, h1, c, h2, h3, h3', h4, h5⟩ := toH q hq
      rw [h5] at hbb
      exact hno _ h3' (memB_iff.2 (List.mem_append_left _ (List.mem_map.2 ⟨p, h1, rfl⟩))) hbb)
    (fun p hp => by obtain ⟨p', h1, h2, h3, h4⟩ := fromN p hp; rw [h4]; exact hE.nd _ h1)
    (fun p hp q hq b hb hb' => by
      obtain ⟨p', h1, h2, h3, h4⟩ := fromN p hp
      obtain ⟨q', g1, g2, g3, g4⟩ := fromN q hq
      rw [h4] at hb
      rw [g4] at hb'
      have := hE.inj _ h1 _ g1 b hb hb'
      rw [this, g2] at h2
      exact (Option.some.inj h2).symm)
    (fun p hp b hb => by
      obtain ⟨p', h1, h2, h3, h4⟩ := fromN p hp
      rw [h4] at hb
      obtain ⟨m1, m2⟩ := hE.mine _ h1 b hb
      refine ⟨m1, m2.imp (fun h => h) ?_⟩
      rintro ⟨m3, c, m4, m5⟩
      rcases hkind _ _ h2 with ⟨_, g5⟩ | ⟨g5, _⟩
      . have hm := look_mem g5
        obtain ⟨c0, k1, k2⟩ := p2 _ hm
        have := get_of_mem hnd k2
        simp only at this
        rw [m4] at this
        simp only [Option.some.injEq] at this
        obtain ⟨q, q1, q2, q3⟩ := get_mem k1
        refine ⟨q, q1, memB_iff.2 (List.mem_append_left _ (List.mem_map.2 ⟨_, hm, q2.symm⟩)), ?_, .inr (.inl q2)⟩
        rw [this, blk_mapc, hσc _ hm] at m5
        rw [q2, q3]
        exact m5
      . omega)
    (fun p hp hanc => by
      obtain ⟨p', h1, h2, h3, h4⟩ := fromN p hp
      rcases hkind _ _ h2 with ⟨_, g5⟩ | ⟨_, g5⟩
      . have hm := look_mem g5
        obtain ⟨c0, k1, k2⟩ := p2 _ hm
        obtain ⟨q, q1, q2, q3⟩ := get_mem k1
        have ha1 := hr.heap.anc q q1 (by rw [q2]; exact hanc)
        rw [q2] at ha1
        rw [hσ2 _ _ h2, <- ha1]
        have hpc : isAnc p'.1 = true := by
          have := List.all_eq_true.1 n5 _ hm
          simp only [Bool.and_eq_true, Bool.or_eq_true, Bool.not_eq_true'] at this
          rcases this.2 with h6 | h6
          . rw [hanc] at h6; cases h6
          . exact h6
        rw [hE.anc _ h1 hpc]
        exact hσc _ hm
      . unfold isAnc at hanc
        simp only [Bool.and_eq_true] at hanc
        have := Nat.le_of_ble_eq_true hanc.1
        omega)
    (fun hok v sv hv => RepSV.kill hok (fun j hj => (hsim j hj).1) (fun j hj => (hsim j hj).2) hv)
    (fun hok p hp => by
      obtain ⟨p', h1, h2, h3, h4⟩ := fromN p hp
      rw [h3, hσ2 _ _ h2]
      exact RepChunk.mapc (hE.rep p' h1) (fun b k1 k2 => ⟨toOk (fun b k1 k2 => (hok b k1 k2).1) b k1, rfl⟩) (fun v sv hv => RepSV.ren (fun b k1 _ => toOk (fun b k1 k2 => (hok b k1 k2).1) b k1) hR2 hv) fun _ _ => rfl)
  have hok : ∀ b, okf cx σ H b -> b < w.heap.size -> okf cx σ2 (renH R2 hz ++ keepH (SV.kill (movedIds R1 R2)) (allIds R1 R2) H) b := fun b hb hbl => by
    refine ⟨hb.1, fun p hp => ?_⟩
    intro hbb
    rcases List.mem_append.1 hp with hp | hp
    . obtain ⟨p', h1, h2, h3, h4⟩ := fromN p hp
      rw [h4] at hbb
      rcases (hE.mine _ h1 b hbb).2 with m | ⟨_, c, m4, m5⟩
      . omega
      . obtain ⟨q, q1, q2, q3⟩ := get_mem m4
        have := (hown.mine q q1 b (by rw [q2, q3]; exact m5)).2
        exact this ⟨hb, hbl⟩
    . obtain ⟨h1, c, h2, h3⟩ := mem_keepH hp
      rw [h3, blk_mapc, hσk _ h1] at hbb
      exact hb.2 _ h2 hbb
  have hv' : RepSV σ2 (renH R2 hz ++ keepH (SV.kill (movedIds R1 R2)) (allIds R1 R2) H) (okf cx σ2 (renH R2 hz ++ keepH (SV.kill (movedIds R1 R2)) (allIds R1 R2) H)) w' v (rz.ren R2) :=
    RepSV.ren (fun b k1 _ => toOk hok b k1) hR2 hv
  have := hRW.put (dst := some t) (dstOk_lt hd) hv'
  refine hK hG _ _ ⟨σ2, ?_⟩
  have e : lk ((t, rz.ren R2) :: mapS (SV.kill (movedIds R1 R2)) s) = fput (fun t => SV.kill (movedIds R1 R2) (lk s t)) (some t) (rz.ren R2) := by
    funext u
    simp only [lk, fput, upd]
    split
    . rfl
    . exact lk_mapS rfl s u
  rw [e]
  exact this
section
variable {cx : Cx} {ops : Array Oper} {rest : List Oper} {s : Slots} {h : Heap} {Q : Exit -> Slots -> Heap -> Prop}
theorem hxl {t ty : Nat} {pos : String} {af : Array Edge} {f : Operand} {args : Array Operand} {tys : Array TypeId} {g : Nat} {cap : List SV} {ss : List SV} {H h : Heap} {ι : Type} {G : Nat -> ι -> Prop} {r : ι -> SV} {h' : ι -> Heap} (R1 R2 : List (Nat × Nat)) (i0 : ι)
    (hc : HX cx.P g ss h G r h') (hG : ∀ n m i, n <= m -> G m i -> G n i) (hn : ∀ i, G cx.w0.heap.size i -> awpL cx ops rest ((t, (r i).ren R2) :: mapS (SV.kill (movedIds R1 R2)) s) (renH R2 (h' i) ++ keepH (SV.kill (movedIds R1 R2)) (allIds R1 R2) H) Q)
    (hf : fnv (opv (lk s) f) = some (g, cap) := by exact rfl) (ha : SV.rens R1 (args.toList.map (opv (lk s)) ++ cap) = ss := by exact rfl) (hp : pickH R1 H = some h := by exact rfl) (hcall : ∀ i, callOk R1 R2 (h' i) = true := by exact fun _ => rfl) (hd : Nat.blt t cx.nt = true := by exact rfl) :
    awpL cx ops (⟨some t, .call { callee := .value f, args := args, argTypes := tys }, ty, pos, af, none⟩ :: rest) s H Q := fun a w hr => by
  unfold wpList
  rw [if_pos (by simp [Region.wanted])]
  refine .inl (op_hxcall R1 R2 i0 hf ha hp hc hcall hd a w hr _ _ fun i hi a' w' hr' => hn i (hG _ _ i ?_ hi) a' w' hr')
  obtain ⟨σ, hr⟩ := hr
  exact Nat.le_trans cx.nwle hr.evo.size
end
theorem hx_intro {P : Program} {T : List (Nat × TR)} {f : Nat} {fn : Func} {c : Code} {ss : List SV} {h : Heap} {ι : Type} {G : Nat -> ι -> Prop} {r : ι -> SV} {h' : ι -> Heap} (tab : tabOk P T = true) (nt : Nat) (hf : P.funcs[f]? = some fn) (hb : fn.body = some c)
    (hname : (fn.name == "runtime.NumGoroutine") = false) (hnt : fn.ntmps = nt) (hle : Nat.ble ss.length nt = true) (hsm : Nat.ble nt 10000 = true) (hids : (h.all fun p => Nat.ble 10000 p.1 && Nat.blt p.1 30000) = true) (hlike : ∀ i, likeIn h (h' i))
    (hw : ∀ (w0 : World) (ok0 : Nat -> Prop) (XM : Nat -> Nat -> Prop) (XA : Nat -> Prop) (anc : Nat -> Loc) (he0 : EnvAt P w0) (hX0 : EnvX P XM XA), awp ⟨P, T, tab, w0, ok0, XM, XA, nt, anc, hsm, w0.heap.size, Nat.le_refl _, he0, hX0⟩ c (argsS 0 ss) h (fun e s h1 => ∃ i, G w0.heap.size i /\ HPost T fn.results.toList h (r i) (h' i) e s h1)) : HX P f ss h G r h' := by
  refine ⟨⟨fn, hf, by simp [hb], hname⟩, hlike, fun w ok σ vs henv hok hown hvs => ?_⟩
  have hle' := Nat.le_of_ble_eq_true hle
  have hlen := (RepSVs.get hvs).1
  simp only [Array.length_toList] at hlen
  have hid : ∀ p ∈ h, 10000 <= p.1 /\ p.1 < 30000 := fun p hp => by
    have := List.all_eq_true.1 hids p hp
    simp only [Bool.and_eq_true] at this
    exact ⟨Nat.le_of_ble_eq_true this.1, Nat.le_of_ble_eq_true this.2⟩
  have hX : EnvX P (fun i b => ∃ c, h.get i = some c /\ b ∈ blk (σ i) c) fun b => ∃ q ∈ h, b ∈ blk (σ q.1) q.2 := ⟨fun i b ⟨c, g1, g2⟩ => by
    obtain ⟨p', m1, m2, m3⟩ := get_mem g1
    exact henv.2 p' m1 b (by rw [m2, m3]; exact g2), fun b ⟨q, g1, g2⟩ => henv.2 q g1 b g2⟩
  let cx : Cx := ⟨P, T, tab, w, ok, fun i b => ∃ c, h.get i = some c /\ b ∈ blk (σ i) c, fun b => ∃ q ∈ h, b ∈ blk (σ q.1) q.2, nt, σ, hsm, w.heap.size, Nat.le_refl _, henv.1, hX⟩
  have hk : ∀ b, ok b -> b < w.heap.size -> okf cx σ h b /\ w.heap[b]? = w.heap[b]? := fun b h1 _ => ⟨⟨.inl h1, fun p hp hbb => (hown.mine p hp b hbb).2 h1⟩, rfl⟩
  refine calls_of_wp hf hb (wp_mono (hw w ok cx.XM cx.XA σ henv.1 hX _ w ⟨σ, ⟨rfl, rfl, rfl, Nat.le_refl _, fun _ _ _ => rfl⟩, rfl, ?_, ⟨hown.nodup, hown.nd, hown.inj, fun p hp b hbb => ?_, fun p hp => ?_, fun _ _ _ => rfl⟩, ?_⟩) ?_)
  . simp only [Array.size_append, Array.size_replicate, hlen, hnt]
    omega
  . exact ⟨.inl (by unfold Cx.X0; split <;> first | exact ⟨p.2, get_of_mem hown.nodup hp, hbb⟩ | exact ⟨p, hp, hbb⟩), fun h => by have := (hid p hp).1; omega, (hown.mine p hp b hbb).1⟩
  . exact RepChunk.mono (hown.rep p hp) hk fun _ _ => rfl
  . refine argsS_rep ss 0 _ fun i x hx => ?_
    have hi : i < ss.length := by
      rcases Nat.lt_or_ge i ss.length with hh | hh
      . exact hh
      . simp [hh] at hx
    have hiv : i < vs.size := by omega
    have hget : vs[i]? = some vs[i] := Array.getElem?_eq_getElem hiv
    have := ((RepSVs.get hvs).2 i vs[i] x (by simp) hx).1
    rw [Nat.zero_add, Array.getD_eq_getD_getElem?, Array.getElem?_append_left hiv, hget]
    exact this.mono hk
  . rintro e a' w' ⟨s', h1, ⟨i, hG, he, R, xs, hres, hrr, hpick, hrok⟩, σ1, hr⟩
    have hlike := hlike i
    obtain ⟨hz, hhz⟩ : ∃ hz, h' i = hz := ⟨_, rfl⟩
    obtain ⟨rz, hrz⟩ : ∃ rz, r i = rz := ⟨_, rfl⟩
    rw [hhz] at hlike hpick
    rw [hrz] at hrr
    obtain ⟨v, k1, k2⟩ := resV_run (fn := fn) hr hres
    obtain ⟨p1, p2, p3⟩ := pickG_spec hpick
    simp only [renOk, Bool.and_eq_true] at hrok
    obtain ⟨⟨n1, n2⟩, n3⟩ := hrok
    replace n1 := nodupB_iff n1
    replace n2 := nodupB_iff n2
    have hkind : ∀ p ∈ R, (10000 <= p.1 /\ p.1 = p.2 /\ (h.get p.1).isSome = true) \/ (p.1 < 10000 /\ 20000 <= p.2) := fun p hp => by
      have := List.all_eq_true.1 n3 p hp
      simp only [Bool.or_eq_true, Bool.and_eq_true] at this
      rcases this with ⟨⟨g1, g2⟩, g3⟩ | ⟨g1, g2⟩
      . exact .inl ⟨Nat.le_of_ble_eq_true g1, Nat.eq_of_beq_eq_true g2, g3⟩
      . exact .inr ⟨Nat.le_of_ble_eq_true g1, Nat.le_of_ble_eq_true g2⟩
    let σ' : Nat -> Loc := fun j => match look (swap R) j with
      | some i => σ1 i
      | none => ⟨0, 0, true, []⟩
    have hσ' : ∀ p ∈ R, σ' p.2 = σ1 p.1 := fun p hp => by
      have : look (swap R) p.2 = some p.1 := look_of_mem (R := swap R) (by rw [swap_fst]; exact n2) (p := (p.2, p.1)) (List.mem_map.2 ⟨p, hp, rfl⟩)
      simp only [σ', this]
    have hnd : (hz.map (·.1)).Nodup := by rw [p1]; exact n2
    have hR : ∀ i j, look R i = some j -> σ' j = σ1 i /\ ∃ c c', h1.get i = some c /\ hz.get j = some c' /\ c.sim c' := fun i j hl => by
      have hm := look_mem hl
      obtain ⟨c, g1, g2⟩ := p2 _ hm
      exact ⟨hσ' _ hm, c, _, g1, get_of_mem hnd g2, sim_mapc c⟩
    have toH : ∀ q ∈ hz, ∃ p ∈ R, ∃ c, p.2 = q.1 /\ (p.1, c) ∈ h1 /\ q.2 = c.mapc (SV.ren R) /\ blk (σ' q.1) q.2 = blk (σ1 p.1) c := fun q hq => by
      obtain ⟨p, g1, c, g2, g3, g4⟩ := p3 q hq
      obtain ⟨p', m1, m2, m3⟩ := get_mem g3
      refine ⟨p, g1, c, g2, ?_, g4, ?_⟩
      . have : p' = (p.1, c) := by rw [<- m2, <- m3]
        rw [<- this]; exact m1
      . rw [g4, blk_mapc, <- g2, hσ' p g1]
    have hkn : ∀ b, okf cx σ1 h1 b -> b < w'.heap.size -> okn ok w σ' hz b := fun b hb _ => ⟨hb.1, fun q hq hbb => by
      obtain ⟨p, g1, c, g2, g3, g4, g5⟩ := toH q hq
      rw [g5] at hbb
      exact hb.2 _ g3 hbb⟩
    have hv : RepSV σ' hz (okn ok w σ' hz) w' v rz := by
      rw [<- hrr]
      exact RepSV.ren hkn hR k2
    have hE : HEnd σ h ok w σ' hz w' := by
      refine ⟨hr.evo.os, hr.evo.tape, hr.evo.output, hr.evo.size, fun b hb hno => hr.evo.block b hb ?_, hnd, fun q hq => ?_, fun q hq q' hq' b hb hb' => ?_, fun q hq b hb => ?_, fun q hq => ?_, fun q hq hanc => ?_⟩
      . intro i hX
        unfold Cx.X0 at hX
        split at hX
        . obtain ⟨c, hc1, hc2⟩ := hX
          obtain ⟨p', m1, m2, m3⟩ := get_mem hc1
          exact hno p' m1 (by rw [m2, m3]; exact hc2)
        . obtain ⟨q, hq, hq2⟩ := hX
          exact hno q hq hq2
      . obtain ⟨p, g1, c, g2, g3, g4, g5⟩ := toH q hq
        rw [g5]; exact hr.heap.nd _ g3
      . obtain ⟨p, g1, c, g2, g3, g4, g5⟩ := toH q hq
        obtain ⟨p', g1', c', g2', g3', g4', g5'⟩ := toH q' hq'
        rw [g5] at hb
        rw [g5'] at hb'
        have e := hr.heap.inj _ g3 _ g3' b hb hb'
        simp only at e
        have e1 := look_of_mem n1 g1
        have e2 := look_of_mem n1 g1'
        rw [e, e2] at e1
        rw [<- g2, <- g2']
        exact (Option.some.inj e1).symm
      . obtain ⟨p, g1, c, g2, g3, g4, g5⟩ := toH q hq
        rw [g5] at hb
        obtain ⟨m1, m2, m3⟩ := hr.heap.mine _ g3 b hb
        refine ⟨m3, ?_⟩
        rcases hkind p g1 with ⟨q1, q2, q3⟩ | ⟨q1, q2⟩
        . rcases m1 with m1 | m1
          . right
            obtain ⟨c0, m4⟩ := Option.isSome_iff_exists.1 q3
            obtain ⟨p', r1, r2, r3⟩ := get_mem m4
            have hlt := (hid p' r1).2
            rw [r2] at hlt
            rw [<- g2, <- q2]
            refine ⟨hlt, c0, m4, ?_⟩
            cases hmv : isMov p.1 with
            | true =>
              unfold Cx.X0 at m1
              simp only at m1
              rw [hmv] at m1
              obtain ⟨c1, m5, m6⟩ := m1
              rw [m4] at m5
              cases m5
              exact m6
            | false =>
              have hanc : isAnc p.1 = true := by
                unfold isAnc
                unfold isMov at hmv
                rw [Nat.ble_eq_true_of_le q1]
                simp only [Bool.true_and]
                cases hb2 : Nat.ble 20000 p.1 with
                | true =>
                  rw [hb2] at hmv
                  simp only [Bool.true_and] at hmv
                  have : Nat.blt p.1 30000 = true := Nat.ble_eq_true_of_le hlt
                  rw [this] at hmv
                  cases hmv
                | false =>
                  have : ¬ 20000 <= p.1 := fun h => by rw [Nat.ble_eq_true_of_le h] at hb2; cases hb2
                  exact Nat.ble_eq_true_of_le (by omega)
              obtain ⟨c', l1, l2⟩ := hlike p' r1 (by rw [r2]; exact hanc)
              rw [r2, q2, g2, get_of_mem hnd hq] at l1
              simp only [Option.some.injEq] at l1
              subst l1
              have e1 := hr.heap.anc _ g3 hanc
              have e2 : σ1 p.1 = σ p.1 := e1
              rw [<- r3, <- e2, <- like_blk l2, g4, blk_mapc]
              exact hb
          . exact .inl m1
        . exact .inl (m2 q1)
      . obtain ⟨p, g1, c, g2, g3, g4, g5⟩ := toH q hq
        rw [g4, <- g2, hσ' p g1]
        exact RepChunk.mapc (hr.heap.rep _ g3) (fun b h1 h2 => ⟨hkn b h1 h2, rfl⟩) (fun v sv hv => RepSV.ren hkn hR hv) fun _ _ => rfl
      . obtain ⟨p, g1, c, g2, g3, g4, g5⟩ := toH q hq
        rcases hkind p g1 with ⟨q1, q2, _⟩ | ⟨q1, q2⟩
        . rw [<- g2, hσ' p g1]
          rw [<- g2, <- q2] at hanc
          rw [<- q2]
          exact hr.heap.anc _ g3 hanc
        . rw [<- g2] at hanc
          unfold isAnc at hanc
          simp only [Bool.and_eq_true] at hanc
          have := Nat.le_of_ble_eq_true hanc.2
          omega
    rcases he with rfl | rfl
    . exact ⟨hr.defers, v, k1, i, hG, v, σ', rfl, by rw [hhz]; exact hE, by rw [hhz, hrz]; exact hv⟩
    . exact ⟨hr.defers, v, k1, i, hG, v, σ', rfl, by rw [hhz]; exact hE, by rw [hhz, hrz]; exact hv⟩
end Go.Proofs.YtckpadnjldebaaaGreat
namespace Go.Proofs.YtckpadnjldebaaaGreat
open Go
open Go.RowKit (Below)
set_option linter.unusedVariables false
set_option linter.unusedSimpArgs false
section
variable {cx : Cx} {ops : Array Oper}
def zAllB (ops : Array Oper) (z : Nat) : Bool := (List.range z).all fun i => match ops[z]? with
  | some o => o.after.any fun e => Region.binds .any e && Nat.beq e.on i
  | none => false
theorem zAll_not {z i : Nat} (h : zAllB ops z = true) (hi : i < z) {listed : Array Bool} (hl : listed.getD i true = false) : z ∉ Region.ready .any ops listed := fun hr => by
  obtain ⟨_, o, ho, hall⟩ := mem_ready.1 hr
  have := List.all_eq_true.1 h i (List.mem_range.2 hi)
  rw [ho] at this
  obtain ⟨e, he, hb⟩ := Array.any_eq_true'.1 this
  simp only [Bool.and_eq_true] at hb
  have h1 := hall e he hb.1
  rw [Nat.eq_of_beq_eq_true hb.2, getD_both hl] at h1
  cases h1
theorem seqB_only {g z : Nat} {listed : Array Bool} (hg : 0 < g) (h : Region.seqB .any ops g z listed = true) : ∀ j ∈ Region.ready .any ops listed, j = z := fun j hj => by
  cases g with
  | zero => omega
  | succ g =>
    simp only [Region.seqB, Bool.and_eq_true, decide_eq_true_eq] at h
    rw [h.1] at hj
    simpa using hj
def planTB (ops : Array Oper) (ms : List Nat) (ann : Ann) (g z : Nat) : Plan -> Nat -> Array Bool -> Bool
  | .done, n, listed => Nat.beq n 0 && Region.seqB .any ops g z listed
  | .take i K p, n, listed => Nat.blt 0 n && Nat.blt i z && takeB ops ms ann listed i K && planTB ops ms ann g z p (n - 1) (listed.setIfInBounds i true)
  | .fork i j p q, n, listed => Nat.blt 0 n && (Region.ready .any ops listed).all (fun k => Nat.beq k i || Nat.beq k j) && !(Region.ready .any ops listed).isEmpty && isT ann i && isT ann j && planTB ops ms ann g z p (n - 1) (listed.setIfInBounds i true) && planTB ops ms ann g z q (n - 1) (listed.setIfInBounds j true)
  | .fork3 i j k p q r, n, listed => Nat.blt 0 n && (Region.ready .any ops listed).all (fun u => Nat.beq u i || Nat.beq u j || Nat.beq u k) && !(Region.ready .any ops listed).isEmpty && isT ann i && isT ann j && isT ann k && planTB ops ms ann g z p (n - 1) (listed.setIfInBounds i true) && planTB ops ms ann g z q (n - 1) (listed.setIfInBounds j true) && planTB ops ms ann g z r (n - 1) (listed.setIfInBounds k true)
theorem mAny_firstT {ms : List Nat} {ann : Ann} {i n : Nat} {oi : Oper} {L : Array Bool -> (Nat -> SV) -> Heap -> Prop} (hm : msOk ops ms = true) (hi : ops[i]? = some oi) (hin : ops.size <= n)
    (z : Nat) (hdone : ∀ listed f h, L listed f h -> ∀ j ∈ Region.ready .any ops listed, j = z) (hz : ∀ listed, listed.getD i true = false -> z ∉ Region.ready .any ops listed) :
    ∀ (fu : Nat) (listed : Array Bool) (f : Nat -> SV) (h : Heap) (f₁ : Nat -> SV) (h₁ : Heap), HeadInv .any ops n listed ->
      (∀ j oj, ops[j]? = some oj -> j ≠ i -> listed.getD j true = false -> (∀ e ∈ oj.after, Region.binds .any e = true -> e.on ≠ i) -> oi.apart ops oj = true) ->
      (isT ann i = true -> ∀ j, isT ann j = true -> j ≠ i -> listed.getD j true = false -> waitsB ms i j = true) ->
      i ∈ Region.ready .any ops listed -> Step cx ops ms ann i oi f h f₁ h₁ ->
      mAny cx ops ms ann L fu (listed.setIfInBounds i true) f₁ h₁ -> mAny cx ops ms ann L (fu + 1) listed f h := by
  intro fu
  have his : i < ops.size := (Array.getElem?_eq_some_iff.1 hi).1
  induction fu with
  | zero =>
    intro listed f h f₁ h₁ inv _ _ hr hy H
    refine ⟨fun h => (by rw [h] at hr; cases hr), fun j hj => ?_⟩
    by_cases hji : j = i
    . subst hji; unfold mOp; simp only [hi]; exact ⟨f₁, h₁, hy, H⟩
    . have h1 := hdone _ _ _ H j (ready_mono hj hji)
      subst h1
      exact absurd hj (hz listed (mem_ready.1 hr).1)
  | succ fu ih =>
    intro listed f h f₁ h₁ inv hfree hTT hr hy H
    obtain ⟨hun, oi', hoi', halli⟩ := mem_ready.1 hr
    have : oi' = oi := Option.some.inj (hoi'.symm.trans hi)
    subst this
    refine ⟨fun h => (by rw [h] at hr; cases hr), fun j hj => ?_⟩
    by_cases hji : j = i
    . subst hji; unfold mOp; simp only [hi]; exact ⟨f₁, h₁, hy, H⟩
    . have h1 := H.2 j (ready_mono hj hji)
      obtain ⟨hjun, oj, hoj, hall⟩ := mem_ready.1 hj
      have hjs : j < ops.size := (Array.getElem?_eq_some_iff.1 hoj).1
      have hnot : ∀ e ∈ oj.after, Region.binds .any e = true -> e.on ≠ i := fun e he hb heq => by
        have h1 := hall e he hb
        rw [heq, getD_both hun] at h1
        cases h1
      have w1 : waitsB ms i j = false := by
        cases e : waitsB ms i j with
        | false => rfl
        | true =>
          have := waits_listed hm his inv _ j oj (Nat.le_refl _) hoj e hall
          rw [getD_both hun] at this
          cases this
      have w2 : waitsB ms j i = false := by
        cases e : waitsB ms j i with
        | false => rfl
        | true =>
          have := waits_listed hm hjs inv _ i oi' (Nat.le_refl _) hi e halli
          rw [getD_both hjun] at this
          cases this
      have hnT : isT ann i = true -> isT ann j = true -> False := fun hi' hj' => by
        rw [hTT hi' j hj' hji hjun] at w1
        cases w1
      have hfree' : ∀ k ok, ops[k]? = some ok -> k ≠ i -> (listed.setIfInBounds j true).getD k true = false ->
          (∀ e ∈ ok.after, Region.binds .any e = true -> e.on ≠ i) -> oi'.apart ops ok = true := fun k ok hk hki hun hno => by
        refine hfree k ok hk hki ?_ hno
        by_cases hjk : j = k
        . subst hjk; exact hjun
        . rw [getD_set_ne true hjk] at hun; exact hun
      have hTT' : isT ann i = true -> ∀ k, isT ann k = true -> k ≠ i -> (listed.setIfInBounds j true).getD k true = false -> waitsB ms i k = true := fun hi' k hk hki hun => by
        refine hTT hi' k hk hki ?_
        by_cases hjk : j = k
        . subst hjk; exact hjun
        . rw [getD_set_ne true hjk] at hun; exact hun
      unfold mOp at h1 ⊢
      simp only [hoj] at h1 ⊢
      obtain ⟨f2, h2, hst, hrest⟩ := h1
      obtain ⟨f3, h3, s1, s2⟩ := Step.swap hji w1 w2 (hfree j oj hoj hji hjun hnot) hnT hy hst
      refine ⟨f3, h3, s1, ih _ f3 h3 f2 h2 (inv.set hj (Nat.lt_of_lt_of_le hjs hin)) hfree' hTT' (ready_mono hr (Ne.symm hji)) s2 ?_⟩
      rw [Array.setIfInBounds_comm _ _ hji]
      exact hrest
theorem wpAny_of_mAnyG {g : Nat} {ms : List Nat} {ann : Ann} {L : Array Bool -> (Nat -> SV) -> Heap -> Prop} {Q' : Exit -> Act -> World -> Prop} (hdst : ∀ o ∈ ops, dstOk cx.nt o.dst = true)
    (hL : ∀ listed s h a w, L listed (lk s) h -> R cx (lk s) h a w -> wpAny cx.P .any ops Q' g listed a w) :
    ∀ (n : Nat) (listed : Array Bool) (s : Slots) (h : Heap) (a : Act) (w : World), mAny cx ops ms ann L n listed (lk s) h -> R cx (lk s) h a w -> wpAny cx.P .any ops Q' (g + n) listed a w
  | 0, listed, s, h, a, w, hh, hr => hL _ _ _ _ _ hh hr
  | n + 1, listed, s, h, a, w, hh, hr => by
    refine ⟨fun h0 => absurd h0 hh.1, fun i hi => ?_⟩
    have h1 := hh.2 i hi
    unfold mOp at h1
    unfold wpOp
    split
    . rename_i e
      simp only [e] at h1
      exact wpAny_of_mAnyG hdst hL n _ _ _ _ _ h1 hr
    . rename_i o e
      simp only [e] at h1
      obtain ⟨f', h', hst, h2⟩ := h1
      have hd := dstOk_lt (hdst o (Array.mem_of_getElem? e))
      cases hst with
      | still K sv _ w1 q1 k1 o1 =>
        obtain ⟨σ, hr⟩ := hr
        rw [if_pos (wanted_of hr w1)]
        refine .inl (QtA.lift rfl q1 k1 (fun t ht => o1 t (looks_op ht)) (lk s) (fun _ _ => rfl) σ a w hr _ _ fun v w' hb hv => ?_)
        refine wpAny_of_mAnyG hdst hL n _ (put s o.dst sv) h _ _ (by rw [lk_put]; exact h2) ⟨σ, ?_⟩
        rw [lk_put]
        exact (hr.ext hb).put hd hv
      | skip w1 =>
        obtain ⟨σ, hr⟩ := hr
        rw [if_neg (by rw [wanted_of hr w1]; simp)]
        refine wpAny_of_mAnyG hdst hL n _ (put s o.dst .und) h _ _ (by rw [lk_put]; exact h2) ⟨σ, ?_⟩
        rw [lk_put]
        exact hr.put hd rfl
      | turn X g sv h'' t1 w1 m1 x1 e1 =>
        rw [if_pos (by obtain ⟨σ, hr⟩ := hr; exact wanted_of hr w1)]
        have hl : lk (put (mapS g s) o.dst sv) = fput (fun t => g (lk s t)) o.dst sv := by
          rw [lk_put]
          congr 1
          funext t
          exact lk_mapS x1.junk s t
        refine .inl (m1 s (fun _ _ => rfl) a w hr _ _ fun a' w' hr' => ?_)
        exact wpAny_of_mAnyG hdst hL n _ (put (mapS g s) o.dst sv) h' _ _ (by rw [hl]; exact h2) (by rw [hl]; exact hr')
theorem mAny_planT {l : List Oper} {ms : List Nat} {ann : Ann} {n : Nat} {Lq : (Nat -> SV) -> Heap -> Prop} {g z : Nat} (hm : msOk l.toArray ms = true) (hn : l.length <= n) (hg : 0 < g) (hzz : zAllB l.toArray z = true) : ∀ (p : Plan) (m : Nat) (listed : Array Bool) (f : Nat -> SV) (h : Heap), HeadInv .any l.toArray n listed ->
    planTB l.toArray ms ann g z p m listed = true -> pWalk cx l ann Lq p f h -> mAny cx l.toArray ms ann (fun listed' f' h' => Region.seqB .any l.toArray g z listed' = true /\ Lq f' h') m listed f h
  | .done, m, listed, f, h, inv, hB, hh => by
    simp only [planTB, Bool.and_eq_true] at hB
    have := Nat.eq_of_beq_eq_true hB.1
    subst this
    exact ⟨hB.2, hh⟩
  | .take i K p, m, listed, f, h, inv, hB, hh => by
    simp only [planTB, takeB, Bool.and_eq_true] at hB
    obtain ⟨⟨⟨h0, hzi⟩, ⟨⟨⟨hr, hf⟩, hk⟩, ht⟩⟩, hB'⟩ := hB
    have hr' : i ∈ Region.ready .any l.toArray listed := by simpa using hr
    obtain ⟨o, f', h', ho, hst, hrest⟩ := hh
    have hi : l.toArray[i]? = some o := by rw [getO_eq] at ho; simpa using ho
    have hin : i < n := by have := (Array.getElem?_eq_some_iff.1 hi).1; simp at this; omega
    obtain ⟨m', rfl⟩ : ∃ m', m = m' + 1 := ⟨m - 1, by have := Nat.le_of_ble_eq_true h0; omega⟩
    refine mAny_firstT hm hi (n := n) (by simpa using hn) z (fun listed' f' h' hL => seqB_only hg hL.1) (fun listed' hl => zAll_not hzz (Nat.le_of_ble_eq_true hzi) hl) m' listed f h f' h' inv (Region.free_spec hi hf) (fun hT j hj hji hun => ?_) hr' (hst.step (by simpa using hk)) (mAny_planT hm hn hg hzz p m' _ f' h' (inv.set hr' hin) hB' hrest)
    simp only [hT, Bool.not_true, Bool.false_or] at ht
    obtain ⟨q, hq, hqj⟩ := List.any_eq_true.1 hj
    have hqj' := Nat.eq_of_beq_eq_true hqj
    have := List.all_eq_true.1 ht q hq
    rw [hqj'] at this
    simp only [Bool.or_eq_true] at this
    rcases this with (h1 | h1) | h1
    . exact absurd (Nat.eq_of_beq_eq_true h1) hji
    . rw [hun] at h1; cases h1
    . exact h1
  | .fork i j p q, m, listed, f, h, inv, hB, hh => by
    simp only [planTB, Bool.and_eq_true] at hB
    obtain ⟨⟨⟨⟨⟨⟨h0, hr⟩, hne⟩, ti⟩, tj⟩, hBp⟩, hBq⟩ := hB
    obtain ⟨m', rfl⟩ : ∃ m', m = m' + 1 := ⟨m - 1, by have := Nat.le_of_ble_eq_true h0; omega⟩
    refine ⟨fun e => (by rw [e] at hne; simp at hne), fun k hk => ?_⟩
    have hkk := List.all_eq_true.1 hr k hk
    simp only [Bool.or_eq_true] at hkk
    have hkn : k < n := by obtain ⟨_, o, ho, _⟩ := mem_ready.1 hk; have := (Array.getElem?_eq_some_iff.1 ho).1; simp at this; omega
    have key : ∀ (i : Nat) (p : Plan), isT ann i = true -> k = i -> planTB l.toArray ms ann g z p m' (listed.setIfInBounds i true) = true -> (∃ o f' h', getO l i = some o /\ StepP cx l.toArray ann i [] o f h f' h' /\ pWalk cx l ann Lq p f' h') -> (∀ f' h', pWalk cx l ann Lq p f' h' -> mAny cx l.toArray ms ann (fun listed' f' h' => Region.seqB .any l.toArray g z listed' = true /\ Lq f' h') m' (listed.setIfInBounds i true) f' h') -> mOp cx l.toArray ms ann k (mAny cx l.toArray ms ann (fun listed' f' h' => Region.seqB .any l.toArray g z listed' = true /\ Lq f' h') m' (listed.setIfInBounds k true)) f h := fun i p hT e hB hex hrec => by
      subst e
      obtain ⟨o, f', h', ho, hst, hrest⟩ := hex
      have hi : l.toArray[k]? = some o := by rw [getO_eq] at ho; simpa using ho
      unfold mOp
      simp only [hi]
      exact ⟨f', h', hst.step (.inl hT), hrec f' h' hrest⟩
    rcases hkk with e | e
    . exact key i p ti (Nat.eq_of_beq_eq_true e) hBp hh.1 fun f' h' hw => mAny_planT hm hn hg hzz p m' _ f' h' (by rw [<- Nat.eq_of_beq_eq_true e]; exact inv.set hk hkn) hBp hw
    . exact key j q tj (Nat.eq_of_beq_eq_true e) hBq hh.2 fun f' h' hw => mAny_planT hm hn hg hzz q m' _ f' h' (by rw [<- Nat.eq_of_beq_eq_true e]; exact inv.set hk hkn) hBq hw
  | .fork3 i j u p q r, m, listed, f, h, inv, hB, hh => by
    simp only [planTB, Bool.and_eq_true] at hB
    obtain ⟨⟨⟨⟨⟨⟨⟨⟨h0, hr⟩, hne⟩, ti⟩, tj⟩, tu⟩, hBp⟩, hBq⟩, hBr⟩ := hB
    obtain ⟨m', rfl⟩ : ∃ m', m = m' + 1 := ⟨m - 1, by have := Nat.le_of_ble_eq_true h0; omega⟩
    refine ⟨fun e => (by rw [e] at hne; simp at hne), fun k hk => ?_⟩
    have hkk := List.all_eq_true.1 hr k hk
    simp only [Bool.or_eq_true] at hkk
    have hkn : k < n := by obtain ⟨_, o, ho, _⟩ := mem_ready.1 hk; have := (Array.getElem?_eq_some_iff.1 ho).1; simp at this; omega
    have key : ∀ (i : Nat) (p : Plan), isT ann i = true -> k = i -> planTB l.toArray ms ann g z p m' (listed.setIfInBounds i true) = true -> (∃ o f' h', getO l i = some o /\ StepP cx l.toArray ann i [] o f h f' h' /\ pWalk cx l ann Lq p f' h') -> (∀ f' h', pWalk cx l ann Lq p f' h' -> mAny cx l.toArray ms ann (fun listed' f' h' => Region.seqB .any l.toArray g z listed' = true /\ Lq f' h') m' (listed.setIfInBounds i true) f' h') -> mOp cx l.toArray ms ann k (mAny cx l.toArray ms ann (fun listed' f' h' => Region.seqB .any l.toArray g z listed' = true /\ Lq f' h') m' (listed.setIfInBounds k true)) f h := fun i p hT e hB hex hrec => by
      subst e
      obtain ⟨o, f', h', ho, hst, hrest⟩ := hex
      have hi : l.toArray[k]? = some o := by rw [getO_eq] at ho; simpa using ho
      unfold mOp
      simp only [hi]
      exact ⟨f', h', hst.step (.inl hT), hrec f' h' hrest⟩
    rcases hkk with (e | e) | e
    . exact key i p ti (Nat.eq_of_beq_eq_true e) hBp hh.1 fun f' h' hw => mAny_planT hm hn hg hzz p m' _ f' h' (by rw [<- Nat.eq_of_beq_eq_true e]; exact inv.set hk hkn) hBp hw
    . exact key j q tj (Nat.eq_of_beq_eq_true e) hBq hh.2.1 fun f' h' hw => mAny_planT hm hn hg hzz q m' _ f' h' (by rw [<- Nat.eq_of_beq_eq_true e]; exact inv.set hk hkn) hBq hw
    . exact key u r tu (Nat.eq_of_beq_eq_true e) hBr hh.2.2 fun f' h' hw => mAny_planT hm hn hg hzz r m' _ f' h' (by rw [<- Nat.eq_of_beq_eq_true e]; exact inv.set hk hkn) hBr hw
theorem awp_planT {id : Nat} {l : List Oper} {s : Slots} {h : Heap} {Q : Exit -> Slots -> Heap -> Prop} (n : Nat) (ann : Ann) (p : Plan) (hm : cx.P.follows .mixedOrders = true) (hB : (msOk l.toArray (masksOf l) && (zAllB l.toArray n && (Nat.blt n l.length && planTB l.toArray (masksOf l) ann (l.length - n) n p n (Array.replicate l.length false)))) = true) (hdst : (l.all fun o => dstOk cx.nt o.dst) = true)
    (hq : awpM cx l ann (fun s' h' => awpL cx l.toArray (l.drop n) s' h' Q) p s h) : awp cx (.region id l.toArray true) s h Q := fun a w hr => by
  simp only [Bool.and_eq_true] at hB
  obtain ⟨b1, b2, b3, b4⟩ := hB
  have hn := Nat.le_of_ble_eq_true b3
  have hn' : n < l.length := hn
  have inv0 : HeadInv .any l.toArray l.length (Array.replicate l.length false) :=
    ⟨by simp, fun j oj _ hl => (by rw [getD_replicate_false] at hl; cases hl), fun t ht ht' => by simp at ht'; omega⟩
  have H := mAny_planT (cx := cx) (n := l.length) b1 (Nat.le_refl _) (by omega) b2 p n _ (lk s) h inv0 b4 hq
  refine wp_region_any hm ?_
  have := wpAny_of_mAnyG (cx := cx) (g := l.length - n) (Q' := lift cx Q) (fun o ho => by simpa using List.all_eq_true.1 hdst o (by simpa using ho)) (fun listed s0 h' a' w' hL hr' => by
    obtain ⟨hL1, s', hL3, hL2⟩ := hL
    have hdl : (l.drop n).length = l.length - n := by simp
    have := wpAny_of_seq (md := .any) (Q' := lift cx Q) (l.drop n) n listed a' w' (fun j => by simp [List.getElem?_drop]) (by rw [hdl]; exact hL1) (hL2 a' w' (by rw [hL3]; exact hr'))
    rwa [hdl] at this) _ _ s h a { w with drawn := w.drawn + 1 } H (R_drew hr)
  simpa [show l.length - n + n = l.length by omega] using this
end
theorem HC.le1 {P : Program} {f : Nat} {x y : D} {r : SV} {h' : Heap} (hc : HC P f [.d y] [] r h') (hl : D.Le x y) : HC P f [.d x] [] r h' :=
  ⟨hc.1, hc.2.1, fun w ok σ vs he hok hown hvs => hc.2.2 w ok σ vs he hok hown (by
    simp only [RepSVs] at hvs ⊢
    obtain ⟨v, vs', e, h1, h2, h3⟩ := hvs
    refine ⟨v, vs', e, ?_, h2, h3⟩
    simp only [RepSV] at h1 ⊢
    exact h1.le hl)⟩
structure MGt (n : Int) (kvs : List (D × D)) (r : Option D) : Prop where
  h : mget n kvs = r
theorem wa_gt {cx : Cx} {h : Heap} {dst : Option Nat} {ty : Nat} {pos : String} {af : Array Edge} {gd : Option (Nat × Bool)} {T : Nat} {x i : Operand} {tr tk te : TR} {kt et : Nat} {f : Nat -> SV} {kvs : List (D × D)} {kd : IntKind} {n : Int} {okc : Bool} {r : Option D} (hx : mapOf h (opv f x) = some kvs) (hi : opv f i = .d (.int kd n)) (ht : tget cx.T T = some tr) (hm : tr.mp = some (kt, et))
    (htk : tget cx.T kt = some tk) (hkk : tk.kind = some kd) (hte : tget cx.T et = some te) (ha : te.agg = false) (hz : Nat.beq te.zero.length 1 = true) (hk : keysI kd kvs = true) (hr : MGt n kvs r) :
    Qt cx h ⟨dst, .lookup T x i okc, ty, pos, af, gd⟩ f (.d (mans te okc r)) := by
  have := wa_lookup (cx := cx) (h := h) (dst := dst) (ty := ty) (pos := pos) (af := af) (gd := gd) (okc := okc) hx hi ht hm htk hkk hte ha hz hk
  rwa [hr.h] at this
end Go.Proofs.YtckpadnjldebaaaGreat
