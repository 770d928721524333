/- Contracts whose answer hangs on something that only the call decides. Printed by genfwz.py. No condition. -/
import Derived.Test.YtffmlijngfhhaaaGreatDoorFwX
namespace Go.Proofs.YtffmlijngfhhaaaGreatDoor
open Go
open Go.RowKit (Below)
set_option linter.unusedVariables false
set_option linter.unusedSimpArgs false
def HX (P : Program) (f : Nat) (ss : List SV) (h : Heap) {ι : Type} (G : Nat -> ι -> Prop) (r : ι -> SV) (h' : ι -> Heap) : Prop :=
  Callable P f /\ (∀ i, likeIn h (h' i)) /\ ∀ (w : World) (ok : Nat -> Prop) (σ : Nat -> Loc) (vs : Array Value), EnvH P σ h w -> (∀ b, ok b -> b < w.heap.size) -> Own σ h ok w -> RepSVs σ h ok w false vs.toList ss ->
    Calls P f vs w fun e w' => ∃ i, G w.heap.size i /\ ∃ v σ', e = .returned v /\ HEnd σ h ok w σ' (h' i) w' /\ RepSV σ' (h' i) (okn ok w σ' (h' i)) w' v (r i)
theorem op_hxcall {cx : Cx} {s : Slots} {H : Heap} {t ty : Nat} {pos : String} {af : Array Edge} {f : Operand} {args : Array Operand} {tys : Array TypeId} {g : Nat} {cap : List SV} {ss : List SV} {h : Heap} {ι : Type} {G : Nat -> ι -> Prop} {r : ι -> SV} {h' : ι -> Heap} (R1 R2 : List (Nat × Nat)) (i0 : ι)
    (hf : fnv (opv (lk s) f) = some (g, cap)) (ha : SV.rens R1 (args.toList.map (opv (lk s)) ++ cap) = ss) (hp : pickH R1 H = some h) (hc : HX cx.P g ss h G r h') (hcall : ∀ i, callOk R1 R2 (h' i) = true) (hd : Nat.blt t cx.nt = true) :
    ∀ a w, R cx (lk s) H a w -> ∀ (K : Act -> World -> Prop) (Q : Exit -> Act -> World -> Prop), (∀ i, G w.heap.size i -> ∀ a' w', R cx (lk ((t, (r i).ren R2) :: mapS (SV.kill (movedIds R1 R2)) s)) (renH R2 (h' i) ++ keepH (SV.kill (movedIds R1 R2)) (allIds R1 R2) H) a' w' -> K a' w') ->
      Oper.wp cx.P ⟨some t, .call { callee := .value f, args := args, argTypes := tys }, ty, pos, af, none⟩ a w K Q := by
  rintro a w ⟨σ, hr⟩ K Q hK
  obtain ⟨hcl, hlike, hspec⟩ := hc
  have hcall0 := hcall i0
  simp only [callOk, Bool.and_eq_true] at hcall0
  obtain ⟨⟨⟨⟨⟨⟨⟨n1, n2⟩, n3⟩, n4⟩, n5⟩, n6⟩, n7⟩, n8⟩ := hcall0
  replace n1 := nodupB_iff n1
  replace n2 := nodupB_iff n2
  replace n3 := nodupB_iff n3
  replace n4 := nodupB_iff n4
  obtain ⟨cs, hu, hcap⟩ := fnv_rep (rep_eval hr f) hf
  have hargs : RepSVs σ H (okf cx σ H) w false (args.map a.eval ++ cs).toList (args.toList.map (opv (lk s)) ++ cap) := by
    rw [Array.toList_append, map_toList_arr]
    refine RepSVs.append (RepSVs.mk (by simp) fun i v x hv hx => ⟨?_, by simp⟩) hcap
    rw [List.getElem?_map, Option.map_eq_some_iff] at hv hx
    obtain ⟨y, hy, rfl⟩ := hv
    obtain ⟨y', hy', rfl⟩ := hx
    have : y = y' := Option.some.inj (hy.symm.trans hy')
    subst this
    exact rep_eval hr y
  obtain ⟨p1, p2, p3⟩ := pickG_spec hp
  let σc : Nat -> Loc := fun j => match look (swap R1) j with
    | some i => σ i
    | none => ⟨0, 0, true, []⟩
  have hswap : ∀ p ∈ R1, look (swap R1) p.2 = some p.1 := fun p hp1 => look_of_mem (R := swap R1) (by rw [swap_fst]; exact n2) (p := (p.2, p.1)) (List.mem_map.2 ⟨p, hp1, rfl⟩)
  have hσc : ∀ p ∈ R1, σc p.2 = σ p.1 := fun p hp1 => by simp only [σc, hswap p hp1]
  have hnd : (h.map (·.1)).Nodup := by rw [p1]; exact n2
  let ok : Nat -> Prop := fun b => okf cx σ H b /\ b < w.heap.size
  have hR1 : ∀ i j, look R1 i = some j -> σc j = σ i /\ ∃ c c', H.get i = some c /\ h.get j = some c' /\ c.sim c' := fun i j hl => by
    have hm := look_mem hl
    obtain ⟨c, h1, h2⟩ := p2 _ hm
    exact ⟨hσc _ hm, c, _, h1, get_of_mem hnd h2, sim_mapc c⟩
  have toH : ∀ q ∈ h, ∃ p ∈ R1, ∃ c, p.2 = q.1 /\ H.get p.1 = some c /\ (p.1, c) ∈ H /\ q.2 = c.mapc (SV.ren R1) /\ blk (σc q.1) q.2 = blk (σ p.1) c := fun q hq => by
    obtain ⟨p, h1, c, h2, h3, h4⟩ := p3 q hq
    obtain ⟨p', m1, m2, m3⟩ := get_mem h3
    refine ⟨p, h1, c, h2, h3, ?_, h4, ?_⟩
    . have : p' = (p.1, c) := by rw [<- m2, <- m3]
      rw [<- this]; exact m1
    . rw [h4, blk_mapc, <- h2, hσc p h1]
  have henv : EnvH cx.P σc h w := ⟨hr.evo.env, fun q hq b hb => by
    obtain ⟨p, h1, c, h2, h3, h3', h4, h5⟩ := toH q hq
    rw [h5] at hb
    exact hr.heap.env _ h3' b hb⟩
  have hown : Own σc h ok w := by
    refine ⟨hnd, fun q hq => ?_, fun q hq q' hq' b hb hb' => ?_, fun q hq b hb => ?_, fun q hq => ?_⟩
    . obtain ⟨p, h1, c, h2, h3, h3', h4, h5⟩ := toH q hq
      rw [h5]; exact hr.heap.nd _ h3'
    . obtain ⟨p, h1, c, h2, h3, h3', h4, h5⟩ := toH q hq
      obtain ⟨p', h1', c', h2', h3'', h3''', h4', h5'⟩ := toH q' hq'
      rw [h5] at hb
      rw [h5'] at hb'
      have e := hr.heap.inj _ h3' _ h3''' b hb hb'
      simp only at e
      have e1 := look_of_mem n1 h1
      have e2 := look_of_mem n1 h1'
      rw [e, e2] at e1
      rw [<- h2, <- h2']
      exact (Option.some.inj e1).symm
    . obtain ⟨p, h1, c, h2, h3, h3', h4, h5⟩ := toH q hq
      rw [h5] at hb
      exact ⟨(hr.heap.mine _ h3' b hb).2.2, fun hok => hok.1.2 _ h3' hb⟩
    . obtain ⟨p, h1, c, h2, h3, h3', h4, h5⟩ := toH q hq
      rw [h4, <- h2, hσc p h1]
      exact RepChunk.mapc (hr.heap.rep _ h3') (fun b h1 h2 => ⟨⟨h1, h2⟩, rfl⟩) (fun v sv hv => RepSV.ren (fun b h1 h2 => ⟨h1, h2⟩) hR1 hv) fun _ _ => rfl
  have hargs' : RepSVs σc h ok w false (args.map a.eval ++ cs).toList ss := by
    rw [<- ha]
    exact RepSVs.ren (fun b h1 h2 => ⟨h1, h2⟩) hR1 hargs
  unfold Oper.wp
  rw [exec_call rfl hu hcl]
  rw [Oper.upon_enter]
  refine (hspec w ok σc _ henv (fun b hb => hb.2) hown (by simpa using hargs')).mono ?_
  rintro e w' ⟨i, hG, v, σ', rfl, hE, hv⟩
  have hcall := hcall i
  have hlike := hlike i
  clear n1 n2 n3 n4 n5 n6 n7 n8
  simp only [callOk, Bool.and_eq_true] at hcall
  obtain ⟨⟨⟨⟨⟨⟨⟨n1, n2⟩, n3⟩, n4⟩, n5⟩, n6⟩, n7⟩, n8⟩ := hcall
  replace n1 := nodupB_iff n1
  replace n2 := nodupB_iff n2
  replace n3 := nodupB_iff n3
  replace n4 := nodupB_iff n4
  have hK : ∀ i, G w.heap.size i -> _ := hK
  replace hK := hK i
  generalize h' i = hz at *
  generalize r i = rz at *
  have hswap2 : ∀ p ∈ R2, look (swap R2) p.2 = some p.1 := fun p hp2 => look_of_mem (R := swap R2) (by rw [swap_fst]; exact n4) (p := (p.2, p.1)) (List.mem_map.2 ⟨p, hp2, rfl⟩)
  let σ2 : Nat -> Loc := fun j => match look (swap R2) j with
    | some c => σ' c
    | none => σ j
  have hσ2 : ∀ i k, look R2 i = some k -> σ2 k = σ' i := fun i k hl => by simp only [σ2, hswap2 _ (look_mem hl)]
  have hinj2 : ∀ i j k, look R2 i = some k -> look R2 j = some k -> i = j := fun i j k h1 h2 => by
    have e1 := hswap2 _ (look_mem h1)
    have e2 := hswap2 _ (look_mem h2)
    simp only at e1 e2
    rw [e1] at e2
    exact Option.some.inj e2
  have hkind : ∀ i k, look R2 i = some k -> (i < 30000 /\ look R1 k = some i) \/ (30000 <= i /\ k < 10000) := fun i k hl => by
    have := List.all_eq_true.1 n6 _ (look_mem hl)
    simp only [Bool.or_eq_true, Bool.and_eq_true] at this
    rcases this with ⟨h1, h2⟩ | ⟨h1, h2⟩
    . left
      refine ⟨Nat.le_of_ble_eq_true h1, ?_⟩
      split at h2
      . rename_i c hcc; rw [hcc, Nat.eq_of_beq_eq_true h2]
      . cases h2
    . exact .inr ⟨Nat.le_of_ble_eq_true h1, Nat.le_of_ble_eq_true h2⟩
  have fromN : ∀ q ∈ renH R2 hz, ∃ p ∈ hz, look R2 p.1 = some q.1 /\ q.2 = p.2.mapc (SV.ren R2) /\ blk (σ2 q.1) q.2 = blk (σ' p.1) p.2 := fun q hq => by
    obtain ⟨p, h1, h2, h3⟩ := mem_renH hq
    exact ⟨p, h1, h2, h3, by rw [h3, blk_mapc, hσ2 _ _ h2]⟩
  have memN : ∀ p ∈ hz, ∀ k, look R2 p.1 = some k -> (k, p.2.mapc (SV.ren R2)) ∈ renH R2 hz := by
    have key : ∀ (l : Heap), ∀ p ∈ l, ∀ k, look R2 p.1 = some k -> (k, p.2.mapc (SV.ren R2)) ∈ renH R2 l := by
      intro l
      induction l with
      | nil => intro p hp; cases hp
      | cons q l ih =>
        intro p hp k hk
        simp only [renH]
        rcases List.mem_cons.1 hp with rfl | hp
        . rw [hk]; exact List.mem_cons_self ..
        . split
          . exact List.mem_cons_of_mem _ (ih p hp k hk)
          . exact ih p hp k hk
    exact key hz
  have hallK : ∀ i k, look R2 i = some k -> memB k (allIds R1 R2) = true := fun i k hl => memB_iff.2 (List.mem_append_right _ (List.mem_map.2 ⟨_, look_mem hl, rfl⟩))
  have hNn : ((renH R2 hz).map (·.1)).Nodup := renH_nodup hinj2 hE.nodup
  have getN : ∀ p ∈ hz, ∀ k, look R2 p.1 = some k -> (renH R2 hz).get k = some (p.2.mapc (SV.ren R2)) := fun p hp k hk => get_of_mem hNn (memN p hp k hk)
  have hmvd : ∀ j, memB j (movedIds R1 R2) = false -> memB j (allIds R1 R2) = true -> ∃ c, isAnc c = true /\ look R1 j = some c /\ ∃ c1 c2, (c, c1) ∈ h /\ hz.get c = some c2 /\ c1.like c2 /\ look R2 c = some j := fun j h1 h2 => by
    have h1' : j ∉ movedIds R1 R2 := fun hm => by rw [memB_iff.2 hm] at h1; cases h1
    have main : ∀ c, look R1 j = some c -> ∃ c, isAnc c = true /\ look R1 j = some c /\ ∃ c1 c2, (c, c1) ∈ h /\ hz.get c = some c2 /\ c1.like c2 /\ look R2 c = some j := fun c hl => by
      have hm := look_mem hl
      have hanc : isAnc c = true := by
        cases hb : isAnc c with
        | true => rfl
        | false => exact absurd (List.mem_append_left _ (List.mem_map.2 ⟨(j, c), List.mem_filter.2 ⟨hm, by simp [hb]⟩, rfl⟩)) h1'
      obtain ⟨c0, g1, g2⟩ := p2 _ hm
      obtain ⟨c2, g3, g4⟩ := hlike _ g2 hanc
      obtain ⟨q, q1, q2, q3⟩ := get_mem g3
      obtain ⟨k, hk⟩ := idsIn_all n7 q q1
      simp only at q2
      rw [q2] at hk
      rcases hkind c k hk with ⟨_, g5⟩ | ⟨g5, _⟩
      . have e1 := look_mem g5
        have : k = j := by
          have e2 := hswap _ e1
          have e3 := hswap _ hm
          simp only at e2 e3
          rw [e2] at e3
          exact Option.some.inj e3
        subst this
        exact ⟨c, hanc, hl, _, c2, g2, g3, g4, hk⟩
      . have : c < 20000 := by
          unfold isAnc at hanc
          simp only [Bool.and_eq_true] at hanc
          exact Nat.le_of_ble_eq_true hanc.2
        omega
    rcases List.mem_append.1 (memB_iff.1 h2) with hm | hm
    . obtain ⟨p, hp1, rfl⟩ := List.mem_map.1 hm
      exact main _ (look_of_mem n1 hp1)
    . obtain ⟨p, hp1, rfl⟩ := List.mem_map.1 hm
      rcases hkind _ _ (look_of_mem n3 hp1) with ⟨_, g⟩ | ⟨g, _⟩
      . exact main _ g
      . exact absurd (List.mem_append_right _ (List.mem_map.2 ⟨p, List.mem_filter.2 ⟨hp1, Nat.ble_eq_true_of_le g⟩, rfl⟩)) h1'
  have hsim : ∀ j, memB j (movedIds R1 R2) = false -> σ2 j = σ j /\ simO (H.get j) ((renH R2 hz ++ keepH (SV.kill (movedIds R1 R2)) (allIds R1 R2) H : Heap).get j) := fun j hj => by
    cases hall : memB j (allIds R1 R2) with
    | true =>
      obtain ⟨c, hanc, g1, c1, c2, g2, g3, g4, g5⟩ := hmvd j hj hall
      obtain ⟨q, q1, q2, q3⟩ := get_mem g3
      have hm := look_mem g1
      refine ⟨?_, ?_⟩
      . rw [hσ2 c j g5]
        have := hE.anc q q1 (by rw [q2]; exact hanc)
        rw [q2] at this
        rw [this]
        exact hσc _ hm
      . rw [get_append_some (getN q q1 j (by rw [q2]; exact g5))]
        obtain ⟨c0, k1, k2⟩ := p2 _ hm
        rw [k1]
        simp only at k2
        have := get_of_mem hnd g2
        rw [get_of_mem hnd k2] at this
        simp only [Option.some.injEq] at this
        rw [q3]
        have s1 := like_sim g4
        rw [<- this] at s1
        revert s1
        cases c0 <;> cases c2 <;> simp [Chunk.sim, Chunk.mapc, simO]
    | false =>
      have hno : look (swap R2) j = none := by
        cases hl : look (swap R2) j with
        | none => rfl
        | some c =>
          have := look_mem hl
          obtain ⟨p, hp1, e⟩ := List.mem_map.1 this
          cases e
          have h5 : memB p.2 (allIds R1 R2) = true := memB_iff.2 (List.mem_append_right _ (List.mem_map.2 ⟨p, hp1, rfl⟩))
          rw [h5] at hall
          cases hall
      refine ⟨by simp only [σ2, hno], ?_⟩
      refine simO_keep (fun p hp => ?_) j hall
      obtain ⟨p', h1, h2, _⟩ := fromN p hp
      exact hallK _ _ h2
  have hσk : ∀ j, memB j (allIds R1 R2) = false -> σ2 j = σ j := fun j hj => by
    have hno : look (swap R2) j = none := by
      cases hl : look (swap R2) j with
      | none => rfl
      | some c =>
        obtain ⟨p, hp1, e⟩ := List.mem_map.1 (look_mem hl)
        cases e
        have h5 : memB p.2 (allIds R1 R2) = true := memB_iff.2 (List.mem_append_right _ (List.mem_map.2 ⟨p, hp1, rfl⟩))
        rw [h5] at hj
        cases hj
    simp only [σ2, hno]
  have hR2 : ∀ i k, look R2 i = some k -> σ2 k = σ' i /\ ∃ c c', hz.get i = some c /\ (renH R2 hz ++ keepH (SV.kill (movedIds R1 R2)) (allIds R1 R2) H : Heap).get k = some c' /\ c.sim c' := fun i k hl => by
    have := List.all_eq_true.1 n8 _ (look_mem hl)
    obtain ⟨c, hcg⟩ := Option.isSome_iff_exists.1 this
    obtain ⟨q, q1, q2, q3⟩ := get_mem hcg
    simp only at q2
    subst q2
    refine ⟨hσ2 _ _ hl, c, _, hcg, get_append_some (getN q q1 k hl), ?_⟩
    rw [<- q3]
    exact sim_mapc _
  have toOk : (∀ b, okf cx σ H b -> b < w.heap.size -> okf cx σ2 (renH R2 hz ++ keepH (SV.kill (movedIds R1 R2)) (allIds R1 R2) H) b) -> ∀ b, okn ok w σ' hz b -> okf cx σ2 (renH R2 hz ++ keepH (SV.kill (movedIds R1 R2)) (allIds R1 R2) H) b := fun hok b hb => by
    rcases hb.1 with hb1 | hb1
    . exact hok b hb1.1 hb1.2
    . refine ⟨.inr (Nat.le_trans hr.evo.size hb1), fun p hp hbb => ?_⟩
      rcases List.mem_append.1 hp with hp | hp
      . obtain ⟨p', h1, h2, h3, h4⟩ := fromN p hp
        rw [h4] at hbb
        exact hb.2 _ h1 hbb
      . obtain ⟨h1, c, h2, h3⟩ := mem_keepH hp
        rw [h3, blk_mapc, hσk _ h1] at hbb
        have := (hr.heap.mine _ h2 b hbb).2.2
        omega
  have hRW := hr.upd (σ' := σ2) (w' := w') (allIds R1 R2) (renH R2 hz) (SV.kill (movedIds R1 R2))
    (fun p hp => by obtain ⟨p', h1, h2, _⟩ := fromN p hp; exact hallK _ _ h2) hNn
    hσk
    hE.os hE.tape hE.output hE.size
    (fun b hb hno => hE.frame b hb fun q hq hbb => by
      obtain ⟨p, h1, c, h2, h3, h3', h4, h5⟩ := toH q hq
      rw [h5] at hbb
      exact hno _ h3' (memB_iff.2 (List.mem_append_left _ (List.mem_map.2 ⟨p, h1, rfl⟩))) hbb)
    (fun p hp => by obtain ⟨p', h1, h2, h3, h4⟩ := fromN p hp; rw [h4]; exact hE.nd _ h1)
    (fun p hp q hq b hb hb' => by
      obtain ⟨p', h1, h2, h3, h4⟩ := fromN p hp
      obtain ⟨q', g1, g2, g3, g4⟩ := fromN q hq
      rw [h4] at hb
      rw [g4] at hb'
      have := hE.inj _ h1 _ g1 b hb hb'
      rw [this, g2] at h2
      exact (Option.some.inj h2).symm)
    (fun p hp b hb => by
      obtain ⟨p', h1, h2, h3, h4⟩ := fromN p hp
      rw [h4] at hb
      obtain ⟨m1, m2⟩ := hE.mine _ h1 b hb
      refine ⟨m1, m2.imp (fun h => h) ?_⟩
      rintro ⟨m3, c, m4, m5⟩
      rcases hkind _ _ h2 with ⟨_, g5⟩ | ⟨g5, _⟩
      . have hm := look_mem g5
        obtain ⟨c0, k1, k2⟩ := p2 _ hm
        have := get_of_mem hnd k2
        simp only at this
        rw [m4] at this
        simp only [Option.some.injEq] at this
        obtain ⟨q, q1, q2, q3⟩ := get_mem k1
        refine ⟨q, q1, memB_iff.2 (List.mem_append_left _ (List.mem_map.2 ⟨_, hm, q2.symm⟩)), ?_, .inr (.inl q2)⟩
        rw [this, blk_mapc, hσc _ hm] at m5
        rw [q2, q3]
        exact m5
      . omega)
    (fun p hp hanc => by
      obtain ⟨p', h1, h2, h3, h4⟩ := fromN p hp
      rcases hkind _ _ h2 with ⟨_, g5⟩ | ⟨_, g5⟩
      . have hm := look_mem g5
        obtain ⟨c0, k1, k2⟩ := p2 _ hm
        obtain ⟨q, q1, q2, q3⟩ := get_mem k1
        have ha1 := hr.heap.anc q q1 (by rw [q2]; exact hanc)
        rw [q2] at ha1
        rw [hσ2 _ _ h2, <- ha1]
        have hpc : isAnc p'.1 = true := by
          have := List.all_eq_true.1 n5 _ hm
          simp only [Bool.and_eq_true, Bool.or_eq_true, Bool.not_eq_true'] at this
          rcases this.2 with h6 | h6
          . rw [hanc] at h6; cases h6
          . exact h6
        rw [hE.anc _ h1 hpc]
        exact hσc _ hm
      . unfold isAnc at hanc
        simp only [Bool.and_eq_true] at hanc
        have := Nat.le_of_ble_eq_true hanc.1
        omega)
    (fun hok v sv hv => RepSV.kill hok (fun j hj => (hsim j hj).1) (fun j hj => (hsim j hj).2) hv)
    (fun hok p hp => by
      obtain ⟨p', h1, h2, h3, h4⟩ := fromN p hp
      rw [h3, hσ2 _ _ h2]
      exact RepChunk.mapc (hE.rep p' h1) (fun b k1 k2 => ⟨toOk (fun b k1 k2 => (hok b k1 k2).1) b k1, rfl⟩) (fun v sv hv => RepSV.ren (fun b k1 _ => toOk (fun b k1 k2 => (hok b k1 k2).1) b k1) hR2 hv) fun _ _ => rfl)
  have hok : ∀ b, okf cx σ H b -> b < w.heap.size -> okf cx σ2 (renH R2 hz ++ keepH (SV.kill (movedIds R1 R2)) (allIds R1 R2) H) b := fun b hb hbl => by
    refine ⟨hb.1, fun p hp => ?_⟩
    intro hbb
    rcases List.mem_append.1 hp with hp | hp
    . obtain ⟨p', h1, h2, h3, h4⟩ := fromN p hp
      rw [h4] at hbb
      rcases (hE.mine _ h1 b hbb).2 with m | ⟨_, c, m4, m5⟩
      . omega
      . obtain ⟨q, q1, q2, q3⟩ := get_mem m4
        have := (hown.mine q q1 b (by rw [q2, q3]; exact m5)).2
        exact this ⟨hb, hbl⟩
    . obtain ⟨h1, c, h2, h3⟩ := mem_keepH hp
      rw [h3, blk_mapc, hσk _ h1] at hbb
      exact hb.2 _ h2 hbb
  have hv' : RepSV σ2 (renH R2 hz ++ keepH (SV.kill (movedIds R1 R2)) (allIds R1 R2) H) (okf cx σ2 (renH R2 hz ++ keepH (SV.kill (movedIds R1 R2)) (allIds R1 R2) H)) w' v (rz.ren R2) :=
    RepSV.ren (fun b k1 _ => toOk hok b k1) hR2 hv
  have := hRW.put (dst := some t) (dstOk_lt hd) hv'
  refine hK hG _ _ ⟨σ2, ?_⟩
  have e : lk ((t, rz.ren R2) :: mapS (SV.kill (movedIds R1 R2)) s) = fput (fun t => SV.kill (movedIds R1 R2) (lk s t)) (some t) (rz.ren R2) := by
    funext u
    simp only [lk, fput, upd]
    split
    . rfl
    . exact lk_mapS rfl s u
  rw [e]
  exact this
section
variable {cx : Cx} {ops : Array Oper} {rest : List Oper} {s : Slots} {h : Heap} {Q : Exit -> Slots -> Heap -> Prop}
theorem hxl {t ty : Nat} {pos : String} {af : Array Edge} {f : Operand} {args : Array Operand} {tys : Array TypeId} {g : Nat} {cap : List SV} {ss : List SV} {H h : Heap} {ι : Type} {G : Nat -> ι -> Prop} {r : ι -> SV} {h' : ι -> Heap} (R1 R2 : List (Nat × Nat)) (i0 : ι)
    (hc : HX cx.P g ss h G r h') (hG : ∀ n m i, n <= m -> G m i -> G n i) (hn : ∀ i, G cx.w0.heap.size i -> awpL cx ops rest ((t, (r i).ren R2) :: mapS (SV.kill (movedIds R1 R2)) s) (renH R2 (h' i) ++ keepH (SV.kill (movedIds R1 R2)) (allIds R1 R2) H) Q)
    (hf : fnv (opv (lk s) f) = some (g, cap) := by exact rfl) (ha : SV.rens R1 (args.toList.map (opv (lk s)) ++ cap) = ss := by exact rfl) (hp : pickH R1 H = some h := by exact rfl) (hcall : ∀ i, callOk R1 R2 (h' i) = true := by exact fun _ => rfl) (hd : Nat.blt t cx.nt = true := by exact rfl) :
    awpL cx ops (⟨some t, .call { callee := .value f, args := args, argTypes := tys }, ty, pos, af, none⟩ :: rest) s H Q := fun a w hr => by
  unfold wpList
  rw [if_pos (by simp [Region.wanted])]
  refine .inl (op_hxcall R1 R2 i0 hf ha hp hc hcall hd a w hr _ _ fun i hi a' w' hr' => hn i (hG _ _ i ?_ hi) a' w' hr')
  obtain ⟨σ, hr⟩ := hr
  exact Nat.le_trans cx.nwle hr.evo.size
end
end Go.Proofs.YtffmlijngfhhaaaGreatDoor
namespace Go.Proofs.YtffmlijngfhhaaaGreatDoor
open Go
open Go.RowKit (Below)
set_option linter.unusedVariables false
set_option linter.unusedSimpArgs false
section
variable {cx : Cx} {ops : Array Oper}
end
end Go.Proofs.YtffmlijngfhhaaaGreatDoor
