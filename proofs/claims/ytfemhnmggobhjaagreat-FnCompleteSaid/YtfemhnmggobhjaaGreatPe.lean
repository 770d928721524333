/- Contracts of FirstFailing and Passes, in the program and in the reference. No condition. -/
import Derived.Test.YtfemhnmggobhjaaGreatPb
import Derived.Test.YtfemhnmggobhjaaGreatKf
import Derived.Test.YtfemhnmggobhjaaGreatNh
import Derived.Test.YtfemhnmggobhjaaGreatCa
import Derived.Test.YtfemhnmggobhjaaGreatFwY
namespace Go.Proofs.YtfemhnmggobhjaaGreat
open Go
attribute [local irreducible] awp awpL awpQL awpQ awpM pWalk Qt AC thenQ blockQ loopQ OpTo
set_option linter.unusedVariables false
set_option linter.unusedSimpArgs false
set_option maxHeartbeats 2000000
def twoC (s o s' o' : Int) (nx ou nx' ou' ws : List (List Int)) : Int := if machOk s o nx ou && machOk s' o' nx' ou' then (if decide (o = o') && (decide ((nx.length : Int) = nx'.length) && suiteOk nx.length ws) then 0 else 2) else 1
theorem twoC_facts {s o s' o' : Int} {nx ou nx' ou' ws : List (List Int)} (h : twoC s o s' o' nx ou nx' ou' ws = 0) : MV s o nx ou /\ MV s' o' nx' ou' /\ o = o' /\ nx'.length = nx.length /\ ws.length <= 400 /\ ∀ w ∈ ws, w.length <= 400 /\ ∀ l ∈ w, 0 <= l /\ l < nx.length := by
  unfold twoC at h
  split at h
  . rename_i h1
    split at h
    . rename_i h2
      simp only [Bool.and_eq_true, decide_eq_true_eq] at h1 h2
      obtain ⟨k1, k2⟩ := suite_of h2.2.2
      exact ⟨mv_of h1.1, mv_of h1.2, h2.1, by omega, k1, k2⟩
    . omega
  . omega
def ffD (s o s' o' : Int) (nx ou nx' ou' ws : List (List Int)) : Int × Int × Int :=
  if twoC s o s' o' nx ou nx' ou' ws = 0 then (if (failS nx ou nx' ou' 0 ws).1 < 0 then (0, 0, 6) else ((failS nx ou nx' ou' 0 ws).1, (failS nx ou nx' ou' 0 ws).2, 0)) else (0, 0, twoC s o s' o' nx ou nx' ou' ws)
theorem impl_FirstFailing {s o s' o' : Int} {nx ou nx' ou' ws : List (List Int)} (h1 : RowsOk nx) (h2 : RowsOk ou) (h3 : RowsOk nx') (h4 : RowsOk ou') (h5 : RowsOk ws) :
    AC Tryz.prog 80 [mach s o nx ou, mach s' o' nx' ou', rows ws] (.tup [.int .i64 (ffD s o s' o' nx ou nx' ou' ws).1, .int .i64 (ffD s o s' o' nx ou nx' ou' ws).2.1, .int .i64 (ffD s o s' o' nx ou nx' ou' ws).2.2]) := by
  have e1 := impl_ValidMachine (s := s) (o := o) h1 h2
  have e2 := impl_ValidMachine (s := s') (o := o') h3 h4
  have e3 := impl_isSuite (s := s) (o := o) (ou := ou) h1.2 h5
  have e4 := impl_alike (s := s) (o := o) (s' := s') (o' := o') (nx := nx) (ou := ou) (nx' := nx') (ou' := ou')
  unfold ffD
  by_cases hc : twoC s o s' o' nx ou nx' ou' ws = 0
  . obtain ⟨m, n, ho, he, hws, hw⟩ := twoC_facts hc
    have e5 := impl_failing m n he hws hw
    rw [if_pos hc]
    have hm : machOk s o nx ou = true /\ machOk s' o' nx' ou' = true /\ decide (o = o') = true /\ decide ((nx.length : Int) = nx'.length) = true /\ suiteOk nx.length ws = true := by
      unfold twoC at hc
      split at hc
      . rename_i g1
        split at hc
        . rename_i g2
          simp only [Bool.and_eq_true] at g1 g2
          exact ⟨g1.1, g1.2, g2.1, g2.2.1, g2.2.2⟩
        . omega
      . omega
    obtain ⟨g1, g2, g3, g4, g5⟩ := hm
    rw [g1] at e1
    rw [g2] at e2
    rw [g5] at e3
    rw [g3, g4] at e4
    by_cases hd : (failS nx ou nx' ou' 0 ws).1 < 0
    . rw [if_pos hd]
      unfold mach at *
      refine ac_intro tabIs _ Tryz.func80 rfl rfl Tryz.ntmps80 rfl rfl fun w0 ok0 he0 => ?_
      repeat (first | refine zc ?_ | refine zk (e := by exact e1) (n := ?_) | refine zk (e := by exact e2) (n := ?_) | refine zk (e := by exact e3) (n := ?_) | refine zk (e := by exact e4) (n := ?_) | refine zk (e := by exact e5) (n := ?_) | refine zv ?_)
      refine zt ?_
      rfl
    . rw [if_neg hd]
      unfold mach at *
      refine ac_intro tabIs _ Tryz.func80 rfl rfl Tryz.ntmps80 rfl rfl fun w0 ok0 he0 => ?_
      repeat (first | refine zc ?_ | refine zk (e := by exact e1) (n := ?_) | refine zk (e := by exact e2) (n := ?_) | refine zk (e := by exact e3) (n := ?_) | refine zk (e := by exact e4) (n := ?_) | refine zk (e := by exact e5) (n := ?_) | refine zv ?_)
      refine zt ?_
      rfl
  . rw [if_neg hc]
    unfold twoC at *
    cases g1 : machOk s o nx ou
    . rw [g1] at e1
      unfold mach at *
      refine ac_intro tabIs _ Tryz.func80 rfl rfl Tryz.ntmps80 rfl rfl fun w0 ok0 he0 => ?_
      repeat (first | refine zc ?_ | refine zk (e := by exact e1) (n := ?_) | refine zv ?_)
      refine zt ?_
      simp
    . rw [g1] at e1
      cases g2 : machOk s' o' nx' ou'
      . rw [g2] at e2
        unfold mach at *
        refine ac_intro tabIs _ Tryz.func80 rfl rfl Tryz.ntmps80 rfl rfl fun w0 ok0 he0 => ?_
        repeat (first | refine zc ?_ | refine zk (e := by exact e1) (n := ?_) | refine zk (e := by exact e2) (n := ?_) | refine zv ?_)
        refine zt ?_
        simp
      . rw [g2] at e2
        cases g4 : (decide (o = o') && decide ((nx.length : Int) = nx'.length))
        . rw [g4] at e4
          unfold mach at *
          refine ac_intro tabIs _ Tryz.func80 rfl rfl Tryz.ntmps80 rfl rfl fun w0 ok0 he0 => ?_
          repeat (first | refine zc ?_ | refine zk (e := by exact e1) (n := ?_) | refine zk (e := by exact e2) (n := ?_) | refine zk (e := by exact e4) (n := ?_) | refine zv ?_)
          refine zt ?_
          rw [<- Bool.and_assoc, g4]
          simp
        . rw [g4] at e4
          cases g5 : suiteOk nx.length ws
          . rw [g5] at e3
            unfold mach at *
            refine ac_intro tabIs _ Tryz.func80 rfl rfl Tryz.ntmps80 rfl rfl fun w0 ok0 he0 => ?_
            repeat (first | refine zc ?_ | refine zk (e := by exact e1) (n := ?_) | refine zk (e := by exact e2) (n := ?_) | refine zk (e := by exact e3) (n := ?_) | refine zk (e := by exact e4) (n := ?_) | refine zv ?_)
            refine zt ?_
            simp
          . rw [g1, g2, <- Bool.and_assoc, g4, g5] at hc
            simp at hc
end Go.Proofs.YtfemhnmggobhjaaGreat
namespace Go.Proofs.YtfemhnmggobhjaaGreat
open Go
attribute [local irreducible] awp awpL awpQL awpQ awpM pWalk Qt AC thenQ blockQ loopQ OpTo
set_option linter.unusedVariables false
set_option linter.unusedSimpArgs false
set_option maxHeartbeats 2000000
theorem twoC_range (s o s' o' : Int) (nx ou nx' ou' ws : List (List Int)) : twoC s o s' o' nx ou nx' ou' ws = 0 \/ twoC s o s' o' nx ou nx' ou' ws = 1 \/ twoC s o s' o' nx ou nx' ou' ws = 2 := by
  unfold twoC
  split
  . split
    . exact .inl rfl
    . exact .inr (.inr rfl)
  . exact .inr (.inl rfl)
def psD (s o s' o' : Int) (nx ou nx' ou' ws : List (List Int)) : Bool × Int :=
  if twoC s o s' o' nx ou nx' ou' ws = 0 then (decide ((failS nx ou nx' ou' 0 ws).1 < 0), 0) else (false, twoC s o s' o' nx ou nx' ou' ws)
theorem impl_Passes {s o s' o' : Int} {nx ou nx' ou' ws : List (List Int)} (h1 : RowsOk nx) (h2 : RowsOk ou) (h3 : RowsOk nx') (h4 : RowsOk ou') (h5 : RowsOk ws) :
    AC Tryz.prog 33 [mach s o nx ou, mach s' o' nx' ou', rows ws] (.tup [.bool (psD s o s' o' nx ou nx' ou' ws).1, .int .i64 (psD s o s' o' nx ou nx' ou' ws).2]) := by
  have e1 := impl_FirstFailing (s := s) (o := o) (s' := s') (o' := o') h1 h2 h3 h4 h5
  unfold psD
  unfold ffD at e1
  by_cases hc : twoC s o s' o' nx ou nx' ou' ws = 0
  . rw [if_pos hc] at e1 ⊢
    by_cases hd : (failS nx ou nx' ou' 0 ws).1 < 0
    . rw [if_pos hd] at e1
      unfold mach at *
      refine ac_intro tabIs _ Tryz.func33 rfl rfl Tryz.ntmps33 rfl rfl fun w0 ok0 he0 => ?_
      repeat (first | refine zc ?_ | refine zk (e := by exact e1) (n := ?_) | refine zv ?_)
      refine zt ?_
      simp [hd]
    . rw [if_neg hd] at e1
      unfold mach at *
      refine ac_intro tabIs _ Tryz.func33 rfl rfl Tryz.ntmps33 rfl rfl fun w0 ok0 he0 => ?_
      repeat (first | refine zc ?_ | refine zk (e := by exact e1) (n := ?_) | refine zv ?_)
      refine zt ?_
      simp [hd]
  . rw [if_neg hc] at e1 ⊢
    rcases twoC_range s o s' o' nx ou nx' ou' ws with g | g | g
    . exact absurd g hc
    . rw [g] at e1 ⊢
      unfold mach at *
      refine ac_intro tabIs _ Tryz.func33 rfl rfl Tryz.ntmps33 rfl rfl fun w0 ok0 he0 => ?_
      repeat (first | refine zc ?_ | refine zk (e := by exact e1) (n := ?_) | refine zv ?_)
      refine zt ?_
      rfl
    . rw [g] at e1 ⊢
      unfold mach at *
      refine ac_intro tabIs _ Tryz.func33 rfl rfl Tryz.ntmps33 rfl rfl fun w0 ok0 he0 => ?_
      repeat (first | refine zc ?_ | refine zk (e := by exact e1) (n := ?_) | refine zv ?_)
      refine zt ?_
      rfl
end Go.Proofs.YtfemhnmggobhjaaGreat
namespace Go.Proofs.YtfemhnmggobhjaaGreat
open Go
attribute [local irreducible] awp awpL awpQL awpQ awpM pWalk Qt AC thenQ blockQ loopQ OpTo
set_option linter.unusedVariables false
set_option linter.unusedSimpArgs false
set_option maxHeartbeats 2000000
attribute [local irreducible] HC
theorem SuOk.rows {n : Nat} {ws : List (List Int)} (h : SuOk n ws) (hn : n <= 1000) : RowsOk ws :=
  ⟨fun w hw => ⟨fun l hl => by have := (h.all w hw).2 l hl; exact ⟨by omega, by omega⟩, by have := (h.all w hw).1; omega⟩, by have := h.len; omega⟩
section
variable {s o k : Int} {nx ou ws os : List (List Int)}
theorem mutD_v (m : MV s o nx ou) : mutD s o nx ou = (mutN s o nx.length, 0) := if_pos (machOk_mv m)
theorem psD_v {s' : Int} {nx' ou' : List (List Int)} (m : MV s o nx ou) (m' : MV s' o nx' ou') (hn : nx'.length = nx.length) (h : SuOk nx.length ws) : psD s o s' o nx ou nx' ou' ws = (decide ((failS nx ou nx' ou' 0 ws).1 < 0), 0) := by
  have : twoC s o s' o nx ou nx' ou' ws = 0 := by
    unfold twoC
    rw [if_pos (by rw [machOk_mv m, machOk_mv m']; rfl), if_pos (by rw [suiteOk_su h, hn]; simp)]
  unfold psD
  rw [if_pos this]
theorem impl_MutantCountV (m : MV s o nx ou) : AC Tryz.prog 36 [mach s o nx ou] (.tup [.int .i64 (mutN s o nx.length), .int .i64 0]) := by
  have := impl_MutantCount (s := s) (o := o) m.rnx m.rou
  rwa [mutD_v m] at this
theorem impl_PassesV {s' : Int} {nx' ou' : List (List Int)} (m : MV s o nx ou) (m' : MV s' o nx' ou') (hn : nx'.length = nx.length) (h : SuOk nx.length ws) :
    AC Tryz.prog 33 [mach s o nx ou, mach s' o nx' ou', rows ws] (.tup [.bool (decide ((failS nx ou nx' ou' 0 ws).1 < 0)), .int .i64 0]) := by
  have := impl_Passes (s := s) (o := o) (s' := s') (o' := o) m.rnx m.rou m'.rnx m'.rou (h.rows (by have := m.n1; omega))
  rwa [psD_v m m' hn h] at this
end
theorem failW_same (nx ou nx' ou' : List (List Int)) : ∀ (w : List Int) (s t : Int) (k : Nat), failW nx ou nx' ou' s t k w < 0 ↔ runO nx ou s w = runO nx' ou' t w
  | [], s, t, k => by simp [failW, runO]
  | l :: w, s, t, k => by
    simp only [failW, runO, List.cons.injEq]
    split
    . rename_i h
      rw [failW_same nx ou nx' ou' w _ _ (k + 1)]
      simp [h]
    . rename_i h
      simp [h]
theorem failS_same (nx ou nx' ou' : List (List Int)) : ∀ (ws : List (List Int)) (i : Nat), (failS nx ou nx' ou' i ws).1 < 0 ↔ ws.map (runO nx ou 0) = ws.map (runO nx' ou' 0)
  | [], i => by simp [failS]
  | w :: ws, i => by
    have h := failW_same nx ou nx' ou' w 0 0 0
    simp only [failS, List.map_cons, List.cons.injEq]
    split
    . rename_i hc
      rw [failS_same nx ou nx' ou' ws (i + 1), <- h]
      simp [hc]
    . rename_i hc
      rw [<- h]
      simp [hc]
end Go.Proofs.YtfemhnmggobhjaaGreat
namespace Go.Proofs.YtfemhnmggobhjaaGreat
open Go
attribute [local irreducible] awp awpL awpQL awpQ awpM pWalk Qt AC thenQ blockQ loopQ OpTo
set_option linter.unusedVariables false
set_option linter.unusedSimpArgs false
set_option maxHeartbeats 2000000
attribute [local irreducible] HC
def lkX (code : List Int) (S O s : Int) (r ro : List Int) (x : Nat) (u : Src) : Int × Int × Src :=
  if (x : Int) < s then
    (if pickV code 5 (pickS code O (pickS code S u)) = 0 then (pickV code S u, pickV code O (pickS code S u), pickS code 5 (pickS code O (pickS code S u)))
    else (min (r.getD x 0) (S - 1), ro.getD x 0, pickS code 5 (pickS code O (pickS code S u))))
  else (pickV code S u, pickV code O (pickS code S u), pickS code O (pickS code S u))
def lkR (code : List Int) (S O s : Int) (r ro : List Int) (u : Src) : Nat -> List Int × List Int × Src
  | 0 => ([], [], u)
  | x + 1 => ((lkR code S O s r ro u x).1 ++ [(lkX code S O s r ro x (lkR code S O s r ro u x).2.2).1], (lkR code S O s r ro u x).2.1 ++ [(lkX code S O s r ro x (lkR code S O s r ro u x).2.2).2.1], (lkX code S O s r ro x (lkR code S O s r ro u x).2.2).2.2)
def lkT (code : List Int) (S O s : Int) (nx ou : List (List Int)) (u : Src) : Nat -> List (List Int) × List (List Int) × Src
  | 0 => ([], [], u)
  | k + 1 => ((lkT code S O s nx ou u k).1 ++ [(lkR code S O s (nx.getD k []) (ou.getD k []) (lkT code S O s nx ou u k).2.2 S.toNat).1], (lkT code S O s nx ou u k).2.1 ++ [(lkR code S O s (nx.getD k []) (ou.getD k []) (lkT code S O s nx ou u k).2.2 S.toNat).2.1], (lkR code S O s (nx.getD k []) (ou.getD k []) (lkT code S O s nx ou u k).2.2 S.toNat).2.2)
def lkS (code : List Int) (most : Int) : Int := 1 + pickV code most ⟨0, 0⟩
def lkM (code : List Int) (most s o : Int) (nx ou : List (List Int)) : List (List Int) × List (List Int) × Src := lkT code (lkS code most) o s nx ou (pickS code most ⟨0, 0⟩) nx.length
section
variable {code : List Int} {S O s : Int} {r ro : List Int} {nx ou : List (List Int)} {u : Src}
theorem lkX_ok {x k : Nat} (h : SOk u k) : SOk (lkX code S O s r ro x u).2.2 (k + 6) := by
  have h1 := pick_ok (code := code) (n := O) (pick_ok (code := code) (n := S) h)
  unfold lkX
  split
  . split
    . exact pick_ok (n := 5) h1
    . exact pick_ok (n := 5) h1
  . exact h1.mono (by omega)
theorem lkX_el {x : Nat} (hb : BytesOk code) (hS : 1 <= S) (hO : 1 <= O) (h1 : (x : Int) < s -> 0 <= r.getD x 0) (h2 : (x : Int) < s -> 0 <= ro.getD x 0 /\ ro.getD x 0 < O) :
    (0 <= (lkX code S O s r ro x u).1 /\ (lkX code S O s r ro x u).1 < S) /\ (0 <= (lkX code S O s r ro x u).2.1 /\ (lkX code S O s r ro x u).2.1 < O) := by
  have p1 := pick_range (s := u) hb hS
  have p2 := pick_range (s := pickS code S u) hb hO
  unfold lkX
  split
  . rename_i hx
    have := h1 hx
    have := h2 hx
    split
    . exact ⟨p1, p2⟩
    . exact ⟨by show 0 <= min (r.getD x 0) (S - 1) /\ min (r.getD x 0) (S - 1) < S; omega, by assumption⟩
  . exact ⟨p1, p2⟩
theorem lkR_len : ∀ x, (lkR code S O s r ro u x).1.length = x /\ (lkR code S O s r ro u x).2.1.length = x
  | 0 => ⟨rfl, rfl⟩
  | x + 1 => by have := lkR_len x; simp [lkR, this.1, this.2]
theorem lkR_ok {k : Nat} (h : SOk u k) : ∀ x, SOk (lkR code S O s r ro u x).2.2 (k + 6 * x)
  | 0 => h
  | x + 1 => (lkX_ok (lkR_ok h x)).mono (by omega)
theorem lkR_el (hb : BytesOk code) (hS : 1 <= S) (hO : 1 <= O) (h1 : Rg s s r) (h2 : Rg s O ro) : ∀ x, (∀ v ∈ (lkR code S O s r ro u x).1, 0 <= v /\ v < S) /\ ∀ v ∈ (lkR code S O s r ro u x).2.1, 0 <= v /\ v < O
  | 0 => ⟨(fun _ h => by cases h), (fun _ h => by cases h)⟩
  | x + 1 => by
    have ih := lkR_el hb hS hO h1 h2 x
    have e := lkX_el (u := (lkR code S O s r ro u x).2.2) (x := x) (s := s) (r := r) (ro := ro) hb hS hO (fun hx => by have := rg_at h1 (q := (x : Int)) ⟨by omega, hx⟩; simpa using this.1) (fun hx => by have := rg_at h2 (q := (x : Int)) ⟨by omega, hx⟩; simpa using this)
    refine ⟨fun v hv => ?_, fun v hv => ?_⟩
    . rcases List.mem_append.1 hv with hv | hv
      . exact ih.1 v hv
      . simp only [List.mem_singleton] at hv; subst hv; exact e.1
    . rcases List.mem_append.1 hv with hv | hv
      . exact ih.2 v hv
      . simp only [List.mem_singleton] at hv; subst hv; exact e.2
theorem lkT_len : ∀ k, (lkT code S O s nx ou u k).1.length = k /\ (lkT code S O s nx ou u k).2.1.length = k
  | 0 => ⟨rfl, rfl⟩
  | k + 1 => by have := lkT_len k; simp [lkT, this.1, this.2]
theorem lkT_ok {n : Nat} (hS : S <= 10) (h : SOk u n) : ∀ k, SOk (lkT code S O s nx ou u k).2.2 (n + 60 * k)
  | 0 => h
  | k + 1 => (lkR_ok (lkT_ok hS h k) S.toNat).mono (by omega)
theorem lkT_el (m : MV s O nx ou) (hb : BytesOk code) (hS : 1 <= S) : ∀ k, k <= nx.length -> Tbl S S (lkT code S O s nx ou u k).1 /\ Tbl S O (lkT code S O s nx ou u k).2.1
  | 0, _ => ⟨(fun _ h => by cases h), (fun _ h => by cases h)⟩
  | k + 1, hk => by
    have ih := lkT_el m hb hS k (by omega)
    have g1 : Rg s s (nx.getD k []) := rg_tbl.1 m.nx k (by omega)
    have g2 : Rg s O (ou.getD k []) := rg_tbl.1 m.ou k (by have := m.eq; omega)
    have e := lkR_el (u := (lkT code S O s nx ou u k).2.2) hb hS m.o1.1 g1 g2 S.toNat
    have l := lkR_len (code := code) (S := S) (O := O) (s := s) (r := nx.getD k []) (ro := ou.getD k []) (u := (lkT code S O s nx ou u k).2.2) S.toNat
    refine ⟨fun v hv => ?_, fun v hv => ?_⟩
    . rcases List.mem_append.1 hv with hv | hv
      . exact ih.1 v hv
      . simp only [List.mem_singleton] at hv; subst hv; exact ⟨by rw [l.1]; omega, e.1⟩
    . rcases List.mem_append.1 hv with hv | hv
      . exact ih.2 v hv
      . simp only [List.mem_singleton] at hv; subst hv; exact ⟨by rw [l.2]; omega, e.2⟩
end
theorem lkS_range {code : List Int} {most : Int} (hb : BytesOk code) (hm : 1 <= most) : 1 <= lkS code most /\ lkS code most <= most := by
  have := pick_range (s := ⟨0, 0⟩) hb hm
  unfold lkS; omega
theorem mv_lk {code : List Int} {most s o : Int} {nx ou : List (List Int)} (m : MV s o nx ou) (hb : BytesOk code) (hm : 1 <= most /\ most <= 10) : MV (lkS code most) o (lkM code most s o nx ou).1 (lkM code most s o nx ou).2.1 /\ (lkM code most s o nx ou).1.length = nx.length := by
  have hS := lkS_range hb hm.1
  have l := lkT_len (code := code) (S := lkS code most) (O := o) (s := s) (nx := nx) (ou := ou) (u := pickS code most ⟨0, 0⟩) nx.length
  have e := lkT_el (u := pickS code most ⟨0, 0⟩) m hb hS.1 nx.length (Nat.le_refl _)
  exact ⟨⟨by omega, m.o1, by show 1 <= (lkT _ _ _ _ _ _ _ _).1.length /\ _; unfold lkM; rw [l.1]; exact m.n1, by unfold lkM; rw [l.1, l.2], e.1, e.2⟩, l.1⟩
theorem spec_l00Min {a b : Int} : AC Tryz.prog 79 [.int .i64 a, .int .i64 b] (.int .i64 (min a b)) := by
  by_cases h : a < b
  . refine ac_intro tabIs _ Tryz.func79 rfl rfl Tryz.ntmps79 rfl rfl fun w0 ok0 he0 => ?_
    repeat (first | refine zc ?_ | refine zv ?_)
    refine zt ?_
    rw [Int.min_eq_left (by omega)]
  . refine ac_intro tabIs _ Tryz.func79 rfl rfl Tryz.ntmps79 rfl rfl fun w0 ok0 he0 => ?_
    repeat (first | refine zc ?_ | refine zv ?_)
    refine zt ?_
    rw [Int.min_eq_right (by omega)]
theorem spec_P6LikeH {code : List Int} {s o most : Int} {nx ou : List (List Int)} (hb : BytesOk code) (m : MV s o nx ou) (hm : 1 <= most /\ most <= 10) :
    HC Tryz.prog 32 [.d (u8s code), .d (mach s o nx ou), .d (.int .i64 most)] [] (.agg [.d (.int .i64 (lkS code most)), .d (.int .i64 o), .own 30000, .own 30001])
      [(30000, .rows 43 2 1 (rws (lkM code most s o nx ou).1) none), (30001, .rows 43 2 1 (rws (lkM code most s o nx ou).2.1) none)] := by
  have hs := m.s1
  have ho := m.o1
  have hn := m.n1
  have he := m.eq
  have hle : (List.map ints nx).length = nx.length := by simp
  have hle2 : (List.map ints ou).length = ou.length := by simp
  have c0 := spec_From (code := code)
  have hP : ∀ (u : Src) (k : Nat) (n : Int), SOk u k -> k <= 999999990 -> n <= 1000 -> HC Tryz.prog 66 [.ref 10000 0, .d (.int .i64 n)] [(10000, srcB code u)] (.d (.int .i64 (pickV code n u))) [(10000, srcB code (pickS code n u))] := fun u k n a b c => spec_pick hb a b (by omega)
  have hQ : ∀ (u : Src) (k : Nat) (n : Int), SOk u k -> k <= 999999990 -> n <= 1000 -> HC Tryz.prog 78 [.ref 10000 0, .d (.int .i64 n)] [(10000, srcB code u)] (.d (.bool (decide (pickV code n u = 0)))) [(10000, srcB code (pickS code n u))] := fun u k n a b c => spec_one hb a b (by omega)
  have k0 : SOk (⟨0, 0⟩ : Src) 0 := ⟨Nat.le_refl _, by simp⟩
  have c1 := hP _ _ most k0 (by omega) (by omega)
  have hS := lkS_range hb hm.1
  have hT := fun j => lkT_ok (code := code) (S := lkS code most) (O := o) (s := s) (nx := nx) (ou := ou) (by omega) (pick_ok (code := code) (n := most) k0) j
  have hTl := fun j => lkT_len (code := code) (S := lkS code most) (O := o) (s := s) (nx := nx) (ou := ou) (u := pickS code most ⟨0, 0⟩) j
  unfold lkM mach
  have hSe : 1 + pickV code most ⟨0, 0⟩ = lkS code most := rfl
  generalize pickS code most ⟨0, 0⟩ = s1 at *
  generalize lkS code most = S at *
  generalize pickV code most ⟨0, 0⟩ = v0 at *
  unfold srcB at c0 c1 hP hQ
  unfold u8s at *
  refine hc_intro tabIs _ Tryz.func32 rfl rfl Tryz.ntmps32 rfl rfl rfl ?_ fun w0 ok0 XM XA anc he0 hX0 => ?_
  . exact likeIn_nil
  repeat (first | refine zc ?_ | refine zv ?_)
  refine hcl [] [(30000, 500)] c0 ?_
  repeat (first | refine zcn ?_ | refine zv ?_)
  refine u_mJ [(2, [500]), (7, [8]), (8, [8])] (.tk [8] [0, 1] (.tk [500, 8] [4, 5] (.fork 2 7 (.tk [8] [3, 6] (.tk [] [7, 8] .done)) (.tk [] [2] (.tk [8] [3, 6] (.tk [] [8] .done))))))
    [(4, .d (.ptr (.agg [.int .i64 s, .int .i64 o, rows nx, rows ou]))), (6, .ref 6 0), (7, .ref 500 0), (8, .ref 8 0)]
    [(6, .box [.d (.int .i64 0), .d (.int .i64 0), .d .nils, .d .nils]), (8, .box [.d (.int .i64 (1 + v0)), .d (.int .i64 o), .d .nils, .d .nils]), (500, srcB code s1)] ?_ ?_
  . repeat (first | refine zc ?_ | refine zv ?_)
    refine m_fork ?_ ?_
    . refine hclM [(500, 10000)] [(10000, 500)] c1 ?_
      repeat (first | refine zc ?_ | refine zv ?_)
      exact ⟨by exact zs, perm_of_sort rfl⟩
    . repeat (first | refine zc ?_ | refine zv ?_)
      refine hclM [(500, 10000)] [(10000, 500)] c1 ?_
      repeat (first | refine zc ?_ | refine zv ?_)
      exact ⟨by exact zs, perm_of_sort rfl⟩
  rw [hSe]
  repeat (first | refine zc ?_ | refine zv ?_)
  refine awp_nilCell 8 2 200 43 1 (by exact rfl) (by exact rfl) rfl rfl rfl ?_
  refine awp_toRows 200 2 1 rfl rfl rfl rfl ?_
  refine awp_nilCell 8 3 201 43 1 (by exact rfl) (by exact rfl) rfl rfl rfl ?_
  refine awp_toRows 201 2 1 rfl rfl rfl rfl ?_
  refine awp_perm _ rfl ?_
  refine awp_loop (fun k : Nat => k <= nx.length) (fun k => [(4, .d (.ptr (.agg [.int .i64 s, .int .i64 o, rows nx, rows ou]))), (6, .ref 6 0), (7, .ref 500 0), (8, .ref 8 0), (9, .d (.int .i64 k))])
    (fun k => [(6, .box [.d (.int .i64 0), .d (.int .i64 0), .d .nils, .d .nils]), (8, .box [.d (.int .i64 S), .d (.int .i64 o), .own 200, .own 201]), (200, .rows 43 2 1 (rws (lkT code S o s nx ou s1 k).1) none), (201, .rows 43 2 1 (rws (lkT code S o s nx ou s1 k).2.1) none), (500, srcB code (lkT code S o s nx ou s1 k).2.2)])
    (fun k => nx.length - k) 0 (by omega) ?_ (by as_aux_lemma => kernel_rfl) ?_
  . exact zs
  . intro k hk
    have hok := hT k
    have hlk := hTl k
    have hrl1 := rws_length (lkT code S o s nx ou s1 k).1
    have hrl2 := rws_length (lkT code S o s nx ou s1 k).2.1
    by_cases hlt : k < nx.length
    . have g1 : Rg s s (nx.getD k []) := rg_tbl.1 m.nx k (by omega)
      have g2 : Rg s o (ou.getD k []) := rg_tbl.1 m.ou k (by omega)
      have hst : lkT code S o s nx ou s1 (k + 1) = ((lkT code S o s nx ou s1 k).1 ++ [(lkR code S o s (nx.getD k []) (ou.getD k []) (lkT code S o s nx ou s1 k).2.2 S.toNat).1], (lkT code S o s nx ou s1 k).2.1 ++ [(lkR code S o s (nx.getD k []) (ou.getD k []) (lkT code S o s nx ou s1 k).2.2 S.toNat).2.1], (lkR code S o s (nx.getD k []) (ou.getD k []) (lkT code S o s nx ou s1 k).2.2 S.toNat).2.2) := rfl
      have hx1 : (List.map ints nx)[(k : Int).toNat]? = some (ints (nx.getD k [])) := el_row2 (xs := nx) (l := (k : Int)) (by omega)
      have hx2 : (List.map ints ou)[(k : Int).toNat]? = some (ints (ou.getD k [])) := el_row2 (xs := ou) (l := (k : Int)) (by omega)
      generalize nx.getD k [] = r at *
      generalize ou.getD k [] = ro at *
      generalize lkT code S o s nx ou s1 k = p at *
      have hrn := fun x => lkR_len (code := code) (S := S) (O := o) (s := s) (r := r) (ro := ro) (u := p.2.2) x
      have hrk := fun x => lkR_ok (code := code) (S := S) (O := o) (s := s) (r := r) (ro := ro) hok x
      have gl1 := g1.1
      have gl2 := g2.1
      have hrl : (r.map (D.int .i64)).length = r.length := by simp
      have hrol : (ro.map (D.int .i64)).length = ro.length := by simp
      repeat (first | refine v_w (t := 32) ?_ | refine v_w (t := 31) ?_ | refine zc ?_ | refine u_w (t := 31) ?_ | refine u_w (t := 32) ?_ | refine zv ?_)
      refine awp_perm _ rfl ?_
      refine awp_loop (fun x : Nat => (x : Int) <= S) (fun x => [(4, .d (.ptr (.agg [.int .i64 s, .int .i64 o, rows nx, rows ou]))), (6, .ref 6 0), (7, .ref 500 0), (8, .ref 8 0), (9, .d (.int .i64 k)), (10, .own 31), (11, .own 32), (12, .d (.int .i64 x))])
        (fun x => [(6, .box [.d (.int .i64 0), .d (.int .i64 0), .d .nils, .d .nils]), (8, .box [.d (.int .i64 S), .d (.int .i64 o), .own 200, .own 201]), (31, .arr 2 1 ((lkR code S o s r ro p.2.2 x).1.map (.int .i64))), (32, .arr 2 1 ((lkR code S o s r ro p.2.2 x).2.1.map (.int .i64))), (200, .rows 43 2 1 (rws p.1) none), (201, .rows 43 2 1 (rws p.2.1) none), (500, srcB code (lkR code S o s r ro p.2.2 x).2.2)])
        (fun x => S.toNat - x) 0 (by omega) ?_ (by as_aux_lemma => kernel_rfl) ?_
      . exact zs
      . intro x hx
        have hnx := hrn x
        have hkx := hrk x
        have hm1 : ((lkR code S o s r ro p.2.2 x).1.map (D.int .i64)).length = x := by simp [hnx.1]
        have hm2 : ((lkR code S o s r ro p.2.2 x).2.1.map (D.int .i64)).length = x := by simp [hnx.2]
        by_cases hxl : (x : Int) < S
        . have hsx : lkR code S o s r ro p.2.2 (x + 1) = ((lkR code S o s r ro p.2.2 x).1 ++ [(lkX code S o s r ro x (lkR code S o s r ro p.2.2 x).2.2).1], (lkR code S o s r ro p.2.2 x).2.1 ++ [(lkX code S o s r ro x (lkR code S o s r ro p.2.2 x).2.2).2.1], (lkX code S o s r ro x (lkR code S o s r ro p.2.2 x).2.2).2.2) := rfl
          have q1 := hP _ _ S hkx (by omega) (by omega)
          have q2 := hP _ _ o (pick_ok (code := code) (n := S) hkx) (by omega) (by omega)
          have q3 := hQ _ _ 5 (pick_ok (code := code) (n := o) (pick_ok (code := code) (n := S) hkx)) (by omega) (by omega)
          generalize lkR code S o s r ro p.2.2 x = t at *
          by_cases hxs : (x : Int) < s
          . have y1 : (r.map (D.int .i64))[(x : Int).toNat]? = some (.int .i64 (r.getD x 0)) := el_int2 (ns := r) (q := (x : Int)) (by omega)
            have y2 : (ro.map (D.int .i64))[(x : Int).toNat]? = some (.int .i64 (ro.getD x 0)) := el_int2 (ns := ro) (q := (x : Int)) (by omega)
            have z := spec_l00Min (a := r.getD x 0) (b := S - 1)
            by_cases h5 : pickV code 5 (pickS code o (pickS code S t.2.2)) = 0
            . have hX : lkX code S o s r ro x t.2.2 = (pickV code S t.2.2, pickV code o (pickS code S t.2.2), pickS code 5 (pickS code o (pickS code S t.2.2))) := by
                unfold lkX; rw [if_pos hxs, if_pos h5]
              rw [hX] at hsx
              rw [decide_eq_true h5] at q3
              repeat (first | refine zc ?_ | refine zv ?_)
              refine hcl [(500, 10000)] [(10000, 500)] q1 ?_
              repeat (first | refine zc ?_ | refine zv ?_)
              refine hcl [(500, 10000)] [(10000, 500)] q2 ?_
              repeat (first | refine zc ?_ | refine zv ?_)
              rw [decide_eq_true hxs]
              repeat (first | refine zc ?_ | refine zv ?_)
              refine awpL_ung ?_
              refine hcl [(500, 10000)] [(10000, 500)] q3 ?_
              repeat (first | refine zcr ?_ | refine zv ?_)
              refine awp_region ?_
              repeat (first | refine zcr ?_ | refine zv ?_)
              refine awp_region ?_
              repeat (first | refine zcr ?_ | refine zv ?_)
              refine awp_perm _ rfl ?_
              repeat (first | refine zc ?_ | refine zv ?_)
              refine loop_n (x + 1) (by omega) ?_ ?_ (by omega)
              . exact zs
              . rw [hsx]; simp only [List.map_append]; (as_aux_lemma => kernel_rfl)
            . have hX : lkX code S o s r ro x t.2.2 = (min (r.getD x 0) (S - 1), ro.getD x 0, pickS code 5 (pickS code o (pickS code S t.2.2))) := by
                unfold lkX; rw [if_pos hxs, if_neg h5]
              rw [hX] at hsx
              rw [decide_eq_false h5] at q3
              repeat (first | refine zc ?_ | refine zv ?_)
              refine hcl [(500, 10000)] [(10000, 500)] q1 ?_
              repeat (first | refine zc ?_ | refine zv ?_)
              refine hcl [(500, 10000)] [(10000, 500)] q2 ?_
              repeat (first | refine zc ?_ | refine zv ?_)
              rw [decide_eq_true hxs]
              repeat (first | refine zc ?_ | refine zv ?_)
              refine awpL_ung ?_
              refine hcl [(500, 10000)] [(10000, 500)] q3 ?_
              repeat (first | refine zcr ?_ | refine zk (e := by exact z) (n := ?_) | refine zv ?_)
              refine awp_region ?_
              repeat (first | refine zcr ?_ | refine zv ?_)
              refine awp_region ?_
              repeat (first | refine zcr ?_ | refine zv ?_)
              refine awp_region ?_
              repeat (first | refine zcr ?_ | refine zv ?_)
              refine awp_perm _ rfl ?_
              repeat (first | refine zc ?_ | refine zv ?_)
              refine loop_n (x + 1) (by omega) ?_ ?_ (by omega)
              . exact zs
              . rw [hsx]; simp only [List.map_append]; (as_aux_lemma => kernel_rfl)
          . have hX : lkX code S o s r ro x t.2.2 = (pickV code S t.2.2, pickV code o (pickS code S t.2.2), pickS code o (pickS code S t.2.2)) := by
              unfold lkX; rw [if_neg hxs]
            rw [hX] at hsx
            repeat (first | refine zc ?_ | refine zv ?_)
            refine hcl [(500, 10000)] [(10000, 500)] q1 ?_
            repeat (first | refine zc ?_ | refine zv ?_)
            refine hcl [(500, 10000)] [(10000, 500)] q2 ?_
            repeat (first | refine zc ?_ | refine zv ?_)
            rw [decide_eq_false hxs]
            repeat (first | refine zcr ?_ | refine zv ?_)
            refine awp_region ?_
            repeat (first | refine zcr ?_ | refine zv ?_)
            refine awp_region ?_
            repeat (first | refine zcr ?_ | refine zv ?_)
            refine awp_perm _ rfl ?_
            repeat (first | refine zc ?_ | refine zv ?_)
            refine loop_n (x + 1) (by omega) ?_ ?_ (by omega)
            . exact zs
            . rw [hsx]; simp only [List.map_append]; (as_aux_lemma => kernel_rfl)
        . have hxS : x = S.toNat := by omega
          subst hxS
          have ra : rws (p.1 ++ [(lkR code S o s r ro p.2.2 S.toNat).1]) = rws p.1 ++ [(lkR code S o s r ro p.2.2 S.toNat).1.map (.int .i64)] := by simp [rws]
          have rb : rws (p.2.1 ++ [(lkR code S o s r ro p.2.2 S.toNat).2.1]) = rws p.2.1 ++ [(lkR code S o s r ro p.2.2 S.toNat).2.1.map (.int .i64)] := by simp [rws]
          repeat (first | refine zcr ?_ | refine zv ?_)
          refine awp_region ?_
          repeat (first | refine zcr ?_ | refine zv ?_)
          refine awp_region ?_
          repeat (first | refine zcr ?_ | refine zv ?_)
          refine awp_region ?_
          repeat (first | refine zcr ?_ | refine zv ?_)
          refine awp_perm _ rfl ?_
          repeat (first | refine zc ?_ | refine zv ?_)
          refine loop_n (k + 1) (by omega) ?_ ?_ (by omega)
          . exact zs
          . rw [hst]; simp only []; rw [ra, rb]; (as_aux_lemma => kernel_rfl)
    . have hkn : k = nx.length := by omega
      subst hkn
      repeat (first | refine zc ?_ | refine zv ?_)
      (refine zb ?_; refine u_rH [(200, 30000), (201, 30001)] ?_ ?_)
      . rfl
      . rfl
theorem spec_P6Like {code : List Int} {s o most : Int} {nx ou : List (List Int)} (hb : BytesOk code) (m : MV s o nx ou) (hm : 1 <= most /\ most <= 10) :
    AC Tryz.prog 32 [u8s code, mach s o nx ou, .int .i64 most] (mach (lkS code most) o (lkM code most s o nx ou).1 (lkM code most s o nx ou).2.1) := by
  have := ac_of_hc (xs := [u8s code, mach s o nx ou, .int .i64 most]) (d := .agg [.int .i64 (lkS code most), .int .i64 o, .lst ((rws (lkM code most s o nx ou).1).map D.lst), .lst ((rws (lkM code most s o nx ou).2.1).map D.lst)]) (spec_P6LikeH hb m hm) rfl
  rw [rws_dat, rws_dat] at this
  exact this
end Go.Proofs.YtfemhnmggobhjaaGreat
namespace Go.Proofs.YtfemhnmggobhjaaGreat
open Go
attribute [local irreducible] awp awpL awpQL awpQ awpM pWalk Qt AC thenQ blockQ loopQ OpTo
set_option linter.unusedVariables false
set_option linter.unusedSimpArgs false
set_option maxHeartbeats 2000000
attribute [local irreducible] HC
section
variable {s o s' o' : Int} {nx ou nx' ou' : List (List Int)}
theorem impl_MachineDifferenceV (m : MV s o nx ou) (m' : MV s' o nx' ou') (he : nx'.length = nx.length) :
    AC Tryz.prog 34 [mach s o nx ou, mach s' o nx' ou'] (.tup [if (apR nx ou nx' ou').2 then ints (apR nx ou nx' ou').1 else .nils, .int .i64 (if (apR nx ou nx' ou').2 then 0 else 6)]) := by
  have e1 := impl_ValidMachine (s := s) (o := o) m.rnx m.rou
  have e2 := impl_ValidMachine (s := s') (o := o) m'.rnx m'.rou
  rw [machOk_mv m] at e1
  rw [machOk_mv m'] at e2
  have e3 := impl_alike (s := s) (o := o) (s' := s') (o' := o) (nx := nx) (ou := ou) (nx' := nx') (ou' := ou')
  rw [show (decide (o = o) && decide ((nx.length : Int) = nx'.length)) = true by simp [he]] at e3
  have e4 := impl_apartR m m' he
  cases hR : (apR nx ou nx' ou').2
  . rw [hR] at e4
    refine ac_intro tabIs _ Tryz.func34 rfl rfl Tryz.ntmps34 rfl rfl fun w0 ok0 he0 => ?_
    repeat (first | refine zc ?_ | refine zk (e := by exact e1) (n := ?_) | refine zk (e := by exact e2) (n := ?_) | refine zk (e := by exact e3) (n := ?_) | refine zk (e := by exact e4) (n := ?_) | refine zv ?_)
    refine zt ?_
    rfl
  . rw [hR] at e4
    refine ac_intro tabIs _ Tryz.func34 rfl rfl Tryz.ntmps34 rfl rfl fun w0 ok0 he0 => ?_
    repeat (first | refine zc ?_ | refine zk (e := by exact e1) (n := ?_) | refine zk (e := by exact e2) (n := ?_) | refine zk (e := by exact e3) (n := ?_) | refine zk (e := by exact e4) (n := ?_) | refine zv ?_)
    refine zt ?_
    rfl
end
theorem runO_take (nx ou : List (List Int)) : ∀ (w : List Int) (s : Int) (k : Nat), (runO nx ou s w).take k = runO nx ou s (w.take k)
  | [], _, k => by simp [runO]
  | l :: w, s, 0 => by simp [runO]
  | l :: w, s, k + 1 => by simp [runO, runO_take nx ou w]
end Go.Proofs.YtfemhnmggobhjaaGreat
