/- Plain facts of a machine's mutants. No condition. -/
import Derived.Test.YtfemhnmggobhjaaGreatMa
import Derived.Test.YtfemhnmggobhjaaGreatPa
import Derived.Test.YtfemhnmggobhjaaGreatFwS
namespace Go.Proofs.YtfemhnmggobhjaaGreat
open Go
attribute [local irreducible] awp awpL awpQL awpQ awpM pWalk Qt AC thenQ blockQ loopQ OpTo
set_option linter.unusedVariables false
set_option linter.unusedSimpArgs false
set_option maxHeartbeats 2000000
attribute [local irreducible] HC
def othr (i x : Int) : Int := if x <= i then i + 1 else i
def set2 (xs : List (List Int)) (l q v : Int) : List (List Int) := xs.set l.toNat ((row xs l).set q.toNat v)
theorem set2_length (xs : List (List Int)) (l q v : Int) : (set2 xs l q v).length = xs.length := by simp [set2]
theorem tbl_set2 {s hi : Int} {xs : List (List Int)} (h : Tbl s hi xs) {l q v : Int} (hl : 0 <= l /\ l < xs.length) (hv : 0 <= v /\ v < hi) : Tbl s hi (set2 xs l q v) := fun ns hn => by
  rcases List.mem_or_eq_of_mem_set hn with hn | rfl
  . exact h ns hn
  . have hr := h _ (row_mem hl)
    refine ⟨by simpa using hr.1, fun n hm => ?_⟩
    rcases List.mem_or_eq_of_mem_set hm with hm | rfl
    . exact hr.2 n hm
    . exact hv
def mutX (s o : Int) (nx ou : List (List Int)) (k : Int) : List (List Int) × List (List Int) :=
  if k % (o - 1 + s - 1) < o - 1 then (nx, set2 ou (k / (o - 1 + s - 1) / s) (k / (o - 1 + s - 1) % s) (othr (k % (o - 1 + s - 1)) (at2 ou (k / (o - 1 + s - 1) / s) (k / (o - 1 + s - 1) % s))))
  else (set2 nx (k / (o - 1 + s - 1) / s) (k / (o - 1 + s - 1) % s) (othr (k % (o - 1 + s - 1) - (o - 1)) (at2 nx (k / (o - 1 + s - 1) / s) (k / (o - 1 + s - 1) % s))), ou)
structure MutI (s o k : Int) (n : Nat) : Prop where
  e0 : 0 < o - 1 + s - 1
  k0 : 0 <= k /\ k <= 330
  i0 : 0 <= k % (o - 1 + s - 1) /\ k % (o - 1 + s - 1) < o - 1 + s - 1
  d0 : 0 <= k / (o - 1 + s - 1) /\ k / (o - 1 + s - 1) <= 330
  q0 : 0 <= k / (o - 1 + s - 1) % s /\ k / (o - 1 + s - 1) % s < s
  l0 : 0 <= k / (o - 1 + s - 1) / s /\ k / (o - 1 + s - 1) / s < n
theorem mut_idx {s o k : Int} {n : Nat} (hs : 1 <= s /\ s <= 10) (ho : 1 <= o /\ o <= 3) (hn : n <= 3) (hk : 0 <= k /\ k < mutN s o n) : MutI s o k n := by
  have hb := mutN_bounds hs ho hn
  have he : 0 < o - 1 + s - 1 := by
    by_cases he : 0 < o - 1 + s - 1
    . exact he
    . have e0 : o - 1 + s - 1 = 0 := by omega
      unfold mutN at hk
      rw [e0, Int.mul_zero] at hk
      omega
  have h1 : k / (o - 1 + s - 1) < n * s := Int.ediv_lt_of_lt_mul he hk.2
  have h2 : k / (o - 1 + s - 1) / s < n := Int.ediv_lt_of_lt_mul (by omega) h1
  have h3 : 0 <= k / (o - 1 + s - 1) := Int.ediv_nonneg hk.1 (by omega)
  have h4 : 0 <= k / (o - 1 + s - 1) / s := Int.ediv_nonneg h3 (by omega)
  have h5 := Int.emod_nonneg k (show o - 1 + s - 1 ≠ 0 by omega)
  have h6 := Int.emod_lt_of_pos k he
  have h7 := Int.emod_nonneg (k / (o - 1 + s - 1)) (show s ≠ 0 by omega)
  have h8 := Int.emod_lt_of_pos (k / (o - 1 + s - 1)) (show 0 < s by omega)
  exact ⟨he, ⟨hk.1, by omega⟩, ⟨h5, h6⟩, ⟨h3, by omega⟩, ⟨h7, h8⟩, ⟨h4, h2⟩⟩
theorem othr_in {i x hi : Int} (h : 0 <= i /\ i < hi - 1) : 0 <= othr i x /\ othr i x < hi := by unfold othr; split <;> omega
theorem mv_mut {s o k : Int} {nx ou : List (List Int)} (m : MV s o nx ou) (hk : 0 <= k /\ k < mutN s o nx.length) : MV s o (mutX s o nx ou k).1 (mutX s o nx ou k).2 /\ (mutX s o nx ou k).1.length = nx.length := by
  have hi := mut_idx m.s1 m.o1 m.n1.2 hk
  have hn1 := m.n1
  have he := m.eq
  have h5 := hi.i0
  unfold mutX
  split
  . rename_i hlt
    exact ⟨⟨m.s1, m.o1, m.n1, by rw [set2_length]; exact m.eq, m.nx, tbl_set2 m.ou (by rw [m.eq]; exact hi.l0) (othr_in ⟨hi.i0.1, by omega⟩)⟩, rfl⟩
  . rename_i hge
    exact ⟨⟨m.s1, m.o1, by rw [set2_length]; exact m.n1, by rw [set2_length]; exact m.eq, tbl_set2 m.nx hi.l0 (othr_in ⟨by omega, by omega⟩), m.ou⟩, set2_length ..⟩
theorem rowsOk_tbl {s hi : Int} {xs : List (List Int)} (h : Tbl s hi xs) (hs : s <= 10) (hh : hi <= 10) (hn : xs.length <= 3) : RowsOk xs :=
  ⟨fun ns hm => by
    have := h ns hm
    exact ⟨fun n hn => by have := this.2 n hn; unfold I64; omega, by omega⟩, by omega⟩
theorem MV.rnx {s o : Int} {nx ou : List (List Int)} (m : MV s o nx ou) : RowsOk nx := rowsOk_tbl m.nx m.s1.2 m.s1.2 m.n1.2
theorem MV.rou {s o : Int} {nx ou : List (List Int)} (m : MV s o nx ou) : RowsOk ou := rowsOk_tbl m.ou m.s1.2 (by have := m.o1; omega) (by rw [m.eq]; exact m.n1.2)
theorem rws_set2 {xs : List (List Int)} {l q v : Int} (hl : 0 <= l /\ l < xs.length) : (rws xs).set l.toNat (((row xs l).map (D.int .i64)).set q.toNat (.int .i64 v)) = rws (set2 xs l q v) := by
  unfold rws set2
  rw [List.map_set, List.map_set]
theorem rws_row {xs : List (List Int)} {l : Int} (hl : 0 <= l /\ l < xs.length) : (rws xs)[l.toNat]? = some ((row xs l).map (D.int .i64)) := by
  have : l.toNat < xs.length := by omega
  simp [rws, row, List.getD_eq_getElem?_getD, this]
end Go.Proofs.YtfemhnmggobhjaaGreat
namespace Go.Proofs.YtfemhnmggobhjaaGreat
open Go
attribute [local irreducible] awp awpL awpQL awpQ awpM pWalk Qt AC thenQ blockQ loopQ OpTo
set_option linter.unusedVariables false
set_option linter.unusedSimpArgs false
set_option maxHeartbeats 2000000
attribute [local irreducible] HC
theorem elsOk_ints : ∀ ns : List Int, elsOk 1 (ns.map (D.int .i64)) = true
  | [] => rfl
  | n :: ns => by simp [elsOk, D.el, D.one, D.width, elsOk_ints ns]
theorem spec_l00OwnH {ns : List Int} (hn : ns.length <= 1048576) : HC Tryz.prog 45 [.d (ints ns)] [] (.own 30000) [(30000, .arr 2 1 (ns.map (.int .i64)))] := by
  have hl : (List.map (D.int IntKind.i64) ns).length = ns.length := by simp
  refine hc_intro tabIs _ Tryz.func45 rfl rfl Tryz.ntmps45 rfl rfl rfl ?_ fun w0 ok0 XM XA anc he0 hX0 => ?_
  . exact likeIn_nil
  repeat (first | refine v_w (t := 3) ?_ | refine zc ?_ | refine u_w (t := 3) ?_ | refine zv ?_)
  (apply lto; (focus (apply wo_append; (iterate 14 exact rfl); exact elsOk_ints ns; (simp; omega))))
  repeat (first | refine zc ?_ | refine zv ?_)
  (refine zb ?_; refine u_rH [(3, 30000)] ?_ ?_)
  . rfl
  . rfl
theorem rws_take {nss : List (List Int)} {k : Nat} (hk : k < nss.length) : rws (nss.take (k + 1)) = rws (nss.take k) ++ [nss[k].map (.int .i64)] := by
  unfold rws
  rw [List.take_succ_eq_append_getElem hk, List.map_append]
  rfl
theorem spec_l00Same {a b : List Int} (h1 : a.length <= 9223372036854775807) (h2 : b.length <= 9223372036854775807) : AC Tryz.prog 97 [ints a, ints b] (.bool (decide (a = b))) := by
  have hla : (List.map (D.int IntKind.i64) a).length = a.length := by simp
  have hlb : (List.map (D.int IntKind.i64) b).length = b.length := by simp
  by_cases hl : a.length = b.length
  . refine ac_intro tabIs _ Tryz.func97 rfl rfl Tryz.ntmps97 rfl rfl fun w0 ok0 he0 => ?_
    repeat (first | refine zc ?_ | refine zv ?_)
    refine awp_loop (fun k : Nat => k <= a.length /\ a.take k = b.take k) (fun k => [(0, .d (ints a)), (1, .d (ints b)), (5, .d (.int .i64 k))]) (fun _ => []) (fun k => a.length - k) 0 ⟨by omega, rfl⟩ ?_ rfl ?_
    . exact zs
    . rintro k ⟨hk, ht⟩
      by_cases hlt : k < a.length
      . have hlt2 : k < b.length := by omega
        have ea := el_int hlt
        have eb := el_int hlt2
        by_cases hc : a[k] = b[k]
        . have hs := eq_step hlt hlt2 ht hc
          repeat (first | refine zc ?_ | refine zv ?_)
          refine loop_n (k + 1) ⟨by omega, hs⟩ ?_ rfl (by omega)
          exact zs
        . repeat (first | refine zc ?_ | refine zv ?_)
          refine zt ?_
          have : ¬ a = b := fun e => hc (by subst e; rfl)
          simp [this]
      . have hk' : k = a.length := by omega
        subst hk'
        rw [List.take_length, hl, List.take_length] at ht
        repeat (first | refine zc ?_ | refine zv ?_)
        refine zt ?_
        simp [ht]
  . refine ac_intro tabIs _ Tryz.func97 rfl rfl Tryz.ntmps97 rfl rfl fun w0 ok0 he0 => ?_
    repeat (first | refine zc ?_ | refine zv ?_)
    refine zt ?_
    have : ¬ a = b := fun e => hl (by rw [e])
    simp [this]
end Go.Proofs.YtfemhnmggobhjaaGreat
