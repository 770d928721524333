/- strings.Join: the program bears the kit's bodies; its contract over data. Condition: the text has at most a million bytes. -/
import Derived.Test.YtffmlijngfhhaaaGreatDoorChecked
import Derived.Test.YtffmlijngfhhaaaGreatDoorFwK
import Derived.Shelf.Strings.OnBuilder
import Derived.WalkKit
import Derived.BigCall
import Derived.KernelRfl
namespace Go.Proofs.YtffmlijngfhhaaaGreatDoor
open Go.Proofs Go.Shelf
def jn_ren : Ren := ⟨fun | 156 => 172 | 165 => 192 | 166 => 193 | 169 => 194 | 240 => 215 | 241 => 216 | 276 => 225 | 277 => 226 | n => n, fun | 31 => 112 | 9 => 9 | 3 => 3 | 4 => 4 | 0 => 0 | 20 => 20 | 72 => 227 | 76 => 229 | 70 => 225 | 37 => 22 | 75 => 99 | 127 => 235 | 164 => 264 | 5 => 5 | 80 => 231 | n => n, fun n => n⟩
theorem jn : Lays.n156 Tryz.prog jn_ren where
  mixed := by kernel_rfl
  f156 := Tryz.func172.trans (congrArg some (by kernel_rfl))
  f165 := Tryz.func192.trans (congrArg some (by kernel_rfl))
  f166 := Tryz.func193.trans (congrArg some (by kernel_rfl))
  f169 := Tryz.func194.trans (congrArg some (by kernel_rfl))
  f240 := Tryz.func215.trans (congrArg some (by kernel_rfl))
  f241 := Tryz.func216.trans (congrArg some (by kernel_rfl))
  f276 := Tryz.func225.trans (congrArg some (by kernel_rfl))
  f277 := Tryz.func226.trans (congrArg some (by kernel_rfl))
  t0 := Tryz.underlying0
  a0 := Tryz.isAgg0
  z0 := Tryz.sizeOf0
  v0 := Tryz.zeroValue0
  t3 := Tryz.underlying3
  a3 := Tryz.isAgg3
  z3 := Tryz.sizeOf3
  v3 := Tryz.zeroValue3
  t4 := Tryz.underlying4
  a4 := Tryz.isAgg4
  z4 := Tryz.sizeOf4
  v4 := Tryz.zeroValue4
  t9 := Tryz.underlying9
  a9 := Tryz.isAgg9
  z9 := Tryz.sizeOf9
  v9 := Tryz.zeroValue9
  t20 := Tryz.underlying20
  a20 := Tryz.isAgg20
  z20 := Tryz.sizeOf20
  v20 := Tryz.zeroValue20
  t31 := Tryz.underlying112
  a31 := Tryz.isAgg112
  z31 := Tryz.sizeOf112
  v31 := Tryz.zeroValue112
  t37 := Tryz.underlying22
  a37 := Tryz.isAgg22
  z37 := Tryz.sizeOf22
  v37 := Tryz.zeroValue22
  t70 := Tryz.underlying225
  a70 := Tryz.isAgg225
  z70 := Tryz.sizeOf225
  v70 := Tryz.zeroValue225
  t72 := Tryz.underlying227
  a72 := Tryz.isAgg227
  z72 := Tryz.sizeOf227
  v72 := Tryz.zeroValue227
  t75 := Tryz.underlying99
  a75 := Tryz.isAgg99
  z75 := Tryz.sizeOf99
  v75 := Tryz.zeroValue99
  t76 := Tryz.underlying229
  a76 := Tryz.isAgg229
  z76 := Tryz.sizeOf229
  v76 := Tryz.zeroValue229
  t127 := Tryz.underlying235
  a127 := Tryz.isAgg235
  z127 := Tryz.sizeOf235
  v127 := Tryz.zeroValue235
  t164 := Tryz.underlying264
  a164 := Tryz.isAgg264
  z164 := Tryz.sizeOf264
  v164 := Tryz.zeroValue264
theorem jnX : Builder.Extra Tryz.prog jn_ren where
  sizeBuilder := by kernel_rfl
  liesBuilder := by kernel_rfl
  t5 := Tryz.underlying5
  a5 := Tryz.isAgg5
  z5 := Tryz.sizeOf5
  v5 := Tryz.zeroValue5
  infoByte := by kernel_rfl
  cellsByte := by kernel_rfl
  sizeByte := by kernel_rfl
  neB5 := by decide
end Go.Proofs.YtffmlijngfhhaaaGreatDoor
namespace Go.Proofs.YtffmlijngfhhaaaGreatDoor
open Go Go.Proofs Go.RowKit Go.Lib
set_option linter.unusedVariables false
set_option linter.unusedSimpArgs false
theorem lst_invJ {ok : Nat -> Prop} {w : World} {v : Value} {xs : List D} (h : RepD ok w v (.lst xs)) (h1 : ∀ x ∈ xs, x.one = true) (hne : xs ≠ []) :
    ∃ b off cap, v = .slice (some ⟨b, off, none⟩) xs.length cap /\ xs.length <= cap /\ b < w.heap.size /\ ∀ i x, xs[i]? = some x -> ∃ u, w.cell? ⟨b, off + i, none⟩ = some u /\ RepD ok w u x := by
  cases h with
  | nil0 => exact absurd rfl hne
  | emp a cap => exact absurd rfl hne
  | lst b off cap n cells e fr _ vs sz g1 g2 g3 g4 g5 g5b g6 g7 =>
    subst g4
    refine ⟨b, off, cap, rfl, by omega, ?_, fun i x hx => ?_⟩
    . rcases Nat.lt_or_ge b w.heap.size with h' | h'
      . exact h'
      . rw [Array.getElem?_eq_none h'] at g2; cases g2
    have hi : i < vs.length := by
      rw [g3]
      exact (List.getElem?_eq_some_iff.1 hx).1
    have hv : vs[i]? = some vs[i] := List.getElem?_eq_getElem hi
    have hr := g6 i _ x hv hx
    have hc := hr.oneCell (h1 x (List.mem_of_getElem? hx))
    obtain ⟨k1, k2⟩ := g7 i _ hv
    rw [hc] at k1 k2
    have k3 := k2 0 (by rw [<- k1]; simp)
    simp at k1
    subst k1
    refine ⟨vs[i], ?_, hr⟩
    simp at k3
    simp [World.cell?, g2, k3]
theorem strings_Join {ls : List (List UInt8)} {sep : List UInt8} (hn : ls.length <= 1048576) (hl : (Go.Lib.join ls sep).length <= 1048576) : AC Tryz.prog 172 [.lst (ls.map .str), .str sep] (.str (Go.Lib.join ls sep)) := by
  refine ⟨⟨_, Tryz.func172, by kernel_rfl, by kernel_rfl⟩, fun w ok vs _ hok hr => ?_⟩
  obtain ⟨hs, hr⟩ := hr
  obtain ⟨v0, v1, rfl⟩ : ∃ v0 v1, vs = #[v0, v1] := by
    obtain ⟨x⟩ := vs
    match x, hs with
    | [a, b], _ => exact ⟨a, b, rfl⟩
  have h0 := hr 0 v0 _ rfl rfl
  have h1 := (hr 1 v1 _ rfl rfl).str_inv
  subst h1
  by_cases hne : ls = []
  . subst hne
    have key : ∀ a c, v0 = .slice a 0 c -> Calls Tryz.prog 172 #[v0, .string ⟨sep.toArray⟩] w fun e w' => ∃ v, e = .returned v /\ RepD (fun b => ok b \/ w.heap.size <= b) w' v (.str (Go.Lib.join [] sep)) /\ Below w.heap.size w w' := fun a c e => by
      subst e
      refine (Any.strings_Join_none jn jnX a c ⟨sep.toArray⟩ w).mono ?_
      rintro e w' ⟨rfl, rfl⟩
      exact ⟨_, rfl, .str _ _ rfl, Below.refl _ _⟩
    generalize hx : ([] : List (List UInt8)).map D.str = xs at h0
    cases h0 with
    | nil0 => exact key _ _ rfl
    | emp a cap => exact key _ _ rfl
    | lst b off cap n cells e fr _ vs sz g1 g2 g3 g4 g5 g5b g6 g7 =>
      subst hx
      simp at g4
      subst g4
      exact key _ _ rfl
  . obtain ⟨b, off, cap, rfl, hcap, hb, hc⟩ := lst_invJ h0 (fun x hx => by obtain ⟨l, _, rfl⟩ := List.mem_map.1 hx; rfl) (by simpa using hne)
    have e1 : (ls.map fun l => (⟨l.toArray⟩ : ByteArray)).map (·.data.toList) = ls := by simp [List.map_map, Function.comp_def]
    have hj := Any.strings_Join jn jnX b off cap (ls.map fun l => ⟨l.toArray⟩) ⟨sep.toArray⟩ w (fun j x hx => by
      rw [List.getElem?_map, Option.map_eq_some_iff] at hx
      obtain ⟨l, hl, rfl⟩ := hx
      obtain ⟨u, g1, g2⟩ := hc j (.str l) (by rw [List.getElem?_map, hl]; rfl)
      rw [g2.str_inv] at g1
      exact g1) hb (by simp; omega) (by simpa using hcap) (by rw [e1]; simpa using (by omega : (Go.Lib.join ls sep).length <= 140737488355328))
    rw [e1] at hj
    simp only [List.length_map] at hj ⊢
    refine hj.mono ?_
    rintro e w' ⟨rfl, hbl⟩
    exact ⟨_, rfl, .str _ _ (by simp), hbl⟩
end Go.Proofs.YtffmlijngfhhaaaGreatDoor
