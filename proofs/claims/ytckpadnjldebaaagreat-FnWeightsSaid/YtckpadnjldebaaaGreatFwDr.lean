/- A run never takes back a draw: of every call that ends, the world's count of draws has not become less. No condition. -/
import Derived.Calls
import Derived.Test.YtckpadnjldebaaaGreatFwK
import Derived.Lib.QuietBelow
import Derived.Shelf.SlSortCmp.NoneTotal
namespace Go.Proofs.Dr
open Go
def Result.wd {α : Type} : Result α -> Nat
  | .ok _ w => w.drawn
  | .halt _ w => w.drawn
theorem ask_drawn {α : Type} (a : Ask α) : ∀ w : World, w.drawn <= (w.ask a).2.drawn := by
  induction a with
  | done a => intro w; simp [World.ask]
  | ask what range k ih =>
    intro w
    rw [World.ask]
    split
    . exact ih 0 w
    . exact Nat.le_trans (Nat.le_succ _) (ih _ { w with drawn := w.drawn + 1 })
theorem sys_drawn (w : World) (c : Sys) : w.drawn <= (w.sys c).2.drawn := by
  have h := ask_drawn (Kernel.perform c w.os) w
  unfold World.sys
  split
  . exact Nat.le_refl _
  . rename_i heq
    rw [heq] at h
    exact h
theorem viewStore_drawn {p : Program} {w : World} {at_ : Addr} {u : TypeId} {k : Addr} {v : Value} {atomic : Bool} {r : World × List Addr} (h : w.viewStore p at_ u k v atomic = .ok r) : r.1.drawn = w.drawn := by
  unfold World.viewStore at h
  simp only [bind, Except.bind, pure, Except.pure] at h
  repeat' (split at h <;> try (cases h; done))
  all_goals first | (cases h; rfl) | (simp only [Except.ok.injEq] at h; subst h; rfl) | skip
theorem farStore_drawn {p : Program} {w : World} {a : Addr} {v : Value} {atomic : Bool} {r : World × List Addr} (h : w.farStore p a v atomic = .ok r) : r.1.drawn = w.drawn := by
  unfold World.farStore at h
  split at h
  . split at h
    . rename_i heq
      cases h
      exact viewStore_drawn heq
    . cases h
  . cases h
theorem freeze_drawn (w : World) (a : Addr) (n : Nat) : (w.freeze a n).drawn = w.drawn := by
  unfold World.freeze
  split <;> rfl
theorem run_drawn {α : Type} (p : Program) (s : Sem α) : ∀ w : World, w.drawn <= Result.wd (s.run p w) := by
  induction s with
  | pure a => intro w; exact Nat.le_refl _
  | load m a k ih =>
    intro w
    simp only [Sem.run]
    split
    . exact ih _ w
    . split
      . exact ih _ w
      . exact Nat.le_refl _
  | store m a v k ih =>
    intro w
    have hs : ∀ u, w.drawn <= Result.wd (match w.cell? a with
      | some _ => if w.frozen? a then .halt (.unsupported (.unsafePointer "a write to bytes that a string shares")) w else k.run p (w.setCell a u)
      | none => match w.farStore p a u (m == .atomic) with
        | .ok (w, _) => k.run p w
        | .error h => .halt h w) := by
      intro u
      split
      . split
        . exact Nat.le_refl _
        . exact ih (w.setCell a u)
      . split
        . rename_i heq
          have e := farStore_drawn heq
          exact Nat.le_trans (Nat.le_of_eq e.symm) (ih _)
        . exact Nat.le_refl _
    cases v <;> simp only [Sem.run] <;> first | exact hs _ | exact Nat.le_refl _
  | new o k ih => intro w; exact ih _ { w with heap := w.heap.push o }
  | shape r k ih => intro w; exact ih _ w
  | freeze a n k ih =>
    intro w
    simp only [Sem.run]
    exact Nat.le_trans (Nat.le_of_eq (freeze_drawn w a n).symm) (ih _)
  | frozen a k ih => intro w; exact ih _ w
  | getObj r k ih =>
    intro w
    simp only [Sem.run]
    split
    . exact Nat.le_refl _
    . exact ih _ w
    . exact Nat.le_refl _
  | setObj r o k ih =>
    intro w
    simp only [Sem.run]
    split
    . exact Nat.le_refl _
    . exact ih { w with heap := w.heap.setIfInBounds r o }
    . exact Nat.le_refl _
  | choose q k ih =>
    intro w
    simp only [Sem.run]
    split
    . exact ih _ w
    . exact Nat.le_trans (Nat.le_succ _) (ih _ { w with drawn := w.drawn + 1 })
  | sys c k ih =>
    intro w
    simp only [Sem.run]
    exact Nat.le_trans (sys_drawn w c) (ih _ _)
  | program k ih => intro w; exact ih _ w
  | mark m k ih => intro w; exact ih w
  | halt h => intro w; exact Nat.le_refl _
theorem runT_fst {α : Type} (p : Program) (s : Sem α) : ∀ (w : World) (es : Array Event), (s.runT p w es).1 = s.run p w := by
  induction s with
  | store m a v k ih =>
    intro w es
    cases v <;> simp only [Sem.run, Sem.runT] <;> (repeat' split) <;> simp_all
  | _ =>
    intro w es
    simp only [Sem.run, Sem.runT] <;> (repeat' split) <;> simp_all
def ge (d : Nat) : GStep -> Prop
  | .go _ w _ => d <= w.drawn
  | .comm _ _ _ _ w _ => d <= w.drawn
  | .spawn _ _ w _ => d <= w.drawn
  | .count _ w _ => d <= w.drawn
  | .timer _ _ w _ => d <= w.drawn
  | .alone _ _ w _ => d <= w.drawn
  | .newcoro _ _ _ w _ => d <= w.drawn
  | .coroswitch _ _ _ w _ => d <= w.drawn
  | .collect _ w _ => d <= w.drawn
  | .watch _ w _ => d <= w.drawn
  | .ended _ _ _ => True
theorem ge_after {d : Nat} {es : Array Event} {s : GStep} (h : ge d s) : ge d (GStep.after es s) := by cases s <;> exact h
theorem run_ok {α : Type} {p : Program} {s : Sem α} {w w' : World} {a : α} (h : s.run p w = .ok a w') : w.drawn <= w'.drawn := by
  have k := run_drawn p s w
  rw [h] at k
  exact k
theorem run_halt {α : Type} {p : Program} {s : Sem α} {w w' : World} {a : Halt} (h : s.run p w = .halt a w') : w.drawn <= w'.drawn := by
  have k := run_drawn p s w
  rw [h] at k
  exact k
theorem runT_wd {α : Type} (p : Program) (s : Sem α) (w : World) (es : Array Event) : w.drawn <= Result.wd (s.runT p w es).1 := by
  rw [runT_fst]
  exact run_drawn p s w
theorem ge_dieOf {d : Nat} {fr : Frame} {ahead : List ByteArray} {m : String} {whole : Bool} {w : World} (h : d <= w.drawn) : ge d (dieOf fr ahead m whole w) := h
theorem ge_endThrow {d : Nat} {fr : Frame} {m : String} {w : World} (h : d <= w.drawn) : ge d (endThrow fr m w) := h
theorem ge_endWith {d : Nat} {w : World} {fd : Nat} {text : ByteArray} {o : Outcome} : ge d (endWith w fd text o) := by
  unfold endWith
  simp only
  split
  . split <;> trivial
  . trivial
  . trivial
theorem ge_endPrinting {d : Nat} {p : Program} {fr : Frame} {v : Value} {w : World} (h : d <= w.drawn) : ge d (endPrinting p fr v w) := by
  unfold endPrinting
  simp only
  split
  . exact h
  . trivial
theorem ge_endFatal {d : Nat} {p : Program} {fr : Frame} {callers : List Frame} {dying : Option Dying} {m : String} {w : World} (h : d <= w.drawn) : ge d (endFatal p fr callers dying m w) := by
  unfold endFatal
  extract_lets
  split
  . rename_i heq
    exact ge_dieOf (Nat.le_trans h (run_ok heq))
  . trivial
  . trivial
theorem runT_eq {α : Type} {p : Program} {s : Sem α} {w : World} {es es' : Array Event} {r : Result α} (h : s.runT p w es = (r, es')) : w.drawn <= Result.wd r := by
  have k := runT_wd p s w es
  rw [h] at k
  exact k
theorem ge_writeOn {d : Nat} {p : Program} {fr : Frame} {dy : Dying} {f : Fatal} {w : World} (h : d <= w.drawn) : ge d (writeOn p fr dy f w) := by
  unfold writeOn
  extract_lets
  split
  . trivial
  . extract_lets
    split
    . rename_i heq
      exact Nat.le_trans h (runT_eq heq)
    . rename_i heq
      exact Nat.le_trans h (runT_eq heq)
    . trivial
    . trivial
theorem ge_die {d : Nat} {p : Program} {fr : Frame} {dy : Dying} {w : World} (h : d <= w.drawn) : ge d (die p fr dy w) := by
  unfold die
  split
  . exact ge_writeOn h
  . split
    . split
      . exact h
      . exact ge_endWith
    . simp only
      split
      . exact h
      . split
        . rename_i heq
          exact Nat.le_trans h (run_ok heq)
        . trivial
      . rename_i t recv name _
        have k := runT_wd p (invoke (.fn (.method name) #[]) #[.iface t recv]) w #[]
        refine ge_after ?_
        split
        . rename_i heq
          rw [heq] at k
          exact Nat.le_trans h k
        . rename_i heq
          rw [heq] at k
          exact Nat.le_trans h k
        . trivial
        . rename_i heq
          rw [heq] at k
          exact ge_endPrinting (Nat.le_trans h k)
        . trivial
      . trivial
theorem ge_early {d : Nat} {p : Program} {fr : Frame} {callers : List Frame} {dying : Option Dying} {g : Nat} {w : World} (h : d <= w.drawn) : ge d (early p fr callers dying g w) := by
  unfold early
  extract_lets refuse notYet
  have hn : ∀ w : World, d <= w.drawn -> ge d (notYet w) := by
    intro w hw
    show ge d (match w.heap[g]? with
      | some (.pending c elem) => GStep.go { frame := fr, callers, status := .running, dying } { w with heap := w.heap.setIfInBounds g (.cells c elem) }
      | _ => .ended (.stuck "early: the variable does not wait" (fr.pos p)) w)
    split
    . exact hw
    . trivial
  split
  . exact hn w h
  . split
    . trivial
    . extract_lets there
      have ht : ∀ w : World, d <= w.drawn -> ge d (there w) := fun w hw => hw
      (repeat' split) <;> first
        | exact hn w h
        | exact ht w h
        | trivial
        | (rename_i heq; first | exact hn _ (Nat.le_trans h (run_ok heq)) | exact ht _ (Nat.le_trans h (run_ok heq)))
theorem ge_doReturn {d : Nat} {p : Program} {main : Bool} {fr : Frame} {callers : List Frame} {dying : Option Dying} {v : Value} {w : World} (h : d <= w.drawn) : ge d (doReturn p main fr callers dying v w) := by
  unfold doReturn
  (repeat' split) <;> first | exact h | trivial
theorem ge_callDeferred {d : Nat} {p : Program} {fr : Frame} {callers : List Frame} {dying : Option Dying} {df : Deferred} {w : World} (h : d <= w.drawn) : ge d (callDeferred p fr callers dying df w) := by
  unfold callDeferred
  refine iteInduction (motive := fun s => ge d s) (fun _ => trivial) fun _ => ?_
  . have k := runT_wd p (invoke df.target df.args) w #[]
    generalize (invoke df.target df.args).runT p w #[] = r at k
    obtain ⟨r, es⟩ := r
    dsimp only at k ⊢
    refine ge_after ?_
    have hr : ∀ a w', r = .ok a w' -> d <= w'.drawn := fun a w' e => by subst e; exact Nat.le_trans h k
    have hh : ∀ a w', r = .halt a w' -> d <= w'.drawn := fun a w' e => by subst e; exact Nat.le_trans h k
    clear k
    (repeat' split) <;> first | exact hr _ _ rfl | exact hh _ _ rfl | trivial | exact ge_endFatal (hh _ _ rfl) | exact ge_endThrow (hh _ _ rfl)
theorem ge_unwind {d : Nat} {p : Program} {main : Bool} {fr : Frame} {callers : List Frame} {dying : Option Dying} {w : World} (h : d <= w.drawn) : ge d (unwind p main fr callers dying w) := by
  unfold unwind
  split
  . rename_i block args ds _
    have k := runT_wd p (Instr.takeDeferred block) w #[]
    generalize (Instr.takeDeferred block).runT p w #[] = r at k
    obtain ⟨r, es⟩ := r
    dsimp only at k ⊢
    refine ge_after ?_
    split
    . exact Nat.le_trans h k
    . trivial
  . exact ge_callDeferred h
  . split
    . trivial
    . split
      . trivial
      . split
        . exact h
        . split
          . split
            . exact h
            . split
              . rename_i heq
                exact Nat.le_trans h (run_ok heq)
              . trivial
              . trivial
          . split
            . exact ge_endPrinting h
            . trivial
    . split
      . exact ge_doReturn h
      . rename_i fn _
        have k := runT_wd p (results fn fr.tmps) w #[]
        generalize (results fn fr.tmps).runT p w #[] = r at k
        obtain ⟨r, es⟩ := r
        dsimp only at k ⊢
        refine ge_after ?_
        split
        . exact ge_doReturn (Nat.le_trans h k)
        . trivial
        . trivial
theorem ge_apply {d : Nat} {p : Program} {listen : Bool} {fr : Frame} {callers : List Frame} {dying : Option Dying} {s : Sem Next} {w : World} (h : d <= w.drawn) : ge d (stepG.apply p listen fr callers dying s w) := by
  unfold stepG.apply
  have k : ∀ r es, (if listen then s.runT p w #[] else (s.run p w, #[])) = (r, es) -> w.drawn <= Result.wd r := by
    intro r es e
    split at e
    . exact runT_eq e
    . simp only [Prod.mk.injEq] at e
      rw [<- e.1]
      exact run_drawn p s w
  generalize (if listen then s.runT p w #[] else (s.run p w, #[])) = r at k
  obtain ⟨r, es⟩ := r
  have k := k r es rfl
  extract_lets
  dsimp only
  refine ge_after ?_
  have hr : ∀ a w', r = .ok a w' -> d <= w'.drawn := fun a w' e => by subst e; exact Nat.le_trans h k
  have hh : ∀ a w', r = .halt a w' -> d <= w'.drawn := fun a w' e => by subst e; exact Nat.le_trans h k
  clear k
  (repeat' split) <;> first | exact hr _ _ rfl | exact hh _ _ rfl | trivial | exact ge_endFatal (hh _ _ rfl) | exact ge_endThrow (hh _ _ rfl) | exact ge_endThrow (hr _ _ rfl) | exact ge_early (hh _ _ rfl)
theorem ge_oper {d : Nat} {p : Program} {listen : Bool} {fr : Frame} {callers : List Frame} {dying : Option Dying} {w : World} (h : d <= w.drawn) : ge d (stepG.oper p listen fr callers dying w) := by
  unfold stepG.oper
  (repeat' split) <;> first | trivial | exact ge_apply h
theorem ge_exec {d : Nat} {p : Program} {main : Bool} {listen : Bool} {fr : Frame} {callers : List Frame} {dying : Option Dying} {w : World} (h : d <= w.drawn) : ge d (stepG.exec p main listen fr callers dying w) := by
  unfold stepG.exec
  extract_lets go to lost leave
  have hgo : ∀ fr w, d <= World.drawn w -> ge d (go fr w) := fun fr w hw => hw
  have hto : ∀ l, ge d (to l) := fun l => h
  have hlost : ∀ m, ge d (lost m) := fun m => trivial
  have hleave : ∀ j, ge d (leave j) := by
    intro j
    unfold leave
    split
    . (repeat' split) <;> first | exact h | trivial
    . rename_i l _
      have k := runT_wd p (Instr.endRound l j) w #[]
      generalize (Instr.endRound l j).runT p w #[] = r at k
      obtain ⟨r, es⟩ := r
      dsimp only at k ⊢
      refine ge_after ?_
      split
      . exact ge_doReturn (Nat.le_trans h k)
      . trivial
  have helim : ∀ (o : Option (List Item)) j, ge d (o.elim (leave j) to) := fun o j => by
    cases o with
    | none => exact hleave j
    | some l => exact hto l
  have hext : ∀ (o : Option (Array Value -> Sem Next)) m args, ge d (o.elim (lost m) fun e => stepG.apply p listen fr callers dying (e args) w) := fun o m args => by
    cases o with
    | none => exact hlost m
    | some e => exact ge_apply h
  clear_value leave lost to go
  (repeat' split) <;> first
    | exact hleave _
    | exact hto _
    | exact hlost _
    | exact helim _ _
    | exact hext _ _ _
    | exact hgo _ _ h
    | trivial
    | exact ge_apply h
    | exact ge_oper h
    | exact ge_after trivial
    | (rename_i heq; exact ge_after (ge_apply (Nat.le_trans h (runT_eq heq))))
    | (rename_i heq; exact ge_after (hgo _ _ (Nat.le_trans h (runT_eq heq))))
    | (rename_i heq; exact hgo _ _ (Nat.le_trans h (run_ok heq)))
    | skip
theorem ge_stepG {d : Nat} {p : Program} {main : Bool} {g : Goroutine} {w : World} {listen : Bool} (h : d <= w.drawn) : ge d (stepG p main g w listen) := by
  unfold stepG
  (repeat' split) <;> first | exact ge_die h | exact ge_exec h | exact ge_unwind h
def sge (d : Nat) : Stepped -> Prop
  | .next m => d <= m.world.drawn
  | .ended _ _ => True
theorem sge_communicate {d : Nat} {p : Program} {rest : Rest} {gs : Array Goroutine} {i : Nat} {g : Goroutine} {cases : Array CommCase} {blocking : Bool} {shape : CommShape} {w : World} (h : d <= w.drawn) : sge d (communicate p rest gs i g cases blocking shape w).1 := by
  unfold communicate
  extract_lets put illMade me other
  have hput : ∀ g gs w ops, d <= World.drawn w -> sge d (put g gs w ops).1 := fun _ _ _ _ hw => hw
  have hput' : ∀ g gs hp ops (w : World), d <= w.drawn -> sge d (put g gs { w with heap := hp } ops).1 := fun _ _ _ _ _ hw => hw
  clear_value put illMade me other
  split
  . trivial
  . split
    . split
      . split
        . rename_i w' heq
          unfold waitingAt at heq
          split at heq
          . split at heq
            . cases heq
              exact h
            . cases heq
          . cases heq
            exact h
        . trivial
      . exact hput _ _ _ _ h
    . split
      . trivial
      . rename_i k c way w' heq
        have hw : d <= w'.drawn := Nat.le_trans h (run_ok heq)
        clear heq
        extract_lets r
        clear_value r
        split
        . split
          . rename_i heq
            exact hput _ _ _ _ (Nat.le_trans hw (run_halt heq))
          . trivial
        . exact hput _ _ _ _ hw
        . exact hput' _ _ _ _ _ hw
        . extract_lets v buf
          split
          . exact hput' _ _ _ _ _ hw
          . split
            . rename_i heq
              exact hput' _ _ _ _ _ (Nat.le_trans hw (run_ok heq))
            . trivial
        . exact hput' _ _ _ _ _ hw
        . exact hput' _ _ _ _ _ hw
        . trivial
theorem sge_look {d : Nat} {p : Program} {gs : Array Goroutine} {rest : Rest} {w : World} (h : d <= w.drawn) : sge d (look p gs rest w) := by
  unfold look
  split
  . extract_lets
    (repeat' split) <;> first
      | trivial
      | (apply Nat.le_trans h; apply run_ok; assumption)
      | (extract_lets; (repeat' split) <;> first | trivial | (dsimp only [sge]; apply Nat.le_trans h; apply run_ok; assumption))
  . trivial
theorem sge_serve {d : Nat} {p : Program} {m : Machine} {k : Nat} (h : d <= m.world.drawn) : sge d (serve p m k) := by
  unfold serve
  split
  . trivial
  . exact h
  . extract_lets
    split
    . trivial
    . exact h
theorem drain_drawn (w : World) (c : Nat) : (drain w c).2.drawn = w.drawn := by
  unfold drain
  split <;> rfl
theorem retime_drawn (m : Machine) (k : Nat) (t : Timer) (a b : Nat) : (retime m k t a b).2.world.drawn = m.world.drawn := by
  unfold retime
  cases t.chan with
  | none => rfl
  | some c => exact drain_drawn m.world c
theorem timerOp_drawn {m m' : Machine} {op : TimerOp} {v : Value} (h : timerOp m op = .ok (v, m')) : m'.world.drawn = m.world.drawn := by
  have hn : ∀ (m : Machine) var f v m', (∀ k t, (f k t).2.world.drawn = m.world.drawn) -> timerOp.named m var f = .ok (v, m') -> m'.world.drawn = m.world.drawn := by
    intro m var f v m' hf e
    unfold timerOp.named at e
    split at e
    . rename_i k _
      have k2 := hf k (m.rest.timers.getD k default)
      simp only [Except.ok.injEq] at e
      rw [e] at k2
      exact k2
    . cases e
  cases op with
  | new t =>
    simp only [timerOp] at h
    split at h
    . cases h; rfl
    . split at h
      . split at h
        . cases h
        . cases h; rfl
      . cases h
  | stop var =>
    simp only [timerOp] at h
    exact hn m _ _ _ _ (fun k t => retime_drawn m k t _ _) h
  | reset var when_ period =>
    simp only [timerOp] at h
    split at h
    . rename_i m2 heq
      have e2 : m2.world.drawn = m.world.drawn := by
        unfold timerOp.opened at heq
        split at heq
        . split at heq
          . cases heq; rfl
          . cases heq
        . cases heq; rfl
      refine hn m _ _ _ _ (fun k t => ?_) h
      rw [retime_drawn]
      exact e2
    . cases h
  | deadline ctx read write when_ =>
    simp only [timerOp, Except.ok.injEq, Prod.mk.injEq] at h
    rw [<- h.2]
    rfl
theorem sge_runT {d : Nat} {p : Program} {m : Machine} {i : Nat} {listen : Bool} (h : d <= m.world.drawn) : sge d (runT p m i listen).1 := by
  unfold runT
  extract_lets rest world
  split
  rename_i g gs _
  extract_lets wake fn pos s ops done
  have hs : ge d s := ge_stepG h
  clear_value s
  have hT : ∀ (fr : Frame) m (w : World), d <= w.drawn -> ∀ i gs r, sge d (match endThrow fr m w with | .go g w _ => .next { world := w, gs := Array.setIfInBounds gs i g, rest := r } | _ => .ended (.stuck "" "") w) := fun fr m w hw i gs r => hw
  cases s with
  | ended o w es => trivial
  | comm g cases blocking shape w es => exact sge_communicate hs
  | go g w es => exact hs
  | spawn g child w es => exact hs
  | count g w es =>
    show sge d (if _ then _ else _)
    refine iteInduction (motive := fun s => sge d s) (fun _ => trivial) fun _ => ?_
    exact hs
  | alone g on w es => exact hs
  | collect g w es => exact sge_look hs
  | watch g w es => exact hs
  | newcoro g c dd w es => exact hs
  | coroswitch g c exit w es =>
    dsimp only [done]
    split
    . exact hs
    . exact hs
    . trivial
  | timer g op w es =>
    dsimp only [done]
    split
    . rename_i heq
      exact Nat.le_trans hs (Nat.le_of_eq (timerOp_drawn heq).symm)
    . exact hs
    . trivial
    . trivial
def mge (d : Nat) : Move -> Prop
  | .goroutine m _ => d <= m.world.drawn
  | .machine s _ => sge d s
theorem mge_askOn {d : Nat} {p : Program} {m : Machine} (h : d <= m.world.drawn) : mge d (askOn p m) := by
  unfold askOn
  extract_lets mono rs ds pick
  have hp : ∀ m : Machine, d <= m.world.drawn -> mge d (pick m) := by
    intro m h
    unfold pick
    split
    . trivial
    . rename_i heq
      have h1 := Nat.le_trans h (run_ok heq)
      split
      . exact h1
      . split
        . trivial
        . rename_i heq2
          exact Nat.le_trans h1 (run_ok heq2)
  clear_value pick
  clear_value rs
  split
  . trivial
  . rename_i heq
    have h1 := Nat.le_trans h (run_ok heq)
    have hm : ∀ w : World, d <= w.drawn -> d <= ({ m with world := w } : Machine).world.drawn := fun _ h => h
    extract_lets
    (repeat' split) <;> first
      | exact h1
      | exact sge_serve (hm _ h1)
      | exact hp _ (hm _ h1)
      | trivial
      | (extract_lets; split <;> trivial)
      | exact hp _ (Nat.le_trans h1 (by apply run_ok; assumption))
      | (apply hp; dsimp only [Machine.advanceTo]; apply Nat.le_trans h1; apply run_ok; assumption)
      | (dsimp only [mge, sge, Machine.advanceTo]; apply Nat.le_trans h1; apply run_ok; assumption)
theorem mge_ask {d : Nat} {p : Program} {m : Machine} (h : d <= m.world.drawn) : mge d (ask p m) := by
  unfold ask
  split
  . split
    . trivial
    . rename_i heq
      have h1 := sge_look (p := p) (gs := m.gs) (rest := m.rest) (Nat.le_trans h (run_ok heq))
      split
      . rename_i heq2
        rw [heq2] at h1
        exact mge_askOn h1
      . exact h1
    . rename_i heq
      exact mge_askOn (Nat.le_trans h (run_ok heq))
  . exact mge_askOn h
theorem mge_move {d : Nat} {p : Program} {m : Machine} (h : d <= m.world.drawn) : mge d (move p m) := by
  unfold move
  split
  . split
    . exact h
    . trivial
  . split
    . split
      . exact h
      . exact mge_ask h
    . exact mge_ask h
theorem step_drawn {p : Program} {m m' : Machine} (h : step p m = .next m') : m.world.drawn <= m'.world.drawn := by
  have k : sge m.world.drawn (step p m) := by
    unfold step stepT
    have k := mge_move (p := p) (Nat.le_refl m.world.drawn)
    generalize move p m = mv at k
    cases mv with
    | goroutine m2 i => exact sge_runT k
    | machine s ops => exact k
  rw [h] at k
  exact k
theorem steps_drawn {p : Program} {m m' : Machine} (h : Steps p m m') : m.world.drawn <= m'.world.drawn := by
  obtain ⟨n, hn⟩ := h
  induction n generalizing m with
  | zero =>
    simp only [runN, Stepped.next.injEq] at hn
    subst hn
    exact Nat.le_refl _
  | succ n ih =>
    simp only [runN] at hn
    cases hs : step p m with
    | next m1 =>
      rw [hs] at hn
      exact Nat.le_trans (step_drawn hs) (ih hn)
    | ended o w => rw [hs] at hn; simp at hn
theorem calls_drawn {P : Program} {f : FuncId} {args : Array Value} {w : World} {R : Ending -> World -> Prop} (h : Calls P f args w R) :
    Calls P f args w fun e w' => R e w' /\ (e = .outgrown \/ w.drawn <= w'.drawn) := by
  intro cs
  obtain ⟨e, w', fr, hr, hc, hf, hl⟩ := h cs
  refine ⟨e, w', fr, ⟨hr, ?_⟩, hc, hf, hl⟩
  cases e with
  | outgrown => exact .inl rfl
  | returned v => exact .inr (steps_drawn hc)
  | panicked c => exact .inr (steps_drawn hc)
end Go.Proofs.Dr
namespace Go.Proofs.YtckpadnjldebaaaGreat
open Go.Proofs Go.Sort Go.Shelf
set_option linter.unusedVariables false
def sIx (cf : Nat -> Nat -> Int) (n : Nat) : List Nat := (pdq (ltOf cf) (Array.range n) 0 (Array.range n).size (Lib.bitLen (Array.range n).size) true true).toList
theorem sIx_sorts {cf : Nat -> Nat -> Int} (hO : SWO (ltOf cf)) (n : Nat) : (sIx cf n).Perm (List.range n) /\ (sIx cf n).Pairwise fun i j => ¬ cf j i < 0 := by
  have h := pdq_sorts (ltOf cf) hO (Array.range n) 0 (Array.range n).size (Lib.bitLen (Array.range n).size) true true (Nat.zero_le _) (Nat.le_refl _) (Or.inl rfl)
  obtain ⟨⟨h1, h2, h3⟩, h4⟩ := h
  unfold sIx
  generalize pdq (ltOf cf) (Array.range n) 0 (Array.range n).size (Lib.bitLen (Array.range n).size) true true = d at *
  refine ⟨?_, ?_⟩
  . have e1 : d.extract 0 (Array.range n).size = d := by rw [<- h1]; simp
    have e2 : (Array.range n).extract 0 (Array.range n).size = Array.range n := by simp
    rw [e1, e2] at h3
    simpa using h3
  . rw [List.pairwise_iff_getElem]
    intro i j hi hj hij
    have hj' : j < d.size := by simpa using hj
    have k := h4 i j (Nat.zero_le _) hij (by rw [<- h1]; exact hj')
    rw [getElem!_pos d j hj', getElem!_pos d i (by omega)] at k
    simpa [ltOf] using k
theorem sIx_length {cf : Nat -> Nat -> Int} (hO : SWO (ltOf cf)) (n : Nat) : (sIx cf n).length = n := by
  rw [(sIx_sorts hO n).1.length_eq, List.length_range]
theorem callable_enters {P : Program} {g : Nat} (h : Callable P g) : ∀ (args : Array Value) (w : World), (callFunc g args).run P w = .ok (.enter g args) w := by
  intro args w
  obtain ⟨fn, h1, h2, h3⟩ := h
  have h3' : ¬ fn.name = "runtime.NumGoroutine" := by simpa using h3
  have h2' : ¬ fn.body = none := fun e => by simp [e] at h2
  simp [callFunc, h1, h2', h3']
theorem cmp_lays {P : Program} {g : Nat} {xs : List D} {c : Int} (hc : AC P g xs (.int .i64 c)) {W : World} {ok : Nat -> Prop} {vs : Array Value} (hok : ∀ b, ok b -> b < W.heap.size) (hr : RepAll ok W vs xs) :
    Calls P g vs W fun e w' => e = .returned (.int .i64 c) /\ ∃ q os', w' = grow (W.drewN q) os' := by
  refine (Dr.calls_drawn (hc.2 W ok vs envAt_any hok hr)).mono ?_
  rintro e w' ⟨⟨v, rfl, hv, hb⟩, hd⟩
  refine ⟨by rw [hv.int_inv], ?_⟩
  have hd : W.drawn <= w'.drawn := by
    rcases hd with h | h
    . cases h
    . exact h
  obtain ⟨p, hp⟩ := regrown_of_below hb
  refine ⟨p.d - W.drawn, p.os, ?_⟩
  rw [hp] at hd
  have e1 : W.drawn + (p.d - W.drawn) = p.d := by
    have : W.drawn <= p.d := hd
    omega
  rw [hp]
  unfold World.drewN redrawn
  rw [e1]
def encV (vs : List Value) (i : Nat) : Value := vs.getD i (.slice none 0 0)
theorem encV_rep {ok : Nat -> Prop} {w : World} {vs : List Value} {xs : List D} (hl : vs.length = xs.length) (h : ∀ (i : Nat) v x, vs[i]? = some v -> xs[i]? = some x -> RepD ok w v x) (i : Nat) : RepD ok w (encV vs i) (xs.getD i (.lst [])) := by
  unfold encV
  rw [List.getD_eq_getElem?_getD, List.getD_eq_getElem?_getD]
  by_cases hi : i < xs.length
  . have e1 : xs[i]? = some xs[i] := List.getElem?_eq_getElem hi
    have e2 : vs[i]? = some vs[i] := List.getElem?_eq_getElem (by omega)
    rw [e1, e2]
    exact h i _ _ e2 e1
  . rw [List.getElem?_eq_none (by omega), List.getElem?_eq_none (by omega)]
    exact .nil0
theorem getD_one {xs : List D} (h : ∀ x ∈ xs, x.one = true) (i : Nat) : (xs.getD i (.lst [])).one = true := by
  rw [List.getD_eq_getElem?_getD]
  cases e : xs[i]? with
  | none => rfl
  | some x => exact h x (List.mem_of_getElem? e)
theorem putRow_old {α : Type} [Inhabited α] (enc : α -> Value) (w : World) (b off n : Nat) (d : Array α) (os : Array Obj) {k : Nat} (hk : k ≠ b) (hs : k < w.heap.size) : (sortWorld enc w b off n d os).heap[k]? = w.heap[k]? := by
  unfold sortWorld
  rw [heap_grow_old _ _ (by simpa using hs)]
  simp only [putRow, mapBlock, heap_ahead, Array.getElem?_modify]
  rw [if_neg (by omega)]
theorem putRow_at {α : Type} [Inhabited α] (enc : α -> Value) (w : World) (b off n : Nat) (d : Array α) (os : Array Obj) {cur : Array Value} {e : Nat} {fr : Nat × Nat} (hb : w.heap[b]? = some (.cells cur e fr)) : (sortWorld enc w b off n d os).heap[b]? = some (.cells (putCells enc off d cur) e fr) := by
  have hs : b < w.heap.size := by
    rcases Nat.lt_or_ge b w.heap.size with h | h
    . exact h
    . rw [Array.getElem?_eq_none h] at hb; cases hb
  unfold sortWorld
  rw [heap_grow_old _ _ (by simpa using hs)]
  simp only [putRow, mapBlock, heap_ahead, Array.getElem?_modify]
  rw [if_pos trivial, hb]
  rfl
theorem putCells_take {α : Type} [Inhabited α] (enc : α -> Value) (d : Array α) (cur : Array Value) (h : d.size <= cur.size) : (putCells enc 0 d cur).toList.take d.size = d.toList.map enc := by
  apply List.ext_getElem?
  intro i
  simp only [putCells, List.getElem?_take, List.getElem?_map, Array.getElem?_toList, Array.getElem?_mapIdx]
  by_cases hi : i < d.size
  . rw [if_pos hi, Array.getElem?_eq_getElem hi, Array.getElem?_eq_getElem (by omega), Option.map_some, Option.map_some, if_pos ⟨by omega, by omega⟩, Nat.sub_zero, getElem!_pos d i hi]
  . rw [if_neg hi, Array.getElem?_eq_none (by omega)]
    rfl
theorem hc_sortFunc {P : Program} {ρ : Ren} (L : SlLaysF.n6 P ρ) {g e : Nat} {xs : List D} {cf : Nat -> Nat -> Int} (hO : SWO (ltOf cf)) (hone : ∀ x ∈ xs, x.one = true) (hlen : xs.length < 4611686018427387904)
    (hc : ∀ i j, AC P g [xs.getD i (.lst []), xs.getD j (.lst [])] (.int .i64 (cf i j))) :
    HC P (ρ.f 6) [.own 10000, .d (.fn g [])] [(10000, .arr e 1 xs)] (.d (.tup [])) [(10000, .arr e 1 ((sIx cf xs.length).map fun i => xs.getD i (.lst [])))] := by
  have hsl := sIx_length hO xs.length
  refine ⟨?_, ?_, ?_⟩
  . obtain ⟨nm, hn, hf⟩ := L.f6
    exact ⟨_, hf, rfl, hn⟩
  . exact fun p hp ha => by
      obtain rfl := List.mem_singleton.1 hp
      exact ⟨_, rfl, rfl, rfl, by simp [hsl]⟩
  . intro w ok σ vs henv hok hown hvs
    have hR : RepArr ok w (σ 10000) e 1 xs := hown.rep (10000, .arr e 1 xs) (by simp)
    simp only [RepSVs, RepSV, Heap.get, if_true] at hvs
    obtain ⟨v1, r1, hv1, hv2, -, v2, r2, rfl, hv3, -, rfl⟩ := hvs
    subst hv2
    have hf2 : v2 = .func (.func g) #[] #[] := by
      cases hv3 with
      | fn _ cs _ h1 h2 =>
        have : cs = #[] := by simpa using h1
        rw [this]
    subst hf2
    have hvs : vs = #[sliceAt (σ 10000) xs.length, .func (.func g) #[] #[]] := by
      apply Array.toList_inj.1
      exact hv1
    subst hvs
    obtain ⟨h0, cl, ⟨hcl, hrow⟩, hcl2, us, hus, hrep, hcell⟩ := hR
    generalize hl : σ 10000 = l at *
    have tup : ∀ (ok : Nat -> Prop) (w : World), RepD ok w (.tuple #[]) (.tup []) := fun ok w => .tup #[] [] rfl fun i v x hv hx => by simp at hx
    rcases hrow with ⟨hn, hz⟩ | ⟨b, cap, cur, hv, -, hb, hcap, hmax, hsz, htake⟩
    . -- no element, no memory
      have hx : xs = [] := List.length_eq_zero_iff.1 hz
      subst hx
      have hix : (sIx cf ([] : List D).length) = [] := List.length_eq_zero_iff.1 hsl
      rw [hix]
      have hcall := AnyF.slices_SortFunc_none (P := P) (ρ := ρ) { L with } none 0 (.func (.func g) #[] #[]) w
      rw [hn]
      refine hcall.mono ?_
      rintro ex w' ⟨rfl, rfl⟩
      have hO' := hown
      refine ⟨_, σ, rfl, ⟨rfl, rfl, rfl, Nat.le_refl _, fun b' _ _ => rfl, by simp, fun p hp => ?_, fun p hp q hq b' h1 h2 => ?_, fun p hp b' hb1 => ?_, fun p hp => ?_, fun p hp _ => rfl⟩, tup _ _⟩
      . obtain rfl := List.mem_singleton.1 hp
        exact hown.nd _ (List.mem_singleton.2 rfl)
      . rw [List.mem_singleton.1 hp, List.mem_singleton.1 hq]
      . obtain rfl := List.mem_singleton.1 hp
        have hm := hown.mine (10000, .arr e 1 []) (List.mem_singleton.2 rfl) b' hb1
        exact ⟨hm.1, .inr ⟨(by omega : (10000 : Nat) < 30000), _, rfl, hb1⟩⟩
      . obtain rfl := List.mem_singleton.1 hp
        have k := hown.rep (10000, .arr e 1 []) (List.mem_singleton.2 rfl)
        refine RepChunk.mono (h := [(10000, .arr e 1 [])]) k (fun b' h1 h2 => ⟨⟨.inl h1, fun p hp h3 => ?_⟩, rfl⟩) fun b' _ => rfl
        obtain rfl := List.mem_singleton.1 hp
        exact (hown.mine (10000, .arr e 1 []) (List.mem_singleton.2 rfl) b' h3).2 h1
    . have hnil : l.nil = false := by
        cases hh : l.nil with
        | false => rfl
        | true => simp [sliceAt, hh] at hv
      have hlb : l.b = b /\ l.cap = cap := by
        simp only [sliceAt, hnil, Bool.false_eq_true, if_false, Value.slice.injEq, Option.some.injEq, Addr.mk.injEq] at hv
        exact ⟨hv.1.1, hv.2.2⟩
      obtain ⟨hlb, hlc⟩ := hlb
      subst hlb hlc
      have hsize : l.b < w.heap.size := by
        rcases Nat.lt_or_ge l.b w.heap.size with h | h
        . exact h
        . rw [Array.getElem?_eq_none h] at hb; cases hb
      have hnok : ¬ ok l.b := (hown.mine (10000, .arr e 1 xs) (by simp) l.b (by simp [blk, hl, hnil])).2
      have hus1 : ∀ (i : Nat) v, us[i]? = some v -> cl[i]? = some v := by
        intro i v hi
        have hil : i < xs.length := by
          rcases Nat.lt_or_ge i us.length with h | h
          . omega
          . rw [List.getElem?_eq_none h] at hi; cases hi
        have k := (hcell i v hi).2 0 (by omega)
        rw [(hrep i v xs[i] hi (List.getElem?_eq_getElem hil)).oneCell (hone _ (List.getElem_mem hil))] at k
        simpa using k
      have hcu : ∀ i, i < xs.length -> cur[i]? = some (encV us i) := by
        intro i hi
        have e1 : us[i]? = some us[i] := List.getElem?_eq_getElem (by omega)
        have e2 := hus1 i _ e1
        subst htake
        rw [List.getElem?_take, if_pos (by omega), Array.getElem?_toList] at e2
        rw [e2]
        unfold encV
        rw [List.getD_eq_getElem?_getD, e1]
        rfl
      have hH : Holds (encV us) w l.b 0 (Array.range xs.length) := by
        intro j hj
        have hj' : j < xs.length := by simpa using hj
        refine ⟨?_, ?_⟩
        . simp only [World.cell?, hb, Nat.zero_add, Option.isSome_none, Bool.false_eq_true, if_false]
          rw [hcu j hj']
          simp [hj']
        . simp [World.frozen?, hb]
      have hokW : ∀ m (dk : Array Nat) os b', ok b' -> b' < w.heap.size -> ok b' /\ (sortWorld (encV us) w l.b 0 m dk os).heap[b']? = w.heap[b']? := fun m dk os b' h1 h2 =>
        ⟨h1, putRow_old _ _ _ _ _ _ _ (fun e => hnok (e ▸ h1)) h2⟩
      have hcmp : CmpLays1 P g #[] (encV us) cf l.b 0 (Array.range xs.length).size w := by
        intro m os dk hs x y
        refine cmp_lays (hc x y) (ok := ok) (fun b' hb' => ?_) ?_
        . have := hok b' hb'
          unfold sortWorld
          simp
          omega
        . refine ⟨rfl, ?_⟩
          have ex := (encV_rep hus hrep x).mono (hokW m dk os)
          have ey := (encV_rep hus hrep y).mono (hokW m dk os)
          intro i v z hv hz
          match i, hv, hz with
          | 0, hv, hz =>
            simp at hv hz
            subst hv hz
            exact ex
          | 1, hv, hz =>
            simp at hv hz
            subst hv hz
            exact ey
          | i + 2, hv, hz => simp at hz
      have hcall := Any.slices_SortFunc_eq L (encV us) (fun i => (encV_rep hus hrep i).oneCell' (getD_one hone i)) cf hO g #[] l.b 0 l.cap (Array.range xs.length) w (callable_enters (hc 0 0).1) hcmp hH hsize (by simpa using hlen)
      have hargs : sliceAt l xs.length = .slice (some ⟨l.b, 0, none⟩) (Array.range xs.length).size l.cap := by simp [sliceAt, hnil]
      rw [hargs]
      refine hcall.mono ?_
      rintro ex w' ⟨rfl, n, os, rfl⟩
      have hsx : pdq (ltOf cf) (Array.range xs.length) 0 (Array.range xs.length).size (Lib.bitLen (Array.range xs.length).size) true true = (sIx cf xs.length).toArray := by
        unfold sIx
        simp
      rw [hsx]
      generalize sIx cf xs.length = ix at *
      have hixs : ix.toArray.size = ix.length := by simp
      have hcs : ix.toArray.size <= cur.size := by rw [hixs, hsl, hsz]; omega
      have hb' := putRow_at (encV us) w l.b 0 n ix.toArray os hb
      have hold : ∀ b', b' < w.heap.size -> b' ≠ l.b -> (sortWorld (encV us) w l.b 0 n ix.toArray os).heap[b']? = w.heap[b']? := fun b' h1 h2 => putRow_old _ _ _ _ _ _ _ h2 h1
      have hsz' : w.heap.size <= (sortWorld (encV us) w l.b 0 n ix.toArray os).heap.size := by
        unfold sortWorld
        simp
      have htk := putCells_take (encV us) ix.toArray cur hcs
      have hos : (sortWorld (encV us) w l.b 0 n ix.toArray os).os = w.os /\ (sortWorld (encV us) w l.b 0 n ix.toArray os).tape = w.tape /\ (sortWorld (encV us) w l.b 0 n ix.toArray os).output = w.output := ⟨rfl, rfl, rfl⟩
      generalize sortWorld (encV us) w l.b 0 n ix.toArray os = W at *
      have hblk : ∀ ys, blk (σ 10000) (Chunk.arr e 1 ys) = [l.b] := fun ys => by simp [blk, hl, hnil]
      refine ⟨_, σ, rfl, ⟨hos.1, hos.2.1, hos.2.2, hsz', ?_, ?_, ?_, ?_, ?_, ?_, ?_⟩, tup _ _⟩
      . intro b' h1 h2
        refine hold b' h1 fun e1 => ?_
        refine h2 (10000, .arr e 1 xs) (by simp) ?_
        rw [hblk, e1]
        simp
      . simp
      . intro p hp
        obtain rfl := List.mem_singleton.1 hp
        rw [hblk]
        simp
      . intro p hp q hq b' h1 h2
        rw [List.mem_singleton.1 hp, List.mem_singleton.1 hq]
      . intro p hp b' hb1
        obtain rfl := List.mem_singleton.1 hp
        rw [hblk] at hb1
        obtain rfl := List.mem_singleton.1 hb1
        refine ⟨by omega, .inr ⟨(by omega : (10000 : Nat) < 30000), _, rfl, ?_⟩⟩
        rw [hblk]
        simp
      . intro p hp
        obtain rfl := List.mem_singleton.1 hp
        show RepArr _ W (σ 10000) e 1 _
        rw [hl]
        refine ⟨by omega, ix.map (encV us), ⟨by simp, .inr ⟨l.b, l.cap, putCells (encV us) 0 ix.toArray cur, by simp [sliceAt, hnil], Nat.zero_le _, hb', by simp [hsl, hcap], hmax, by simp [putCells, hsz], ?_⟩⟩, by simp, ix.map (encV us), by simp, ?_, ?_⟩
        . simp only [List.length_map, Nat.mul_one]
          rw [hixs] at htk
          exact htk
        . intro i v x hv hx
          rw [List.getElem?_map, Option.map_eq_some_iff] at hv hx
          obtain ⟨j, hj, rfl⟩ := hv
          obtain ⟨j', hj', rfl⟩ := hx
          rw [hj] at hj'
          cases hj'
          refine (encV_rep hus hrep j).mono fun b' h1 h2 => ⟨⟨.inl h1, fun p hp h3 => ?_⟩, hold b' h2 fun e1 => hnok (e1 ▸ h1)⟩
          obtain rfl := List.mem_singleton.1 hp
          rw [hblk] at h3
          exact hnok (List.mem_singleton.1 h3 ▸ h1)
        . intro i v hv
          have hv' := hv
          rw [List.getElem?_map, Option.map_eq_some_iff] at hv
          obtain ⟨j, hj, rfl⟩ := hv
          have hone1 := (encV_rep hus hrep j).oneCell (getD_one hone j)
          rw [hone1]
          refine ⟨rfl, fun k hk => ?_⟩
          obtain rfl : k = 0 := by omega
          simpa using hv'
      . intro p hp _
        rfl
end Go.Proofs.YtckpadnjldebaaaGreat
