/- PARTS OF THE WALKS, joined: Drawn, SortK, StageT. -/
import Derived.Calls
import Derived.Test.YtnheioehadldmaaGreatR09
import Derived.Shelf.SlSortCmp.WholeK
import Derived.Test.YtnheioehadldmaaGreatR06
/- EVERY RUN DRAWS ON: the number of answers drawn never falls. So a contract may tell that too. -/
namespace Go.Proofs.YtnheioehadldmaaGreat
def rw_ {α : Type} : Result α → World
  | .ok _ w => w
  | .halt _ w => w
theorem ask_le {α : Type} : ∀ (k : Ask α) (w : World), w.drawn ≤ (w.ask k).2.drawn
  | .done a, w => by rw [World.ask]; exact Nat.le_refl _
  | .ask what range k, w => by
    rw [World.ask]
    split
    · exact ask_le _ w
    · exact Nat.le_trans (Nat.le_succ _) (ask_le _ { w with drawn := w.drawn + 1 })
theorem sys_le (w : World) (c : Sys) : w.drawn ≤ (w.sys c).2.drawn := by
  unfold World.sys
  have h := ask_le (Kernel.perform c w.os) w
  split
  · exact Nat.le_refl _
  · rename_i e
    rw [e] at h; exact h
theorem setCell_dr (w : World) (a : Addr) (v : Value) : (w.setCell a v).drawn = w.drawn := by
  unfold World.setCell
  split <;> rfl
theorem freeze_dr (w : World) (a : Addr) (n : Nat) : (w.freeze a n).drawn = w.drawn := by
  unfold World.freeze
  repeat' split
  all_goals rfl
theorem viewStore_dr {p : Program} {w w' : World} {at_ : Addr} {u : TypeId} {k : Addr} {v : Value} {b : Bool} {l : List Addr} (h : w.viewStore p at_ u k v b = .ok (w', l)) : w'.drawn = w.drawn := by
  unfold World.viewStore at h
  simp only [bind, Except.bind, pure, Except.pure] at h
  repeat' split at h
  all_goals first | (cases h; done) | (injection h with h; injection h with h1 h2; rw [← h1])
theorem farStore_dr {p : Program} {w w' : World} {a : Addr} {v : Value} {b : Bool} {l : List Addr} (h : w.farStore p a v b = .ok (w', l)) : w'.drawn = w.drawn := by
  unfold World.farStore at h
  split at h
  · split at h
    · rename_i r e
      injection h with h
      subst h
      exact viewStore_dr e
    · cases h
  · cases h
theorem run_le {α : Type} (p : Program) : ∀ (s : Sem α) (w : World), w.drawn ≤ (rw_ (s.run p w)).drawn
  | .pure a, w => by rw [Sem.run]; exact Nat.le_refl _
  | .load m a k, w => by
    rw [Sem.run]
    split
    · exact run_le p _ w
    · split
      · exact run_le p _ w
      · exact Nat.le_refl _
  | .store m a v k, w => by
    have key : w.drawn ≤ (rw_ (match w.cell? a with
      | some _ => if w.frozen? a then Result.halt (.unsupported (.unsafePointer "a write to bytes that a string shares")) w else k.run p (w.setCell a v)
      | none => match w.farStore p a v (m == Mode.atomic) with
        | .ok (w, _) => k.run p w
        | .error h => .halt h w)).drawn := by
      split
      · split
        · exact Nat.le_refl _
        · have := run_le p k (w.setCell a v); rw [setCell_dr] at this; exact this
      · split
        · rename_i e
          refine Nat.le_trans ?_ (run_le p k _)
          rw [farStore_dr e]; exact Nat.le_refl _
        · exact Nat.le_refl _
    cases v
    all_goals first | (rw [Sem.run]; exact Nat.le_refl _) | (rw [Sem.run] <;> first | exact key | (intro _ h; cases h))
  | .new o k, w => by rw [Sem.run]; exact run_le p _ { w with heap := w.heap.push o }
  | .shape r k, w => by rw [Sem.run]; exact run_le p _ _
  | .freeze a n k, w => by rw [Sem.run]; have := run_le p k (w.freeze a n); rw [freeze_dr] at this; exact this
  | .frozen a k, w => by rw [Sem.run]; exact run_le p _ _
  | .getObj r k, w => by
    rw [Sem.run]
    split
    · exact Nat.le_refl _
    · exact run_le p _ _
    · exact Nat.le_refl _
  | .setObj r o k, w => by
    rw [Sem.run]
    split
    · exact Nat.le_refl _
    · exact run_le p k { w with heap := w.heap.setIfInBounds r o }
    · exact Nat.le_refl _
  | .choose q k, w => by
    rw [Sem.run]
    split
    · exact run_le p _ _
    · exact Nat.le_trans (Nat.le_succ _) (run_le p _ { w with drawn := w.drawn + 1 })
  | .sys c k, w => by rw [Sem.run]; exact Nat.le_trans (sys_le w c) (run_le p _ _)
  | .program k, w => by rw [Sem.run]; exact run_le p _ _
  | .mark m k, w => by rw [Sem.run]; exact run_le p _ _
  | .halt h, w => by rw [Sem.run]; exact Nat.le_refl _
theorem runT_le {α : Type} (p : Program) : ∀ (s : Sem α) (w : World) (es : Array Event), w.drawn ≤ (rw_ (s.runT p w es).1).drawn
  | .pure a, w, es => by rw [Sem.runT]; exact Nat.le_refl _
  | .load m a k, w, es => by
    rw [Sem.runT]
    split
    · exact runT_le p _ w _
    · split
      · exact runT_le p _ w _
      · exact Nat.le_refl _
  | .store m a v k, w, es => by
    have key : w.drawn ≤ (rw_ (match w.cell? a with
      | some _ => if w.frozen? a then (Result.halt (.unsupported (.unsafePointer "a write to bytes that a string shares")) w, es) else k.runT p (w.setCell a v) (es.push ⟨Loc.cell a, true, m == Mode.atomic⟩)
      | none => match w.farStore p a v (m == Mode.atomic) with
        | .ok (w, touched) => k.runT p w (es ++ touched.toArray.map (fun x => Event.mk (Loc.cell x) true (m == Mode.atomic)))
        | .error h => (.halt h w, es)).1).drawn := by
      split
      · split
        · exact Nat.le_refl _
        · have := runT_le p k (w.setCell a v) (es.push ⟨Loc.cell a, true, m == Mode.atomic⟩); rw [setCell_dr] at this; exact this
      · split
        · rename_i e
          refine Nat.le_trans ?_ (runT_le p k _ _)
          rw [farStore_dr e]; exact Nat.le_refl _
        · exact Nat.le_refl _
    cases v
    all_goals first | (rw [Sem.runT]; exact Nat.le_refl _) | (rw [Sem.runT] <;> first | exact key | (intro _ h; cases h))
  | .new o k, w, es => by rw [Sem.runT]; exact runT_le p _ { w with heap := w.heap.push o } _
  | .shape r k, w, es => by rw [Sem.runT]; exact runT_le p _ _ _
  | .freeze a n k, w, es => by rw [Sem.runT]; have := runT_le p k (w.freeze a n) es; rw [freeze_dr] at this; exact this
  | .frozen a k, w, es => by rw [Sem.runT]; exact runT_le p _ _ _
  | .getObj r k, w, es => by
    rw [Sem.runT]
    split
    · exact Nat.le_refl _
    · exact runT_le p _ _ _
    · exact Nat.le_refl _
  | .setObj r o k, w, es => by
    rw [Sem.runT]
    split
    · exact Nat.le_refl _
    · exact runT_le p k { w with heap := w.heap.setIfInBounds r o } _
    · exact Nat.le_refl _
  | .choose q k, w, es => by
    rw [Sem.runT]
    split
    · exact runT_le p _ _ _
    · exact Nat.le_trans (Nat.le_succ _) (runT_le p _ { w with drawn := w.drawn + 1 } _)
  | .sys c k, w, es => by rw [Sem.runT]; exact Nat.le_trans (sys_le w c) (runT_le p _ _ _)
  | .program k, w, es => by rw [Sem.runT]; exact runT_le p _ _ _
  | .mark m k, w, es => by rw [Sem.runT]; exact runT_le p _ _ _
  | .halt h, w, es => by rw [Sem.runT]; exact Nat.le_refl _
theorem run_okD {α : Type} {p : Program} {s : Sem α} {w w' : World} {a : α} (h : s.run p w = .ok a w') : w.drawn ≤ w'.drawn := by
  have := run_le p s w; rw [h] at this; exact this
theorem run_haltD {α : Type} {p : Program} {s : Sem α} {w w' : World} {a : Halt} (h : s.run p w = .halt a w') : w.drawn ≤ w'.drawn := by
  have := run_le p s w; rw [h] at this; exact this
theorem runT_okD {α : Type} {p : Program} {s : Sem α} {w w' : World} {a : α} {es es' : Array Event} (h : s.runT p w es = (.ok a w', es')) : w.drawn ≤ w'.drawn := by
  have := runT_le p s w es; rw [h] at this; exact this
theorem runT_haltD {α : Type} {p : Program} {s : Sem α} {w w' : World} {a : Halt} {es es' : Array Event} (h : s.runT p w es = (.halt a w', es')) : w.drawn ≤ w'.drawn := by
  have := runT_le p s w es; rw [h] at this; exact this
theorem runT_ok1 {α : Type} {p : Program} {s : Sem α} {w w' : World} {a : α} {es : Array Event} (h : (s.runT p w es).1 = .ok a w') : w.drawn ≤ w'.drawn := by
  have := runT_le p s w es; rw [h] at this; exact this
theorem runT_halt1 {α : Type} {p : Program} {s : Sem α} {w w' : World} {a : Halt} {es : Array Event} (h : (s.runT p w es).1 = .halt a w') : w.drawn ≤ w'.drawn := by
  have := runT_le p s w es; rw [h] at this; exact this
/-- the world of a step -/
def gw : GStep → World
  | .go _ w _ => w
  | .comm _ _ _ _ w _ => w
  | .spawn _ _ w _ => w
  | .count _ w _ => w
  | .timer _ _ w _ => w
  | .alone _ _ w _ => w
  | .newcoro _ _ _ w _ => w
  | .coroswitch _ _ _ w _ => w
  | .collect _ w _ => w
  | .watch _ w _ => w
  | .ended _ w _ => w
theorem gw_after (es : Array Event) (s : GStep) : gw (s.after es) = gw s := by cases s <;> rfl
theorem gw_ite {n : Nat} {c : Prop} [Decidable c] {a b : GStep} (h : n ≤ (gw a).drawn) (k : n ≤ (gw b).drawn) : n ≤ (gw (if c then a else b)).drawn := by split <;> assumption
theorem gw_elim {β : Type} {n : Nat} {o : Option β} {d : GStep} {f : β → GStep} (h : n ≤ (gw d).drawn) (k : ∀ x, n ≤ (gw (f x)).drawn) : n ≤ (gw (o.elim d f)).drawn := by
  cases o
  · exact h
  · exact k _
theorem endThrow_dr (fr : Frame) (m : String) (w : World) : gw (endThrow fr m w) = w := rfl
theorem endPrinting_dr (p : Program) (fr : Frame) (v : Value) (w : World) : gw (endPrinting p fr v w) = w := by
  unfold endPrinting
  dsimp only
  split <;> rfl
theorem endWith_le (w : World) (fd : Nat) (t : ByteArray) (o : Outcome) : w.drawn ≤ (gw (endWith w fd t o)).drawn := by
  unfold endWith
  have h := sys_le w (.write fd t)
  dsimp only
  split
  · rename_i e; rw [e] at h
    split <;> exact h
  · rename_i e; rw [e] at h; exact h
  · rename_i e; rw [e] at h; exact h
theorem endFatal_le (p : Program) (fr : Frame) (cs : List Frame) (d : Option Dying) (m : String) (w : World) : w.drawn ≤ (gw (endFatal p fr cs d m w)).drawn := by
  unfold endFatal
  dsimp only
  split
  · rename_i e; exact run_okD e
  · rename_i e; exact run_haltD e
  · rename_i e; exact run_haltD e
theorem writeOn_le (p : Program) (fr : Frame) (d : Dying) (f : Fatal) (w : World) : w.drawn ≤ (gw (writeOn p fr d f w)).drawn := by
  unfold writeOn
  dsimp only
  split
  · exact Nat.le_refl _
  · split
    all_goals (rename_i e; first | exact runT_okD e | exact runT_haltD e)
theorem die_le (p : Program) (fr : Frame) (d : Dying) (w : World) : w.drawn ≤ (gw (die p fr d w)).drawn := by
  unfold die
  split
  · exact writeOn_le _ _ _ _ _
  · split
    · split
      · exact Nat.le_refl _
      · exact endWith_le _ _ _ _
    · dsimp only
      split
      · exact Nat.le_refl _
      · split
        · rename_i e; exact run_okD e
        · rename_i e; exact run_haltD e
      · rw [gw_after]
        split
        all_goals first
          | exact Nat.le_refl _
          | (rename_i e; exact runT_ok1 e)
          | (rename_i e; exact runT_halt1 e)
          | (rename_i e; rw [endPrinting_dr]; exact runT_halt1 e)
      · exact Nat.le_refl _
theorem doReturn_dr (p : Program) (main : Bool) (fr : Frame) (cs : List Frame) (d : Option Dying) (v : Value) (w : World) : gw (doReturn p main fr cs d v w) = w := by
  unfold doReturn
  repeat' split
  all_goals rfl
theorem callDeferred_le (p : Program) (fr : Frame) (cs : List Frame) (dy : Option Dying) (d : Deferred) (w : World) : w.drawn ≤ (gw (callDeferred p fr cs dy d w)).drawn := by
  unfold callDeferred
  refine gw_ite ?_ ?_
  · exact Nat.le_refl _
  · dsimp only
    rw [gw_after]
    split
    all_goals try (split)
    all_goals first
      | exact runT_ok1 (by assumption)
      | exact runT_halt1 (by assumption)
      | exact Nat.le_trans (runT_halt1 (by assumption)) (endFatal_le _ _ _ _ _ _)
theorem unwind_le (p : Program) (main : Bool) (fr : Frame) (cs : List Frame) (dy : Option Dying) (w : World) : w.drawn ≤ (gw (unwind p main fr cs dy w)).drawn := by
  unfold unwind
  split
  · dsimp only
    rw [gw_after]
    split
    · rename_i e; exact runT_ok1 e
    · rename_i e; exact runT_halt1 e
  · exact callDeferred_le _ _ _ _ _ _
  · split
    · exact Nat.le_refl _
    · split
      · exact Nat.le_refl _
      · split
        · exact Nat.le_refl _
        · split
          · split
            · exact Nat.le_refl _
            · split
              all_goals (rename_i e; first | exact run_okD e | exact run_haltD e)
          · split
            · rw [endPrinting_dr]; exact Nat.le_refl _
            · exact Nat.le_refl _
    · split
      · rw [doReturn_dr]; exact Nat.le_refl _
      · dsimp only
        rw [gw_after]
        split
        · rename_i e; rw [doReturn_dr]; exact runT_ok1 e
        · rename_i e; exact runT_halt1 e
        · rename_i e; exact runT_halt1 e
theorem early_le (p : Program) (fr : Frame) (cs : List Frame) (dy : Option Dying) (g : Nat) (w : World) : w.drawn ≤ (gw (early p fr cs dy g w)).drawn := by
  have notYet : ∀ w1 : World, w.drawn ≤ w1.drawn → w.drawn ≤ (gw (match w1.heap[g]? with
    | some (.pending c elem) => .go { frame := fr, callers := cs, status := .running, dying := dy } { w1 with heap := w1.heap.setIfInBounds g (.cells c elem) }
    | _ => .ended (.stuck "early: the variable does not wait" (fr.pos p)) w1)).drawn := by
    intro w1 h
    split <;> exact h
  unfold early
  dsimp only
  repeat' split
  all_goals first
    | exact Nat.le_refl _
    | (dsimp only [gw]; exact run_okD (by assumption))
    | (dsimp only [gw]; exact run_haltD (by assumption))
theorem apply_le (p : Program) (fr : Frame) (cs : List Frame) (dy : Option Dying) (s : Sem Next) (w : World) (b : Bool) : w.drawn ≤ (gw (stepG.apply p b fr cs dy s w)).drawn := by
  unfold stepG.apply
  dsimp only
  rw [gw_after]
  cases b
  · simp only [Bool.false_eq_true, if_false]
    repeat' split
    all_goals first
      | exact run_okD (by assumption)
      | exact run_haltD (by assumption)
      | exact Nat.le_trans (run_haltD (by assumption)) (endFatal_le _ _ _ _ _ _)
      | exact Nat.le_trans (run_haltD (by assumption)) (early_le _ _ _ _ _ _)
  · simp only [if_true]
    repeat' split
    all_goals first
      | exact runT_ok1 (by assumption)
      | exact runT_halt1 (by assumption)
      | exact Nat.le_trans (runT_halt1 (by assumption)) (endFatal_le _ _ _ _ _ _)
      | exact Nat.le_trans (runT_halt1 (by assumption)) (early_le _ _ _ _ _ _)
theorem oper_le (p : Program) (b : Bool) (fr : Frame) (cs : List Frame) (dy : Option Dying) (w : World) : w.drawn ≤ (gw (stepG.oper p b fr cs dy w)).drawn := by
  unfold stepG.oper
  repeat' split
  all_goals first
    | exact Nat.le_refl _
    | exact apply_le _ _ _ _ _ _ _
theorem exec_le (p : Program) (main b : Bool) (fr : Frame) (cs : List Frame) (dy : Option Dying) (w : World) : w.drawn ≤ (gw (stepG.exec p main b fr cs dy w)).drawn := by
  unfold stepG.exec
  dsimp only
  repeat' split
  all_goals first
    | exact Nat.le_refl _
    | (rw [gw_after, doReturn_dr]; exact runT_ok1 (by assumption))
    | (rw [gw_after]; exact runT_halt1 (by assumption))
    | (rw [gw_after]; exact runT_ok1 (by assumption))
    | (rw [gw_after]; exact Nat.le_trans (runT_ok1 (by assumption)) (apply_le _ _ _ _ _ _ _))
    | exact apply_le _ _ _ _ _ _ _
    | exact oper_le _ _ _ _ _ _
    | exact run_okD (by assumption)
    | exact run_haltD (by assumption)
    | (refine gw_elim ?_ (fun _ => Nat.le_refl _); exact Nat.le_refl _)
    | (refine gw_elim ?_ (fun _ => apply_le _ _ _ _ _ _ _); exact Nat.le_refl _)
    | (refine gw_elim ?_ (fun _ => Nat.le_refl _); rw [gw_after, doReturn_dr]; exact runT_ok1 (by assumption))
    | (refine gw_elim ?_ (fun _ => Nat.le_refl _); rw [gw_after]; exact runT_halt1 (by assumption))
theorem stepG_le (p : Program) (main : Bool) (g : Goroutine) (w : World) (b : Bool) : w.drawn ≤ (gw (stepG p main g w b)).drawn := by
  unfold stepG
  dsimp only
  split
  · exact die_le _ _ _ _
  · exact exec_le _ _ _ _ _ _ _
  · exact unwind_le _ _ _ _ _ _
/-- the machine's world only draws on -/
def Up (n : Nat) : Stepped → Prop
  | .next m => n ≤ m.world.drawn
  | .ended _ _ => True
theorem Up.mono {n k : Nat} {s : Stepped} (h : Up k s) (hn : n ≤ k) : Up n s := by
  cases s
  · exact Nat.le_trans hn h
  · trivial
theorem waitingAt_dr {rest : Rest} {cs : Array CommCase} {w w' : World} (h : waitingAt rest cs w = some w') : w'.drawn = w.drawn := by
  unfold waitingAt at h
  repeat' split at h
  all_goals first | (cases h; done) | (injection h with h; rw [← h])
theorem communicate_up (p : Program) (rest : Rest) (gs : Array Goroutine) (i : Nat) (g : Goroutine) (cases_ : Array CommCase) (bl : Bool) (sh : CommShape) (w : World) : Up w.drawn (communicate p rest gs i g cases_ bl sh w).1 := by
  unfold communicate
  dsimp only
  repeat' split
  all_goals first
    | trivial
    | exact Nat.le_refl _
    | (dsimp only [Up]; exact run_okD (by assumption))
    | (dsimp only [Up]; exact Nat.le_trans (run_okD (by assumption)) (run_haltD (by assumption)))
    | (dsimp only [Up]; exact Nat.le_trans (run_okD (by assumption)) (run_okD (by assumption)))
    | (dsimp only [Up]; exact Nat.le_of_eq (waitingAt_dr (by assumption)).symm)
theorem look_up (p : Program) (gs : Array Goroutine) (rest : Rest) (w : World) : Up w.drawn (look p gs rest w) := by
  unfold look
  dsimp only
  repeat' split
  all_goals first
    | trivial
    | exact Nat.le_refl _
    | (dsimp only [Up]; exact run_okD (by assumption))
theorem drain_dr (w : World) (c : Nat) : (drain w c).2.drawn = w.drawn := by
  unfold drain
  split <;> rfl
theorem retime_dr (m : Machine) (k : Nat) (t : Timer) (a b : Nat) : (retime m k t a b).2.world.drawn = m.world.drawn := by
  unfold retime
  dsimp only
  split
  · exact drain_dr _ _
  · rfl
theorem named_dr {n : Nat} {m : Machine} {var : Addr} {f : Nat → Timer → Value × Machine} (hf : ∀ k t, (f k t).2.world.drawn = n) {v : Value} {m' : Machine} (h : timerOp.named m var f = .ok (v, m')) : m'.world.drawn = n := by
  unfold timerOp.named at h
  split at h
  · injection h with h
    have := hf ‹_› (m.rest.timers.getD ‹_› default)
    rw [h] at this; exact this
  · cases h
theorem opened_dr {m m' : Machine} {var : Addr} (h : timerOp.opened m var = some m') : m'.world.drawn = m.world.drawn := by
  unfold timerOp.opened at h
  repeat' split at h
  all_goals first | (cases h; done) | (injection h with h; rw [← h])
theorem timerOp_dr {m m' : Machine} {op : TimerOp} {v : Value} (h : timerOp m op = .ok (v, m')) : m'.world.drawn = m.world.drawn := by
  unfold timerOp at h
  repeat' split at h
  all_goals first
    | (cases h; done)
    | exact named_dr (fun _ _ => retime_dr _ _ _ _ _) h
    | exact named_dr (fun _ _ => (retime_dr _ _ _ _ _).trans (opened_dr (by assumption))) h
    | (injection h with h; injection h with _ h; rw [← h]; done)
    | (injection h with h; injection h with _ h; rw [← h]; rfl)
theorem serve_up (p : Program) (m : Machine) (k : Nat) : Up m.world.drawn (serve p m k) := by
  unfold serve
  dsimp only
  repeat' split
  all_goals first
    | trivial
    | exact Nat.le_refl _
theorem endThrow_w {fr : Frame} {m : String} {w w' : World} {g : Goroutine} {es : Array Event} (h : endThrow fr m w = .go g w' es) : w'.drawn = w.drawn := by
  have := congrArg gw h
  rw [endThrow_dr] at this
  rw [this]; rfl
theorem runT_up (p : Program) (m : Machine) (i : Nat) (b : Bool) : Up m.world.drawn (runT p m i b).1 := by
  unfold runT
  dsimp only
  have h := stepG_le p (i == 0) (m.gs.swapAt! i { (default : Goroutine) with status := .finished }).1 m.world b
  split
  all_goals (rename_i e; rw [e] at h)
  all_goals first
    | trivial
    | exact h
    | exact (communicate_up _ _ _ _ _ _ _ _ _).mono h
    | exact (look_up _ _ _ _).mono h
    | (repeat' split
       all_goals first
         | trivial
         | exact h
         | exact Nat.le_trans h (Nat.le_of_eq (timerOp_dr (by assumption)).symm)
         | exact Nat.le_trans h (Nat.le_of_eq (endThrow_w (by assumption)).symm))
def MUp (n : Nat) : Move → Prop
  | .goroutine m _ => n ≤ m.world.drawn
  | .machine s _ => Up n s
theorem run_okA {α : Type} {p : Program} {s : Sem α} {w w' : World} {gs : Array Goroutine} {rest : Rest} {t : Nat} {a : α} (h : s.run p (Machine.advanceTo { world := w, gs := gs, rest := rest } t).world = .ok a w') : w.drawn ≤ w'.drawn := run_okD (w := (Machine.advanceTo { world := w, gs := gs, rest := rest } t).world) h
theorem askOn_up (p : Program) (m : Machine) : MUp m.world.drawn (askOn p m) := by
  unfold askOn
  dsimp only
  repeat' split
  all_goals first
    | trivial
    | exact (serve_up _ _ _).mono (run_okD (by assumption))
    | (dsimp only [MUp, Up, Machine.advanceTo]; exact run_okD (by assumption))
    | (dsimp only [MUp, Up, Machine.advanceTo]; exact Nat.le_trans (run_okD (by assumption)) (run_okD (by assumption)))
    | (dsimp only [MUp, Up, Machine.advanceTo]; exact Nat.le_trans (run_okD (by assumption)) (Nat.le_trans (run_okD (by assumption)) (run_okD (by assumption))))
    | (dsimp only [MUp, Up, Machine.advanceTo]; exact Nat.le_trans (run_okD (by assumption)) (Nat.le_trans (run_okD (by assumption)) (Nat.le_trans (run_okD (by assumption)) (run_okD (by assumption)))))
    | (dsimp only [MUp]; exact Nat.le_trans (run_okD (by assumption)) (Nat.le_trans (run_okD (by assumption)) (run_okA (by assumption))))
    | (dsimp only [MUp]; exact Nat.le_trans (run_okD (by assumption)) (Nat.le_trans (run_okD (by assumption)) (Nat.le_trans (run_okA (by assumption)) (run_okD (by assumption)))))
theorem MUp.mono {n k : Nat} {s : Move} (h : MUp k s) (hn : n ≤ k) : MUp n s := by
  cases s
  · exact Nat.le_trans hn h
  · exact Up.mono h hn
theorem ask_up (p : Program) (m : Machine) : MUp m.world.drawn (ask p m) := by
  unfold ask
  repeat' split
  all_goals first
    | trivial
    | exact askOn_up _ _
    | (rename_i e; have h := (look_up p m.gs m.rest _).mono (run_okD (by assumption)); rw [e] at h; exact (askOn_up _ _).mono h)
    | exact (askOn_up _ _).mono (run_okD (by assumption))
    | exact (look_up p m.gs m.rest _).mono (run_okD (by assumption))
theorem move_up (p : Program) (m : Machine) : MUp m.world.drawn (move p m) := by
  unfold move
  repeat' split
  all_goals first
    | trivial
    | exact Nat.le_refl _
    | exact ask_up _ _
theorem step_up (p : Program) (m : Machine) : Up m.world.drawn (step p m) := by
  unfold step stepT
  have h := move_up p m
  split
  · rename_i e
    rw [e] at h
    exact (runT_up _ _ _ _).mono h
  · rename_i e
    rw [e] at h
    exact h
theorem runN_up (p : Program) : ∀ (n : Nat) (m : Machine), Up m.world.drawn (runN p n m)
  | 0, m => Nat.le_refl _
  | n + 1, m => by
    have h := step_up p m
    rw [runN]
    split
    · rename_i e
      rw [e] at h
      exact (runN_up p n _).mono h
    · trivial
theorem steps_up {p : Program} {m m' : Machine} (h : Steps p m m') : m.world.drawn ≤ m'.world.drawn := by
  obtain ⟨n, hn⟩ := h
  have := runN_up p n m
  rw [hn] at this; exact this
/-- a contract of calls that return tells that the world has drawn on -/
theorem calls_up {P : Program} {f : FuncId} {args : Array Value} {w : World} {R : Ending → World → Prop} (h : Calls P f args w R) (hr : ∀ e w', R e w' → e ≠ .outgrown) : Calls P f args w fun e w' => R e w' ∧ w.drawn ≤ w'.drawn := fun cs => by
  obtain ⟨e, w', fr, h1, h2, h3, h4⟩ := h cs
  refine ⟨e, w', fr, ⟨h1, ?_⟩, h2, h3, h4⟩
  have hne := hr e w' h1
  cases e with
  | returned v => exact steps_up h2
  | panicked c => exact steps_up h2
  | outgrown => exact absurd rfl hne
end Go.Proofs.YtnheioehadldmaaGreat

/- THE LIBRARY'S SORT OVER A ROW THAT A CALL OWNS, any kind of element, a compare that may lay blocks. -/
namespace Go.Proofs.YtnheioehadldmaaGreat
open Go.RowKit Go.Sort Go.Shelf
theorem ext_grow {w w' : World} (h : Ext w w') (hd : w.drawn ≤ w'.drawn) : ∃ q os, w' = grow (w.drewN q) os := by
  refine ⟨w'.drawn - w.drawn, w'.heap.extract w.heap.size w'.heap.size, ?_⟩
  obtain ⟨h1, h2, h3, h4, h5⟩ := h
  have hh : w'.heap = w.heap ++ w'.heap.extract w.heap.size w'.heap.size := by
    apply Array.ext_getElem?
    intro k
    rcases Nat.lt_or_ge k w.heap.size with hk | hk
    · rw [Array.getElem?_append_left hk]; exact h5 k hk
    · rw [Array.getElem?_append_right hk, Array.getElem?_extract]
      rcases Nat.lt_or_ge k w'.heap.size with hk2 | hk2
      · rw [if_pos (by omega)]; congr 1; omega
      · rw [if_neg (by omega), Array.getElem?_eq_none hk2]
  have hd2 : w'.drawn = w.drawn + (w'.drawn - w.drawn) := by omega
  cases w with
  | mk heap tape drawn os output =>
    cases w' with
    | mk heap' tape' drawn' os' output' =>
      simp only at h1 h2 h3 hh hd2
      simp only [grow, World.drewN]
      rw [← hh, ← hd2, h1, h2, h3]
theorem calls_grow {P : Program} {f : FuncId} {args : Array Value} {w : World} {v : Value} (h : Calls P f args w fun e w' => e = .returned v ∧ Ext w w') : Calls P f args w fun e w' => e = .returned v ∧ ∃ q os, w' = grow (w.drewN q) os :=
  (calls_up h (fun e w' hR => by intro he; rw [he] at hR; cases hR.1)).mono fun _ _ ⟨⟨he, hx⟩, hd⟩ => ⟨he, ext_grow hx hd⟩
section
variable {α : Type} [Inhabited α] (enc : α → List Value) (k : Nat)
theorem flatK_toList (hk : ∀ x, (enc x).length = k) (d : Array α) : (Go.Sort.flatK enc k d).toList = d.toList.flatMap enc := by
  apply List.ext_getElem?
  intro t
  rcases Nat.eq_zero_or_pos k with h0 | h0
  · have e1 : (Go.Sort.flatK enc k d).toList = [] := List.eq_nil_of_length_eq_zero (by simp [h0])
    have e2 : d.toList.flatMap enc = [] := List.eq_nil_of_length_eq_zero (by rw [flat_len enc k hk, h0, Nat.mul_zero])
    rw [e1, e2]
  · rcases Nat.lt_or_ge t (d.size * k) with ht | ht
    · have hq : t / k < d.size := (Nat.div_lt_iff_lt_mul h0).2 ht
      have hr : t % k < k := Nat.mod_lt _ h0
      have e1 := flat_get enc k hk d.toList (t / k) (t % k) (by simpa using hq) hr
      rw [show t / k * k + t % k = t by rw [Nat.mul_comm]; exact Nat.div_add_mod t k] at e1
      rw [e1, List.getElem?_eq_getElem (by simpa using ht)]
      have e2 := get_flatK enc k d t ht
      rw [getElem!_pos (Go.Sort.flatK enc k d) t (by simpa using ht)] at e2
      rw [Array.getElem_toList, e2, getElem!_pos d _ hq, Array.getElem_toList]
      have hl : t % k < (enc d[t / k]).length := by rw [hk]; exact hr
      rw [getElem!_pos (enc d[t / k]) (t % k) hl, List.getElem?_eq_getElem hl]
    · rw [List.getElem?_eq_none (by simpa using ht), List.getElem?_eq_none (by rw [flat_len enc k hk]; simpa using ht)]
theorem grown_sortWorldK (w : World) (g m : Nat) (dk : Array α) (os : Array Obj) : w.grownBy (sortWorldK enc k w g 0 m dk os) (some g) := by
  refine ⟨rfl, rfl, rfl, by unfold sortWorldK putRowK; simp, fun b hb hne => ?_⟩
  unfold sortWorldK
  rw [heap_grow_old _ _ (by unfold putRowK; simpa using hb)]
  unfold putRowK putRow mapBlock
  simp only [Array.getElem?_modify]
  rw [if_neg (fun e => hne (by rw [e]))]; rfl
theorem heap_sortWorldK (w : World) (g m : Nat) (dk : Array α) (os : Array Obj) {cur : Array Value} {e : TypeId} {fr : Nat × Nat} (h : w.heap[g]? = some (.cells cur e fr)) : (sortWorldK enc k w g 0 m dk os).heap[g]? = some (.cells (putCells id 0 (Go.Sort.flatK enc k dk) cur) e fr) := by
  have hlt : g < w.heap.size := by
    rcases Nat.lt_or_ge g w.heap.size with h1 | h1
    · exact h1
    · rw [Array.getElem?_eq_none h1] at h; cases h
  unfold sortWorldK
  rw [heap_grow_old _ _ (by unfold putRowK; simpa using hlt)]
  unfold putRowK putRow mapBlock
  simp only [Array.getElem?_modify, if_true]
  show Option.map _ w.heap[g]? = _
  rw [h]; rfl
end
section
variable {P : Program} {ρ : Ren} {α : Type} {K : KindG α} {e : TypeId}
theorem own_sort (L : SlLaysF0.n6 P ρ) (aE : ∀ w, (isAgg (ρ.t 24)).run P w = .ok true w) (zE : ∀ w, (Go.sizeOf (ρ.t 24)).run P w = .ok K.size w) (h0 : α) (hl0 : ∀ W ok, K.lies W ok h0) (cf : α → α → Int) (hO : SWO (ltOf cf)) (f : Nat) (w : World) (base : Nat) (ok0 : Nat → Prop) (g cap : Nat) (hs : List α)
    (h : OwnG K e w base ok0 (.slice (some ⟨g, 0, none⟩) hs.length cap) hs) (hsz : hs.length ≤ 8000000) (eg : ∀ args w, (callFunc f args).run P w = .ok (.enter f args) w)
    (hc : ∀ (W : World) (x y : α), w.grownBy W (some g) → K.lies W (fun b => ok0 b ∧ some b ≠ some g) x → K.lies W (fun b => ok0 b ∧ some b ≠ some g) y → Calls P f #[.agg (K.enc x).toArray, .agg (K.enc y).toArray] W fun e W' => e = .returned (.int .i64 (cf x y)) ∧ Ext W W') :
    Calls P (ρ.f 6) #[.slice (some ⟨g, 0, none⟩) hs.length cap, .func (.func f) #[] #[]] w fun r w' => r = .returned (.tuple #[]) ∧ ∃ hs' : List α, hs'.Perm hs ∧ hs'.Pairwise (fun x y => ¬ cf y x < 0) ∧ OwnG K e w' base ok0 (.slice (some ⟨g, 0, none⟩) hs.length cap) hs' ∧ w.grownBy w' (some g) := by
  have hlies : ∀ p ∈ hs, K.lies w (fun b => ok0 b ∧ some b ≠ some g) p := h.lies
  haveI : Inhabited { p : α // K.lies w (fun b => ok0 b ∧ some b ≠ some g) p } := ⟨⟨h0, hl0 _ _⟩⟩
  have hgb : g < w.heap.size := (h.lt rfl).2
  obtain ⟨d, hd⟩ : ∃ d : Array { p : α // K.lies w (fun b => ok0 b ∧ some b ≠ some g) p }, d = (hs.attach.map (fun x => (⟨x.1, hlies x.1 x.2⟩ : { p : α // K.lies w (fun b => ok0 b ∧ some b ≠ some g) p }))).toArray := ⟨_, rfl⟩
  have hdm : d.toList.map (fun x => x.1) = hs := by rw [hd]; simp
  have hds : d.size = hs.length := by rw [hd]; simp
  have hkl : ∀ x : { p : α // K.lies w (fun b => ok0 b ∧ some b ≠ some g) p }, (K.enc x.1).length = K.size := fun x => K.len x.1
  have hfl : ∀ d' : Array { p : α // K.lies w (fun b => ok0 b ∧ some b ≠ some g) p }, (Go.Sort.flatK (fun x => K.enc x.1) K.size d').toList = (d'.toList.map (fun x => x.1)).flatMap K.enc := fun d' => by
    rw [flatK_toList (fun x : { p : α // K.lies w (fun b => ok0 b ∧ some b ≠ some g) p } => K.enc x.1) K.size hkl d', List.flatMap_map]
  have hkeep : ∀ (m : Nat) (dk : Array { p : α // K.lies w (fun b => ok0 b ∧ some b ≠ some g) p }) (os : Array Obj) (x : α), K.lies w (fun b => ok0 b ∧ some b ≠ some g) x → K.lies (sortWorldK (fun x => K.enc x.1) K.size w g 0 m dk os) (fun b => ok0 b ∧ some b ≠ some g) x := fun m dk os x hx =>
    K.keep _ _ _ _ _ (fun b o y hb hcell => ⟨(grown_sortWorldK (fun x : { p : α // K.lies w (fun b => ok0 b ∧ some b ≠ some g) p } => K.enc x.1) K.size w g m dk os).cell hcell (fun e2 => hb.2 e2), hb⟩) hx
  have hcmp : CmpLays P f #[] (fun x : { p : α // K.lies w (fun b => ok0 b ∧ some b ≠ some g) p } => K.enc x.1) K.size (fun x y => cf x.1 y.1) g 0 d.size w := fun m os dk _ x y =>
    calls_grow (hc _ x.1 y.1 (grown_sortWorldK _ K.size w g m dk os) (hkeep m dk os _ x.2) (hkeep m dk os _ y.2))
  have hH : HoldsK (fun x : { p : α // K.lies w (fun b => ok0 b ∧ some b ≠ some g) p } => K.enc x.1) K.size w g 0 d := fun j hj => by
    have hj' : j < hs.length * K.size := by rw [← hds]; simpa using hj
    have h1 := World.ownsRow.cellAt h.own j hj'
    have h2 := hfl d
    rw [hdm] at h2
    rw [Nat.zero_add]
    refine ⟨?_, World.ownsRow.frozenAt h.own j⟩
    rw [h1, ← h2, getElem!_pos (Go.Sort.flatK (fun x : { p : α // K.lies w (fun b => ok0 b ∧ some b ≠ some g) p } => K.enc x.1) K.size d) j hj]
    simp
  have hO' : SWO (ltOf (fun x y : { p : α // K.lies w (fun b => ok0 b ∧ some b ≠ some g) p } => cf x.1 y.1)) := ⟨fun x => hO.irrefl x.1, fun x y z => hO.trans x.1 y.1 z.1, fun x y z => hO.ntrans x.1 y.1 z.1⟩
  have H := AnyQ.slices_SortFunc (P := P) (ρ := ρ) L K.size aE zE (fun x : { p : α // K.lies w (fun b => ok0 b ∧ some b ≠ some g) p } => K.enc x.1) hkl (fun x => K.one x.1) (fun x y => cf x.1 y.1) hO' f #[] g 0 cap d w eg hcmp hH hgb (by omega)
  rw [hds] at H
  refine H.mono ?_
  rintro r w' ⟨rfl, d', n, os, hp, hsd, rfl⟩
  have hps : d'.size = d.size := hp.1
  have hperm : d'.toList.Perm d.toList := by
    have h3 := hp.2.2
    rw [← hds] at h3
    have e1 : d'.extract 0 d.size = d' := by rw [← hps]; simp
    have e2 : d.extract 0 d.size = d := by simp
    rw [e1, e2] at h3; exact h3
  refine ⟨rfl, d'.toList.map (fun x => x.1), by have := hperm.map (fun x => x.1); rwa [hdm] at this, ?_, ⟨?_, fun p hpm => ?_⟩, grown_sortWorldK _ K.size w g n d' os⟩
  · refine List.pairwise_map.2 (List.pairwise_iff_getElem.2 (fun i j hi hj hij => ?_))
    have h4 := hsd i j (Nat.zero_le _) hij (by rw [← hds, ← hps]; simpa using hj)
    rw [getElem!_pos d' i (by simpa using hi), getElem!_pos d' j (by simpa using hj)] at h4
    simpa [ltOf] using h4
  · rcases h.own.2 with ⟨hv, -⟩ | ⟨g', cap', cur, hv, hb, hh, hcp, hm, hcs, htk⟩
    · simp at hv
    · simp only [Value.slice.injEq, Option.some.injEq, Addr.mk.injEq, and_true, true_and] at hv
      obtain ⟨rfl, rfl⟩ := hv
      have hlen : (d'.toList.map (fun x => x.1)).length = hs.length := by simp [hps, hds]
      refine ⟨by rw [flat_len K.enc K.size K.len], .inr ⟨g, cap, _, by rw [hlen], hb, heap_sortWorldK _ K.size w g n d' os hh, by rw [hlen]; exact hcp, hm, by unfold putCells; simpa using hcs, ?_⟩⟩
      rw [← hfl d']
      apply List.ext_getElem?
      intro t
      rw [hlen]
      have hfs : (Go.Sort.flatK (fun x : { p : α // K.lies w (fun b => ok0 b ∧ some b ≠ some g) p } => K.enc x.1) K.size d').size = hs.length * K.size := by rw [size_flatK, hps, hds]
      have hle : hs.length * K.size ≤ cur.size := by rw [hcs]; exact Nat.mul_le_mul_right _ hcp
      rcases Nat.lt_or_ge t (hs.length * K.size) with ht | ht
      · have hR : (Go.Sort.flatK (fun x : { p : α // K.lies w (fun b => ok0 b ∧ some b ≠ some g) p } => K.enc x.1) K.size d').toList[t]? = some (Go.Sort.flatK (fun x : { p : α // K.lies w (fun b => ok0 b ∧ some b ≠ some g) p } => K.enc x.1) K.size d')[t]! := by
          rw [Array.getElem?_toList, Array.getElem?_eq_getElem (by rw [hfs]; exact ht), getElem!_pos _ t (by rw [hfs]; exact ht)]
        rw [List.getElem?_take, if_pos ht, hR, Array.getElem?_toList]
        unfold putCells
        rw [Array.getElem?_mapIdx, Array.getElem?_eq_getElem (by omega)]
        simp only [Option.map_some, Nat.zero_le, true_and, Nat.zero_add, Nat.sub_zero, id_eq]
        rw [if_pos (by rw [hfs]; exact ht)]
      · rw [List.getElem?_eq_none (by rw [List.length_take]; omega), List.getElem?_eq_none (by rw [Array.length_toList, hfs]; exact ht)]
  · obtain ⟨x, -, rfl⟩ := List.mem_map.1 hpm
    exact hkeep n d' os x.1 x.2
end
end Go.Proofs.YtnheioehadldmaaGreat

/- As XStage, with something that holds at every step. -/
namespace Go.Proofs.YtnheioehadldmaaGreat
open Go.RowKit
section
variable {P : Program} {ops : Array Oper} {Q : Exit → Act → World → Prop} {md : Region.Mode} {S T : World → Prop} {E : Nat}
/-- any order; S holds behind each operation that comes up ahead of E -/
def AnyT (P : Program) (md : Region.Mode) (ops : Array Oper) (Q : Exit → Act → World → Prop) (S T : World → Prop) (E : Nat) : Nat → Array Bool → Act → World → Prop
  | 0, l, a, w => Region.ready md ops l = [] ∧ Q .normal a w
  | f + 1, l, a, w => (Region.ready md ops l = [] → Q .normal a w) ∧
    ∀ i ∈ Region.ready md ops l, wpOp P ops Q i (fun a' w' => (((l.setIfInBounds i true).getD E false = false → S w') ∧ T w') ∧ AnyT P md ops Q S T E f (l.setIfInBounds i true) a' w') a w
theorem AnyT.any : ∀ (f : Nat) (l : Array Bool) (a : Act) (w : World), AnyT P md ops Q S T E f l a w → wpAny P md ops Q f l a w
  | 0, _, _, _, h => h
  | f + 1, _, _, _, h => ⟨h.1, fun i hi => wpOp_mono (fun a' w' hk => AnyT.any f _ a' w' hk.2) (h.2 i hi)⟩
theorem AnyT.start {id : Nat} {a : Act} {w : World} (hm : P.follows .mixedOrders = true) (hS : S w.drew ∧ T w.drew) (h : S w.drew ∧ T w.drew → AnyT P .any ops Q S T E ops.size (Array.replicate ops.size false) a w.drew) : (Code.region id ops true).wp P Q a w :=
  wp_region_any hm (AnyT.any _ _ _ _ (h hS))
theorem AnyT.done {l : Array Bool} {a : Act} {w : World} (hr : Region.ready md ops l = []) (h : Q .normal a w) : ∀ f, AnyT P md ops Q S T E f l a w
  | 0 => ⟨hr, h⟩
  | _ + 1 => ⟨fun _ => h, fun i hi => by rw [hr] at hi; cases hi⟩
theorem AnyT.first {i : Nat} {oi : Oper} {v : Value} (hi : ops[i]? = some oi) (hs : Region.noSelect ops = true) (hQ : ∀ c a w, Q (.panic c) (a.put oi.dst v) w → Q (.panic c) a w) (hE : waitsOn md ops E i = true) (hne : i ≠ E) (hlE : ∀ l : Array Bool, l.getD i true = false → E ∈ Region.ready md ops l → False) :
    ∀ (f : Nat) (l : Array Bool) (a : Act) (w : World), (∀ j oj, ops[j]? = some oj → j ≠ i → l.getD j true = false → (∀ e ∈ oj.after, Region.binds md e = true → e.on ≠ i) → oi.apart ops oj = true) →
      i ∈ Region.ready md ops l → l.getD E false = false → YieldsIf P ops S oi v a → S w → T w → AnyT P md ops Q S T E f (l.setIfInBounds i true) (a.put oi.dst v) w → AnyT P md ops Q S T E (f + 1) l a w := by
  intro f
  induction f with
  | zero =>
    intro l a w _ hr _ hy hS hT H
    refine ⟨fun h => absurd hr (by rw [h]; exact List.not_mem_nil), fun j hj => ?_⟩
    rcases Nat.decEq j i with hji | hji
    · have hk := ready_mono hj hji
      rw [H.1] at hk
      exact absurd hk List.not_mem_nil
    · subst hji
      exact hy.wpOp hi hS ⟨⟨fun _ => hS, hT⟩, H⟩
  | succ f ih =>
    intro l a w hfree hr hlf hy hS hT H
    refine ⟨fun h => absurd hr (by rw [h]; exact List.not_mem_nil), fun j hj => ?_⟩
    rcases Nat.decEq j i with hji | hji
    · have hun := (mem_ready.1 hr).1
      have hjE : j ≠ E := fun e => hlE l hun (e ▸ hj)
      obtain ⟨hjun, oj, hoj, hall⟩ := mem_ready.1 hj
      have hno : ∀ e ∈ oj.after, Region.binds md e = true → e.on ≠ i := fun e he hb heq => by
        have h1 := hall e he hb
        rw [heq] at h1
        rcases Nat.lt_or_ge i l.size with hlt | hge
        · simp [hlt] at hun h1
          exact Bool.noConfusion (hun.symm.trans h1)
        · simp [Array.getElem?_eq_none hge] at h1
      have h2 := wpOp_putIf hoj (hfree j oj hoj hji hjun hno) (fun cs b => Region.noSelect_spec hs i oi cs b hi) (fun cs b => Region.noSelect_spec hs j oj cs b hoj) hQ hy (H.2 j (ready_mono hj hji))
      refine wpOp_mono (fun a' w' hk => ?_) h2
      have hT' : T w' := hk.2.1.2
      have hS' : S w' := hk.2.1.1 (by rw [getD_set_ne false hjE, getD_set_ne false hne]; exact hlf)
      refine ⟨⟨fun _ => hS', hT'⟩, ih (l.setIfInBounds j true) a' w' (fun k ok hok hki hunk hnok => ?_) (ready_mono hr (fun e => hji e.symm)) (by rw [getD_set_ne false hjE]; exact hlf) hk.1 hS' hT' ?_⟩
      · refine hfree k ok hok hki ?_ hnok
        rcases Nat.decEq j k with hjk | hjk
        · rw [getD_set_ne true hjk] at hunk; exact hunk
        · subst hjk; exact hjun
      · rw [Array.setIfInBounds_comm _ _ hji]
        exact hk.2.2
    · subst hji
      exact hy.wpOp hi hS ⟨⟨fun _ => hS, hT⟩, H⟩
theorem AnyT.firstP {i : Nat} {oi : Oper} {v : Value} (hi : ops[i]? = some oi) (hs : Region.noSelect ops = true) (hQ : ∀ c a w, Q (.panic c) (a.put oi.dst v) w → Q (.panic c) a w) (hne : i ≠ E) :
    ∀ (f : Nat) (l : Array Bool) (a : Act) (w : World), (∀ j oj, ops[j]? = some oj → j ≠ i → l.getD j true = false → (∀ e ∈ oj.after, Region.binds md e = true → e.on ≠ i) → oi.apart ops oj = true) →
      i ∈ Region.ready md ops l → YieldsIf P ops T oi v a → ((l.getD E false = false → S w) ∧ T w) → AnyT P md ops Q S T E f (l.setIfInBounds i true) (a.put oi.dst v) w → AnyT P md ops Q S T E (f + 1) l a w := by
  intro f
  induction f with
  | zero =>
    intro l a w _ hr hy hS H
    refine ⟨fun h => absurd hr (by rw [h]; exact List.not_mem_nil), fun j hj => ?_⟩
    rcases Nat.decEq j i with hji | hji
    · have hk := ready_mono hj hji
      rw [H.1] at hk
      exact absurd hk List.not_mem_nil
    · subst hji
      exact hy.wpOp hi hS.2 ⟨⟨fun h => hS.1 (by rw [getD_set_ne false hne] at h; exact h), hS.2⟩, H⟩
  | succ f ih =>
    intro l a w hfree hr hy hS H
    refine ⟨fun h => absurd hr (by rw [h]; exact List.not_mem_nil), fun j hj => ?_⟩
    rcases Nat.decEq j i with hji | hji
    · have hun := (mem_ready.1 hr).1
      obtain ⟨hjun, oj, hoj, hall⟩ := mem_ready.1 hj
      have hno : ∀ e ∈ oj.after, Region.binds md e = true → e.on ≠ i := fun e he hb heq => by
        have h1 := hall e he hb
        rw [heq] at h1
        rcases Nat.lt_or_ge i l.size with hlt | hge
        · simp [hlt] at hun h1
          exact Bool.noConfusion (hun.symm.trans h1)
        · simp [Array.getElem?_eq_none hge] at h1
      have h2 := wpOp_putIf hoj (hfree j oj hoj hji hjun hno) (fun cs b => Region.noSelect_spec hs i oi cs b hi) (fun cs b => Region.noSelect_spec hs j oj cs b hoj) hQ hy (H.2 j (ready_mono hj hji))
      refine wpOp_mono (fun a' w' hk => ?_) h2
      have hS' : ((l.setIfInBounds j true).getD E false = false → S w') ∧ T w' := ⟨fun h => hk.2.1.1 (by rw [Array.setIfInBounds_comm _ _ (fun e => hji e.symm), getD_set_ne false hne]; exact h), hk.2.1.2⟩
      refine ⟨hS', ih (l.setIfInBounds j true) a' w' (fun k ok hok hki hunk hnok => ?_) (ready_mono hr (fun e => hji e.symm)) hk.1 hS' ?_⟩
      · refine hfree k ok hok hki ?_ hnok
        rcases Nat.decEq j k with hjk | hjk
        · rw [getD_set_ne true hjk] at hunk; exact hunk
        · subst hjk; exact hjun
      · rw [Array.setIfInBounds_comm _ _ hji]
        exact hk.2.2
    · subst hji
      exact hy.wpOp hi hS.2 ⟨⟨fun h => hS.1 (by rw [getD_set_ne false hne] at h; exact h), hS.2⟩, H⟩
theorem AnyT.take {i : Nat} {oi : Oper} {v : Value} {f : Nat} {l : Array Bool} {a : Act} {w : World} (hi : ops[i]? = some oi) (hs : Region.noSelect ops = true) (hf : Region.free md ops l i = true) (hr : (Region.ready md ops l).contains i = true)
    (hQ : ∀ c a w, Q (.panic c) (a.put oi.dst v) w → Q (.panic c) a w) (hE : waitsOn md ops E i = true) (hne : (i == E) = false) (hl : l.getD E false = false) (hy : YieldsIf P ops S oi v a) (hS : S w ∧ T w)
    (h : AnyT P md ops Q S T E f (l.setIfInBounds i true) (a.put oi.dst v) w) : AnyT P md ops Q S T E (f + 1) l a w :=
  AnyT.first hi hs hQ hE (by simpa using hne) (waits_not hE) f l a w (Region.free_spec hi hf) (by simpa using hr) hl hy hS.1 hS.2 h
theorem AnyT.takeP {i : Nat} {oi : Oper} {v : Value} {f : Nat} {l : Array Bool} {a : Act} {w : World} (hi : ops[i]? = some oi) (hs : Region.noSelect ops = true) (hf : Region.free md ops l i = true) (hr : (Region.ready md ops l).contains i = true)
    (hQ : ∀ c a w, Q (.panic c) (a.put oi.dst v) w → Q (.panic c) a w) (hne : (i == E) = false) (hy : YieldsIf P ops T oi v a) (hS : (l.getD E false = false → S w) ∧ T w)
    (h : AnyT P md ops Q S T E f (l.setIfInBounds i true) (a.put oi.dst v) w) : AnyT P md ops Q S T E (f + 1) l a w :=
  AnyT.firstP hi hs hQ (by simpa using hne) f l a w (Region.free_spec hi hf) (by simpa using hr) hy hS h
/-- each of those that may come up -/
def AllT (P : Program) (md : Region.Mode) (ops : Array Oper) (Q : Exit → Act → World → Prop) (S T : World → Prop) (E : Nat) (f : Nat) (l : Array Bool) (a : Act) (w : World) (rs : List Nat) : Prop :=
  ∀ i ∈ rs, wpOp P ops Q i (fun a' w' => (((l.setIfInBounds i true).getD E false = false → S w') ∧ T w') ∧ AnyT P md ops Q S T E f (l.setIfInBounds i true) a' w') a w
theorem AllT.nil {f : Nat} {l : Array Bool} {a : Act} {w : World} : AllT P md ops Q S T E f l a w [] := fun _ h => absurd h List.not_mem_nil
theorem AllT.cons {f : Nat} {l : Array Bool} {a : Act} {w : World} {i : Nat} {o : Oper} {rs : List Nat} (ho : ops[i]? = some o)
    (h : ∀ K : Act → World → Prop, Shut (∀ a w, (((l.setIfInBounds i true).getD E false = false → S w) ∧ T w) → ((((l.setIfInBounds i true).getD E false = false → S w) ∧ T w) → AnyT P md ops Q S T E f (l.setIfInBounds i true) a w) → K a w) → if Region.wanted o (yielded ops a.tmps) = true then Oper.wp P o a w K Q else K (a.put o.dst undef) w)
    (hs : AllT P md ops Q S T E f l a w rs) : AllT P md ops Q S T E f l a w (i :: rs) := fun j hj => by
  rcases List.mem_cons.1 hj with rfl | hj
  · exact wpOp_step ho (fun K hK => h K (fun a w h1 h2 => hK a w ⟨h1, h2 h1⟩))
  · exact hs j hj
theorem AnyT.ready {rs : List Nat} {f : Nat} {l : Array Bool} {a : Act} {w : World} (hr : Region.ready md ops l = rs) (hne : rs ≠ []) (h : AllT P md ops Q S T E f l a w rs) : AnyT P md ops Q S T E (f + 1) l a w := by
  subst hr
  exact ⟨fun e => absurd e hne, h⟩
/-- short forms for printed walks: a read ahead of E; a read or a step that needs only what always holds; one passed over -/
theorem TA (i : Nat) {d : Option Nat} {op : Op} {ty : TypeId} {ps : String} {af : Array Edge} {gd : Option (Nat × Bool)} {v : Value} {f : Nat} {l : Array Bool} {a : Act} {w : World} (hS : S w ∧ T w)
    (hy : ∀ w, S w → (execOp a.eval ⟨d, op, ty, ps, af, gd⟩).run P w = .ok (.value v) w) (h : AnyT P md ops Q S T E f (l.setIfInBounds i true) (a.put d v) w)
    (hi : ops[i]? = some ⟨d, op, ty, ps, af, gd⟩ := by exact rfl) (hb : (Region.noSelect ops && Region.free md ops l i && (Region.ready md ops l).contains i && waitsOn md ops E i && (i != E) && !(l.getD E false)) = true := by kernel_rfl) (hg : Region.wanted ⟨d, op, ty, ps, af, gd⟩ (yielded ops a.tmps) = true := by exact rfl)
    (hQ : ∀ c a w, Q (.panic c) (a.put d v) w → Q (.panic c) a w := by exact fun _ _ _ h => h) : AnyT P md ops Q S T E (f + 1) l a w := by
  simp only [Bool.and_eq_true] at hb
  obtain ⟨⟨⟨⟨⟨b1, b2⟩, b3⟩, b4⟩, b5⟩, b6⟩ := hb
  exact AnyT.take hi b1 b2 b3 hQ b4 (by simpa using b5) (by simpa using b6) (.inl ⟨hg, hy⟩) hS h
theorem TB (i : Nat) {d : Option Nat} {op : Op} {ty : TypeId} {ps : String} {af : Array Edge} {gd : Option (Nat × Bool)} {v : Value} {f : Nat} {l : Array Bool} {a : Act} {w : World} (hS : (l.getD E false = false → S w) ∧ T w)
    (hy : ∀ w, T w → (execOp a.eval ⟨d, op, ty, ps, af, gd⟩).run P w = .ok (.value v) w) (h : AnyT P md ops Q S T E f (l.setIfInBounds i true) (a.put d v) w)
    (hi : ops[i]? = some ⟨d, op, ty, ps, af, gd⟩ := by exact rfl) (hb : (Region.noSelect ops && Region.free md ops l i && (Region.ready md ops l).contains i && (i != E)) = true := by kernel_rfl) (hg : Region.wanted ⟨d, op, ty, ps, af, gd⟩ (yielded ops a.tmps) = true := by exact rfl)
    (hQ : ∀ c a w, Q (.panic c) (a.put d v) w → Q (.panic c) a w := by exact fun _ _ _ h => h) : AnyT P md ops Q S T E (f + 1) l a w := by
  simp only [Bool.and_eq_true] at hb
  obtain ⟨⟨⟨b1, b2⟩, b3⟩, b4⟩ := hb
  exact AnyT.takeP hi b1 b2 b3 hQ (by simpa using b4) (.inl ⟨hg, hy⟩) hS h
end
end Go.Proofs.YtnheioehadldmaaGreat
