/-
  A call that touches no memory, run by the kernel in whatever world, with whatever callers.
-/
import Derived.Calls
import Derived.KernelRfl
import Derived.StepT
namespace Go.Proofs.YtghlhficbibcnaaDoor
open Go

/-- A step that leaves the goroutine running. -/
def onG : GStep → Option (Frame × List Frame × World)
  | .go g w _ => match g.status, g.dying, g.offers with
    | .running, none, none => some (g.frame, g.callers, w)
    | _, _, _ => none
  | _ => none
/-- n steps of one goroutine. -/
def runG (P : Program) : Nat → Frame → List Frame → World → Option (Frame × List Frame × World)
  | 0, fr, cs, w => some (fr, cs, w)
  | n + 1, fr, cs, w => match onG (stepG P true { frame := fr, callers := cs, status := .running, dying := none } w) with
    | some x => runG P n x.1 x.2.1 x.2.2
    | none => none
theorem onG_bare {s : GStep} {x : Frame × List Frame × World} (h : onG s = some x) : s.bare = .go { frame := x.1, callers := x.2.1, status := .running, dying := none } x.2.2 := by
  cases s with
  | go g w es =>
    obtain ⟨fr, cs, st, dy, off⟩ := g
    unfold onG at h
    simp only at h
    cases st <;> cases dy <;> cases off <;> simp at h
    subst h
    rfl
  | _ => cases h
theorem runN_of_runG {P : Program} : ∀ (n : Nat) {fr : Frame} {cs : List Frame} {w : World} {x : Frame × List Frame × World}, runG P n fr cs w = some x → runN P n (lone fr cs w) = .next (lone x.1 x.2.1 x.2.2)
  | 0, fr, cs, w, x, h => by
    obtain rfl : (fr, cs, w) = x := Option.some.inj h
    rfl
  | n + 1, fr, cs, w, x, h => by
    have h' : (match onG (stepG P true { frame := fr, callers := cs, status := .running, dying := none } w) with
      | some x => runG P n x.1 x.2.1 x.2.2
      | none => none) = some x := h
    cases hs : onG (stepG P true { frame := fr, callers := cs, status := .running, dying := none } w) with
    | none => rw [hs] at h'; cases h'
    | some y =>
      rw [hs] at h'
      have hstep := step_lone_go (onG_bare hs)
      show (match step P (lone fr cs w) with | .next m => runN P n m | e => e) = _
      rw [hstep]
      exact runN_of_runG n h'
/-- What the frame is at its end. -/
def endG (P : Program) (x : Frame × List Frame × World) : FrameMode × List Deferred × CallKind × FuncId × List Frame × World × Option (Result Value) :=
  (x.1.mode, x.1.defers, x.1.kind, x.1.fn, x.2.1, x.2.2, (P.funcs[x.1.fn]?).map fun fn => (results fn x.1.tmps).run P x.2.2)
/-- The frame of function f itself, on its way out. -/
def outG (f : FuncId) (fr : Frame) : Bool := fr.fn == f && match fr.mode with | .returning => fr.defers.isEmpty | _ => false
/-- Steps until function f itself is on its way out. -/
def runTo (P : Program) (f : FuncId) : Nat → Frame → List Frame → World → Option (Frame × List Frame × World)
  | 0, _, _, _ => none
  | n + 1, fr, cs, w => match outG f fr with
    | true => some (fr, cs, w)
    | false => match onG (stepG P true { frame := fr, callers := cs, status := .running, dying := none } w) with
      | some x => runTo P f n x.1 x.2.1 x.2.2
      | none => none
theorem steps_of_runTo {P : Program} {f : FuncId} : ∀ (n : Nat) {fr : Frame} {cs : List Frame} {w : World} {x : Frame × List Frame × World}, runTo P f n fr cs w = some x → ∃ k, runN P k (lone fr cs w) = .next (lone x.1 x.2.1 x.2.2)
  | 0, fr, cs, w, x, h => by cases h
  | n + 1, fr, cs, w, x, h => by
    have h' : (match outG f fr with
      | true => some (fr, cs, w)
      | false => match onG (stepG P true { frame := fr, callers := cs, status := .running, dying := none } w) with
        | some x => runTo P f n x.1 x.2.1 x.2.2
        | none => none) = some x := h
    cases ho : outG f fr with
    | true =>
      rw [ho] at h'
      obtain rfl := Option.some.inj h'
      exact ⟨0, rfl⟩
    | false =>
      rw [ho] at h'
      cases hs : onG (stepG P true { frame := fr, callers := cs, status := .running, dying := none } w) with
      | none => simp only [hs] at h'; cases h'
      | some y =>
        simp only [hs] at h'
        have hstep := step_lone_go (onG_bare hs)
        obtain ⟨k, hk⟩ := steps_of_runTo n h'
        refine ⟨k + 1, ?_⟩
        show (match step P (lone fr cs w) with | .next m => runN P k m | e => e) = _
        rw [hstep]
        exact hk
theorem calls_of_run {P : Program} {f : FuncId} {args : Array Value} {w : World} {v : Value} (n : Nat)
    (h : ∀ cs, (runTo P f n (Frame.enter P f args .normal) cs w).map (endG P) = some (.returning, [], .normal, f, cs, w, some (.ok v w))) :
    Calls P f args w fun e w' => e = .returned v ∧ w' = w := by
  intro cs
  have h := h cs
  cases hr : runTo P f n (Frame.enter P f args .normal) cs w with
  | none => rw [hr] at h; cases h
  | some x =>
    obtain ⟨fr, cs', w'⟩ := x
    rw [hr] at h
    simp only [endG, Option.map_some, Option.some.injEq, Prod.mk.injEq] at h
    obtain ⟨h1, h2, h3, h4, rfl, rfl, h5⟩ := h
    rw [Option.map_eq_some_iff] at h5
    obtain ⟨fn, hf, hres⟩ := h5
    exact ⟨.returned v, w', fr, ⟨rfl, rfl⟩, steps_of_runTo n hr, h4, h1, h2, h3, fn, hf, hres⟩
end Go.Proofs.YtghlhficbibcnaaDoor
