/-
  A command as an argument: what its reading gives.
-/
import Derived.Test.YtghlhficbibcnaaDoorCmd2
import Derived.ProofKit
import Derived.OpenShut
import Derived.ChangeArms
namespace Go.Proofs.YtghlhficbibcnaaDoor
open Go Go.RowKit

set_option maxRecDepth 100000 in
theorem trod_float64 {H : Type} {enc : TypeId × Value → H} {P : Program} {w : World} {base : Nat} {spare : Nat → Bool} {held : Bool} {fuel : Nat} {t : TypeId} {cs : List Value} {x : DataW H × List MemPlace}
    (ht : P.underlying t = some (.float .f64)) (h : DataW.trod enc P w base spare held fuel t cs = some x) : ∃ b, cs = [.float .f64 b] ∧ (Lit.float .f64 b).wf = true := by
  cases fuel with
  | zero => simp [DataW.trod] at h
  | succ n =>
    unfold DataW.trod at h
    rw [ht] at h
    split at h <;> simp_all
set_option maxRecDepth 100000 in
theorem open_cmd {H : Type} {enc : TypeId × Value → H} {w : World} {b base : Nat} {spare : Nat → Bool} {held : Bool} {v : Value} {x : DataW H} {p : List MemPlace}
    (hv : Value.okWide Tryd.prog w .any b 24 v) (hx : DataW.Trod enc Tryd.prog w base spare held 24 v x p) : ∃ c : Cm, v = c.v ∧ c.ok := by
  obtain ⟨⟨cs⟩, rfl, hsz⟩ := Go.WideShapes.okWide_struct Tryd.underlying24 hv
  obtain ⟨fuel, hf⟩ := hx
  obtain ⟨xs, n, _, _, hl, hn, hf⟩ := DataW.trod_struct Tryd.underlying24 hf
  have c24 : Tryd.prog.cellsOf 24 = 3 := by kernel_rfl
  have c3 : Tryd.prog.cellsOf 3 = 1 := by kernel_rfl
  have c9 : Tryd.prog.cellsOf 9 = 1 := by kernel_rfl
  have c22 : Tryd.prog.cellsOf 22 = 1 := by kernel_rfl
  have hn3 : xs.length = 3 := hn
  rw [c24] at hsz
  match cs, hsz with
  | [v0, v1, v2], _ =>
    have f0 := hf 0 _ rfl
    have f1 := hf 1 _ rfl
    have f2 := hf 2 _ rfl
    obtain ⟨k, e0, _⟩ := DataW.trod_int Tryd.underlying3 (f0.trans (List.getElem?_eq_getElem (by omega)))
    obtain ⟨s, e1, _, hs⟩ := DataW.trod_string Tryd.underlying9 (f1.trans (List.getElem?_eq_getElem (by omega)))
    obtain ⟨y, e2, hy⟩ := trod_float64 Tryd.underlying22 (f2.trans (List.getElem?_eq_getElem (by omega)))
    have e0' : v0 = .int .i64 k := by
      have e : (([v0, v1, v2].drop 0).take (Tryd.prog.cellsOf 3)) = [.int .i64 k] := e0
      rw [c3] at e
      simpa using e
    have e1' : v1 = .string s := by
      have e : (([v0, v1, v2].drop 1).take (Tryd.prog.cellsOf 9)) = [.string s] := e1
      rw [c9] at e
      simpa using e
    have e2' : v2 = .float .f64 y := by
      have e : (([v0, v1, v2].drop 2).take (Tryd.prog.cellsOf 22)) = [.float .f64 y] := e2
      rw [c22] at e
      simpa using e
    subst e0' e1' e2'
    exact ⟨⟨k, s, y⟩, rfl, hs, of_decide_eq_true hy⟩
end Go.Proofs.YtghlhficbibcnaaDoor
