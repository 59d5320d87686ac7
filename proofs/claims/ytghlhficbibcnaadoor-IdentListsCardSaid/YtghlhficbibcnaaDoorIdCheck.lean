/-
  Walk: ident.Check.
-/
import Derived.Test.YtghlhficbibcnaaDoorIdFlat
import Derived.Lib.Hide
namespace Go.Proofs.YtghlhficbibcnaaDoor
open Go.RowKit Go.Sort Pl
open Go.Proofs.YtghlhficbibcnaaDoorW.PrintWords

/-- What is wrong with an id. -/
def chkId (x : Idt) : Int := if x.f0 < 0 ∨ 8 ≤ x.f0 then 7 else if x.f1 < 1 ∨ 1048576 < x.f1 then 8 else 0

set_option maxHeartbeats 1000000 in
theorem check_any (x : Idt) (w : World) : Calls Tryd.prog 47 #[.agg #[.int .i64 x.f0, .int .i64 x.f1]] w fun e w' => e = .returned (.int .i64 (chkId x)) ∧ w' = w.alloc (.cells #[.int .i64 x.f0, .int .i64 x.f1] 30) := by
  obtain ⟨a, b⟩ := x
  simp only
  by_cases h1 : a < 0
  · have e : chkId ⟨a, b⟩ = 7 := by unfold chkId; rw [if_pos (Or.inl h1)]
    rw [e]; clear e
    go_enter Tryd.func47, Tryd.ntmps47
    go_wp2
    go_ret
    exact ⟨rfl, rfl⟩
  by_cases h2 : 8 ≤ a
  · have e : chkId ⟨a, b⟩ = 7 := by unfold chkId; rw [if_pos (Or.inr h2)]
    rw [e]; clear e
    have d1 : decide (a < 0) = false := by simpa using h1
    have d2 : decide (8 ≤ a) = true := by simpa using h2
    go_enter Tryd.func47, Tryd.ntmps47
    go_wp2
    go_ret
    exact ⟨rfl, rfl⟩
  have d1 : decide (a < 0) = false := by simpa using h1
  have d2 : decide (8 ≤ a) = false := by simpa using h2
  by_cases h3 : b < 1
  · have e : chkId ⟨a, b⟩ = 8 := by unfold chkId; rw [if_neg (by simp only; omega), if_pos (Or.inl h3)]
    rw [e]; clear e
    have d3 : decide (b < 1) = true := by simpa using h3
    go_enter Tryd.func47, Tryd.ntmps47
    go_wp2
    go_ret
    exact ⟨rfl, rfl⟩
  have d3 : decide (b < 1) = false := by simpa using h3
  by_cases h4 : 1048576 < b
  · have e : chkId ⟨a, b⟩ = 8 := by unfold chkId; rw [if_neg (by simp only; omega), if_pos (Or.inr h4)]
    rw [e]; clear e
    have d4 : decide (1048576 < b) = true := by simpa using h4
    go_enter Tryd.func47, Tryd.ntmps47
    go_wp2
    go_ret
    exact ⟨rfl, rfl⟩
  have d4 : decide (1048576 < b) = false := by simpa using h4
  have e : chkId ⟨a, b⟩ = 0 := by unfold chkId; rw [if_neg (by simp only; omega), if_neg (by simp only; omega)]
  rw [e]; clear e
  go_enter Tryd.func47, Tryd.ntmps47
  go_wp2
  go_ret
  exact ⟨rfl, rfl⟩
end Go.Proofs.YtghlhficbibcnaaDoor
