/-
  Walks: real.Same and what it reaches; the reference's Same, Kind: of any two words.
-/
import Derived.Test.YtghlhficbibcnaaDoorProg
import Derived.Test.YtghlhficbibcnaaDoorFlo
import Derived.Laws.FloatArith
import Derived.Laws.Externs
import Derived.WalkKit
import Derived.Deep.LoopGhost
import Derived.Deep.QuietTactic
import Derived.Lib.Hide
import Derived.LoopTactic
namespace Go.Proofs.YtghlhficbibcnaaDoor
open Go Go.RowKit Fl

theorem ord_nan (x : Nat) : (!(Ieee.Format.order (FloatKind.format .f64) x x == some .eq)) = nan x := rfl
theorem nan_any (x : Nat) (w : World) : Calls Tryd.prog 36 #[.float .f64 x] w fun e w' => e = .returned (.bool (nan x)) ∧ w' = w := by
  go_enter Tryd.func36, Tryd.ntmps36
  go_wp2
  go_ret
  exact ⟨rfl, rfl⟩
theorem frombits_run (n : Nat) (w : World) : (callFunc 81 #[.int .u64 n]).run Tryd.prog w = .ok (.value (.float .f64 n)) w := by
  rw [run_callFunc_extern Tryd.func81 (by kernel_rfl) (by kernel_rfl) (by kernel_rfl) (e := Extern.MathFloatBits.float64frombits) (by kernel_rfl)]
  rfl
theorem bits_run (n : Nat) (w : World) : (callFunc 54 #[.float .f64 n]).run Tryd.prog w = .ok (.value (.int .u64 n)) w := by
  rw [run_callFunc_extern Tryd.func54 (by kernel_rfl) (by kernel_rfl) (by kernel_rfl) (e := Extern.MathFloatBits.float64bits) (by kernel_rfl)]
  rfl
theorem frombits_nan (w : World) : (callFunc 81 #[.int .u64 9221120237041090561]).run Tryd.prog w = .ok (.value (.float .f64 9221120237041090561)) w := by
  rw [run_callFunc_extern Tryd.func81 (by kernel_rfl) (by kernel_rfl) (by kernel_rfl) (e := Extern.MathFloatBits.float64frombits) (by kernel_rfl)]
  kernel_rfl
set_option maxRecDepth 100000 in
theorem canon_any (x : Nat) (w : World) : Calls Tryd.prog 55 #[.float .f64 x] w fun e w' => e = .returned (.float .f64 (canon x)) ∧ w' = w := by
  have hb := frombits_nan w
  rcases hn : nan x with _ | _
  · have hn' : Ieee.Format.order (FloatKind.format .f64) x x = some .eq := by
      have := hn; unfold nan at this; simpa using this
    go_enter Tryd.func55, Tryd.ntmps55
    go_wp2
    go_ret
    exact ⟨by simp [canon, hn], rfl⟩
  · have hn' : (Ieee.Format.order (FloatKind.format .f64) x x != some .eq) = true := hn
    go_enter Tryd.func55, Tryd.ntmps55
    go_wp2
    go_ret
    exact ⟨by simp [canon, hn], rfl⟩
theorem bits_any (x : Nat) (w : World) : Calls Tryd.prog 41 #[.float .f64 x] w fun e w' => e = .returned (.int .u64 (canon x : Nat)) ∧ w' = w := by
  have hb := bits_run (canon x) w
  go_enter Tryd.func41, Tryd.ntmps41
  go_wp2_with fail
  refine (canon_any x w).mono ?_
  rintro e w' ⟨rfl, rfl⟩
  go_wp2
  go_ret
  exact ⟨rfl, rfl⟩
/-- real.Same: the words, every NaN made the one. -/
theorem same_any (x y : Nat) (w : World) : Calls Tryd.prog 23 #[.float .f64 x, .float .f64 y] w fun e w' => e = .returned (.bool (decide (canon x = canon y))) ∧ w' = w := by
  go_enter Tryd.func23, Tryd.ntmps23
  go_wp2_with fail
  refine (bits_any x w).mono ?_
  rintro e w' ⟨rfl, rfl⟩
  go_wp2_with fail
  refine (bits_any y w').mono ?_
  rintro e w' ⟨rfl, rfl⟩
  go_wp2
  go_ret
  refine ⟨?_, rfl⟩
  by_cases h : canon x = canon y
  · simp [h]
  · have : ¬ ((canon x : Nat) : Int) = (canon y : Nat) := by omega
    simp [h, this]
theorem plus_any (x : Nat) (hx : x < 18446744073709551616) (w : World) : Calls Tryd.prog 40 #[.float .f64 x] w fun e w' => e = .returned (.bool (decide (x = 0))) ∧ w' = w := by
  go_enter Tryd.func40, Tryd.ntmps40
  go_wp2_with fail
  refine (same_any x 0 w).mono ?_
  rintro e w' ⟨rfl, rfl⟩
  go_wp2
  go_ret
  refine ⟨?_, rfl⟩
  have h0 : canon 0 = 0 := by decide
  have := canon_eq_zero hx
  rw [h0]
  by_cases h : x = 0 <;> simp_all

theorem quo_run (z r : Nat) (h : floatBits .quo .f64 4607182418800017408 z = some r) (w : World) : (binOp .quo 22 (.float .f64 4607182418800017408) (.float .f64 z)).run Tryd.prog w = .ok (.float .f64 r) w := run_float_arith w .quo _ .f64 _ _ _ h
theorem quo_pos : floatBits .quo .f64 4607182418800017408 0 = some 9218868437227405312 := by decide +kernel
theorem quo_neg : floatBits .quo .f64 4607182418800017408 9223372036854775808 = some 18442240474082181120 := by decide +kernel
theorem ord_of {x y : Nat} {b : Bool} (h : (Ieee.Format.order (FloatKind.format .f64) x y == some .eq) = b) : (D.order x y = some .eq) ↔ b = true := by
  subst h
  simp
set_option maxRecDepth 100000 in
/-- The reference's Same tells the same. -/
theorem rsameF_any (x y : Nat) (hx : x < 18446744073709551616) (hy : y < 18446744073709551616) (w : World) :
    Calls Tryd.prog 24 #[.float .f64 x, .float .f64 y] w fun e w' => e = .returned (.bool (decide (canon x = canon y))) ∧ w' = w := by
  rcases nx : nan x with _ | _ <;> rcases ny : nan y with _ | _
  · have cx : canon x = x := by simp [canon, nx]
    have cy : canon y = y := by simp [canon, ny]
    have ex := eq_zero x hx nx
    have ey := eq_zero y hy ny
    have exy := eq_iff x y hx hy nx ny
    by_cases zx : x = 0 ∨ x = 9223372036854775808
    · by_cases zy : y = 0 ∨ y = 9223372036854775808
      · have q0 := quo_run _ _ quo_pos w
        have q1 := quo_run _ _ quo_neg w
        have o0 : (Ieee.Format.order (FloatKind.format .f64) 0 0 == some .eq) = true := by decide +kernel
        have o1 : (Ieee.Format.order (FloatKind.format .f64) 9223372036854775808 0 == some .eq) = true := by decide +kernel
        have o2 : (Ieee.Format.order (FloatKind.format .f64) 9218868437227405312 9218868437227405312 == some .eq) = true := by decide +kernel
        have o3 : (Ieee.Format.order (FloatKind.format .f64) 18442240474082181120 18442240474082181120 == some .eq) = true := by decide +kernel
        have o4 : (Ieee.Format.order (FloatKind.format .f64) 9218868437227405312 18442240474082181120 == some .eq) = false := by decide +kernel
        have o5 : (Ieee.Format.order (FloatKind.format .f64) 18442240474082181120 9218868437227405312 == some .eq) = false := by decide +kernel
        have c0 := canon_any
        clear ex ey exy
        rw [cx, cy]
        rcases zx with rfl | rfl <;> rcases zy with rfl | rfl
        all_goals
          (go_enter Tryd.func24, Tryd.ntmps24
           go_wp2_with fail
           (refine (nan_any _ _).mono ?_)
           rw [nx]
           (rintro e w' ⟨rfl, rfl⟩)
           go_wp2_with fail
           (refine (nan_any _ _).mono ?_)
           rw [ny]
           (rintro e w' ⟨rfl, rfl⟩)
           go_wp2
           go_ret
           exact ⟨by simp_all, rfl⟩)
      · have o0 : (Ieee.Format.order (FloatKind.format .f64) y 0 == some .eq) = false := by
          have : ¬ D.order y 0 = some .eq := fun h => zy (ey.1 h)
          simpa using this
        rw [cx, cy]
        go_enter Tryd.func24, Tryd.ntmps24
        go_wp2_with fail
        refine (nan_any _ _).mono ?_
        rw [nx]
        rintro e w' ⟨rfl, rfl⟩
        go_wp2_with fail
        refine (nan_any _ _).mono ?_
        rw [ny]
        rintro e w' ⟨rfl, rfl⟩
        go_wp2
        all_goals
          (go_ret
           refine ⟨?_, rfl⟩
           have : (D.order x y = some .eq) ↔ x = y := by rw [exy]; omega
           by_cases h : x = y <;> simp_all)
    · have o0 : (Ieee.Format.order (FloatKind.format .f64) x 0 == some .eq) = false := by
        have : ¬ D.order x 0 = some .eq := fun h => zx (ex.1 h)
        simpa using this
      rw [cx, cy]
      go_enter Tryd.func24, Tryd.ntmps24
      go_wp2_with fail
      refine (nan_any _ _).mono ?_
      rw [nx]
      rintro e w' ⟨rfl, rfl⟩
      go_wp2_with fail
      refine (nan_any _ _).mono ?_
      rw [ny]
      rintro e w' ⟨rfl, rfl⟩
      go_wp2
      go_ret
      refine ⟨?_, rfl⟩
      have : (D.order x y = some .eq) ↔ x = y := by rw [exy]; omega
      by_cases h : x = y <;> simp_all
  all_goals
    (go_enter Tryd.func24, Tryd.ntmps24
     (repeat (go_wp2_with fail
              refine (nan_any _ _).mono ?_
              (first | rw [nx] | rw [ny])
              rintro e w' ⟨rfl, rfl⟩))
     go_wp2
     go_ret
     refine ⟨?_, rfl⟩
     first
       | (have := canon_same x y nx ny; simp [this]; done)
       | (have := canon_same y x ny nx; simp [Ne.symm this]; done)
       | (simp [canon, nx, ny]; done))
end Go.Proofs.YtghlhficbibcnaaDoor
