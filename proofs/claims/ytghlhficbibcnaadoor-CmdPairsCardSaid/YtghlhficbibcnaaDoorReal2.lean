/-
  Walks: the reference's greatest number, and its Kind: 4 of +0 alone.
-/
import Derived.Test.YtghlhficbibcnaaDoorReal
import Derived.IntWalk
import Derived.RowKit3
namespace Go.Proofs.YtghlhficbibcnaaDoor
open Go Go.RowKit Fl

def pw (i : Nat) : Nat := (1023 + i) * 4503599627370496
theorem mul_two (i : Nat) (h : i < 1023) : floatBits .mul .f64 4611686018427387904 (pw i) = some (pw (i + 1)) := by
  have all : ∀ j : Fin 1023, floatBits .mul .f64 4611686018427387904 (pw j.val) = some (pw (j.val + 1)) := by decide +kernel
  exact all ⟨i, h⟩
theorem powers : ∃ pw : Nat → Nat, pw 0 = 4607182418800017408 ∧ pw 1023 = 9214364837600034816 ∧ ∀ i, i < 1023 → floatBits .mul .f64 4611686018427387904 (pw i) = some (pw (i + 1)) :=
  ⟨pw, by decide, by decide, mul_two⟩
set_option maxRecDepth 100000 in
theorem big_any (w : World) : Calls Tryd.prog 37 #[] w fun e w' => e = .returned (.float .f64 9218868437227405311) ∧ w' = w := by
  obtain ⟨pw, pw_first, pw_last, mul_two⟩ := powers
  go_enter Tryd.func37, Tryd.ntmps37
  go_wp2
  go_loopw [1, 2] (fun v1 v2 wr => ∃ i : Nat, i ≤ 1023 ∧ v1 = .float .f64 (pw i) ∧ v2 = .int .i64 i ∧ wr = w) (fun _ v2 _ => 1023 - (intOf v2).toNat)
  case atStart => exact ⟨0, by omega, by rw [pw_first], rfl, rfl⟩
  case round =>
    obtain ⟨i, hi, rfl, rfl, rfl⟩ := hrel
    by_cases hlt : i < 1023
    · have m := run_float_arith (P := Tryd.prog) wr .mul 22 .f64 _ _ _ (mul_two i hlt)
      have q1 : (i : Int) < 1023 := by omega
      have q2 : IntKind.i64.wrap ((i : Int) + 1) = (i : Int) + 1 := IntWalk.i64_in _ (by omega)
      go_wp2
      go_roundw
      case rel => exact ⟨i + 1, by omega, rfl, by first | rfl | (push_cast; rfl), by first | rfl | trivial⟩
      case measure => simp [intOf]; omega
    · obtain rfl : i = 1023 := by omega
      rw [pw_last]
      have m1 := run_float_arith (P := Tryd.prog) wr .quo 22 .f64 9214364837600034816 4841369599423283200 8980177656976769024 (by decide +kernel)
      have m2 := run_float_arith (P := Tryd.prog) wr .sub 22 .f64 9214364837600034816 8980177656976769024 9214364837600034814 (by decide +kernel)
      have m3 := run_float_arith (P := Tryd.prog) wr .add 22 .f64 9214364837600034816 9214364837600034814 9218868437227405311 (by decide +kernel)
      go_wp2
      go_ret
      exact ⟨rfl, rfl⟩
/-- The reference's Kind of a word. -/
def kindF (x : Nat) : Int :=
  if nan x = true then 0
  else if D.order x 0 = some .eq then (if x = 0 then 4 else 3)
  else if D.order x 0 = some .lt then (if D.order x 18442240474082181119 = some .lt then 1 else 2)
  else if D.order x 9218868437227405311 = some .gt then 6 else 5
theorem kindF_four {x : Nat} (hx : x < 18446744073709551616) : kindF x = 4 ↔ x = 0 := by
  unfold kindF
  rcases nx : nan x with _ | _
  · have ex := eq_zero x hx nx
    rw [if_neg (by decide)]
    split
    · split
      · rename_i h; exact ⟨fun _ => h, fun _ => rfl⟩
      · rename_i h; exact ⟨fun h' => absurd h' (by decide), fun h' => absurd h' h⟩
    · rename_i h
      have h0 : x ≠ 0 := fun h' => h (ex.2 (.inl h'))
      constructor
      · intro h'
        exfalso
        revert h'
        repeat' split
        all_goals decide
      · intro h'; exact absurd h' h0
  · rw [if_pos rfl]
    rw [nan_iff x hx] at nx
    have := of_decide_eq_true nx
    constructor
    · intro h; exact absurd h (by decide)
    · intro h; omega
theorem order_test (x y : Nat) (o : Ordering) : (Ieee.Format.order (FloatKind.format .f64) x y == some o) = decide (D.order x y = some o) := by
  by_cases h : D.order x y = some o
  · rw [decide_eq_true h]; simpa using h
  · rw [decide_eq_false h]; simpa using h
set_option maxRecDepth 100000 in
theorem kindF_any (x : Nat) (hx : x < 18446744073709551616) (w : World) : Calls Tryd.prog 20 #[.float .f64 x] w fun e w' => e = .returned (.int .i64 (kindF x)) ∧ w' = w := by
  have q0 := quo_run _ _ quo_pos w
  have q1 := quo_run _ _ quo_neg w
  have q2 : (Op.unary .neg (.float .f64 9218868437227405311)).run Tryd.prog w = .ok (.float .f64 18442240474082181119) w := by kernel_rfl
  rcases nx : nan x with _ | _
  · have ex := eq_zero x hx nx
    by_cases zx : D.order x 0 = some .eq
    · have t0 : (Ieee.Format.order (FloatKind.format .f64) x 0 == some .eq) = true := by rw [order_test]; exact decide_eq_true zx
      have o2 : (Ieee.Format.order (FloatKind.format .f64) 9218868437227405312 0 == some .lt) = false := by decide +kernel
      have o3 : (Ieee.Format.order (FloatKind.format .f64) 18442240474082181120 0 == some .lt) = true := by decide +kernel
      have e : kindF x = if x = 0 then 4 else 3 := by unfold kindF; rw [nx, if_neg (by decide), if_pos zx]
      rw [e]
      rcases ex.1 zx with rfl | rfl
      all_goals
        (go_enter Tryd.func20, Tryd.ntmps20
         go_wp2_with fail
         (refine (nan_any _ _).mono ?_)
         rw [nx]
         (rintro e w' ⟨rfl, rfl⟩)
         go_wp2
         go_ret
         exact ⟨rfl, rfl⟩)
    · have t0 : (Ieee.Format.order (FloatKind.format .f64) x 0 == some .eq) = false := by rw [order_test]; exact decide_eq_false zx
      by_cases lx : D.order x 0 = some .lt
      · have t1 : (Ieee.Format.order (FloatKind.format .f64) x 0 == some .lt) = true := by rw [order_test]; exact decide_eq_true lx
        have e : kindF x = if D.order x 18442240474082181119 = some .lt then 1 else 2 := by unfold kindF; rw [nx, if_neg (by decide), if_neg zx, if_pos lx]
        rw [e]
        go_enter Tryd.func20, Tryd.ntmps20
        go_wp2_with fail
        refine (nan_any _ _).mono ?_
        rw [nx]
        rintro e w' ⟨rfl, rfl⟩
        go_wp2_with fail
        refine (big_any _).mono ?_
        rintro e w' ⟨rfl, rfl⟩
        go_wp2
        all_goals (go_ret; refine ⟨?_, rfl⟩; simp_all)
      · have t1 : (Ieee.Format.order (FloatKind.format .f64) x 0 == some .lt) = false := by rw [order_test]; exact decide_eq_false lx
        have e : kindF x = if D.order x 9218868437227405311 = some .gt then 6 else 5 := by unfold kindF; rw [nx, if_neg (by decide), if_neg zx, if_neg lx]
        rw [e]
        go_enter Tryd.func20, Tryd.ntmps20
        go_wp2_with fail
        refine (nan_any _ _).mono ?_
        rw [nx]
        rintro e w' ⟨rfl, rfl⟩
        go_wp2_with fail
        refine (big_any _).mono ?_
        rintro e w' ⟨rfl, rfl⟩
        go_wp2
        all_goals (go_ret; refine ⟨?_, rfl⟩; simp_all)
  · have e : kindF x = 0 := by unfold kindF; rw [nx, if_pos rfl]
    rw [e]
    go_enter Tryd.func20, Tryd.ntmps20
    go_wp2_with fail
    refine (nan_any _ _).mono ?_
    rw [nx]
    rintro e w' ⟨rfl, rfl⟩
    go_wp2
    go_ret
    exact ⟨rfl, rfl⟩
end Go.Proofs.YtghlhficbibcnaaDoor
