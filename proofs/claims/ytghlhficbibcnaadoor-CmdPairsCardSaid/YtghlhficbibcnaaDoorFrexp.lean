/-
  math's Ldexp, real.Kind, exact.parts, at the few numbers that the small plays ask.
-/
import Derived.Test.YtghlhficbibcnaaDoorProg
import Derived.Test.YtghlhficbibcnaaDoorRunG
namespace Go.Proofs.YtghlhficbibcnaaDoor
open Go

theorem ldexp_play (w : World) : Calls Tryd.prog 61 #[.float .f64 4613937818241073152, .int .i64 (-1)] w fun e w' => e = .returned (.float .f64 4609434218613702656) ∧ w' = w :=
  calls_of_run 2000 fun _ => by kernel_rfl
theorem kind_play (w : World) : Calls Tryd.prog 63 #[.float .f64 4609434218613702656] w fun e w' => e = .returned (.int .i64 5) ∧ w' = w :=
  calls_of_run 2000 fun _ => by kernel_rfl
theorem parts_play (w : World) : Calls Tryd.prog 64 #[.float .f64 4609434218613702656] w fun e w' => e = .returned (.tuple #[.int .i64 3, .int .i64 (-1)]) ∧ w' = w :=
  calls_of_run 4000 fun _ => by kernel_rfl
end Go.Proofs.YtghlhficbibcnaaDoor
