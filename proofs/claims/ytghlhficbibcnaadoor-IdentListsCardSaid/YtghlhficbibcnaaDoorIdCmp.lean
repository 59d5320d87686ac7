/-
  Walks: cmp.Compare at int, cmp.Or at two ints, ident.Compare: in whatever world, with the world behind the call told to the block.
-/
import Derived.Test.YtghlhficbibcnaaDoorIdPlain
import Derived.Shelf.SlSortCmp.WholeK
namespace Go.Proofs.YtghlhficbibcnaaDoor
open Go.RowKit Go.Sort

set_option maxHeartbeats 400000 in
theorem compare_int (x y : Int) (w : World) : Calls Tryd.prog 50 #[.int .i64 x, .int .i64 y] w fun e w' => e = .returned (.int .i64 (Lib.compareInt x y)) ∧ w' = w := by
  go_enter Tryd.func50, Tryd.ntmps50
  go_wp2
  all_goals (go_ret; refine ⟨?_, rfl⟩; unfold Lib.compareInt; (repeat' split) <;> first | rfl | (exfalso; omega))

/-- cmp.Or at two. -/
def or2 (x y : Int) : Int := if x = 0 then y else x
set_option maxHeartbeats 400000 in
theorem or_int (x y : Int) (g : Nat) (w : World) (h0 : w.cell? ⟨g, 0, none⟩ = some (.int .i64 x)) (h1 : w.cell? ⟨g, 1, none⟩ = some (.int .i64 y)) :
    Calls Tryd.prog 49 #[.slice (some ⟨g, 0, none⟩) 2 2] w fun e w' => e = .returned (.int .i64 (or2 x y)) ∧ w' = w := by
  by_cases hx : x = 0
  · subst hx
    by_cases hy : y = 0
    · subst hy
      go_enter Tryd.func49, Tryd.ntmps49
      go_wp2
      refine wp_loop_rounds 3 ?_
      rw [rounds_succ]
      go_wp2
      rw [rounds_succ]
      go_wp2
      rw [rounds_succ]
      go_wp2
      go_ret
      exact ⟨rfl, rfl⟩
    · have hy1 : (y == 0) = false := beq_eq_false_iff_ne.2 hy
      have hy2 : (y != 0) = true := bne_iff_ne.2 hy
      go_enter Tryd.func49, Tryd.ntmps49
      go_wp2
      refine wp_loop_rounds 2 ?_
      rw [rounds_succ]
      go_wp2
      rw [rounds_succ]
      go_wp2
      go_ret
      exact ⟨rfl, rfl⟩
  · have hy1 : (x == 0) = false := beq_eq_false_iff_ne.2 hx
    have hy2 : (x != 0) = true := bne_iff_ne.2 hx
    go_enter Tryd.func49, Tryd.ntmps49
    go_wp2
    refine wp_loop_rounds 1 ?_
    rw [rounds_succ]
    go_wp2
    go_ret
    exact ⟨by simp [or2, hx], rfl⟩

theorem cmp_eq (a b : Pl.Idt) : Pl.cmp a b = if a = b then 0 else or2 (Lib.compareInt a.f0 b.f0) (Lib.compareInt a.f1 b.f1) := by
  unfold Pl.cmp or2 Lib.compareInt
  by_cases h : a = b
  · subst h; simp [Pl.lt_irrefl]
  · rw [if_neg h]
    have hne : ¬ (a.f0 = b.f0 ∧ a.f1 = b.f1) := fun ⟨e, k⟩ => h (Pl.id_ext e k)
    simp only [Pl.lt_iff]
    repeat' split
    all_goals first | rfl | omega

open Go.Proofs.YtghlhficbibcnaaDoorW.PrintWords Go.Proofs.YtghlhficbibcnaaDoorW.PrintLast Go.Proofs.YtghlhficbibcnaaDoorW.PrintMore in
/-- '==' at ids. -/
theorem eqId (d : Nat) (w : World) (x0 y0 : Int) (x1 y1 : Int) :
    (Op.equalIn (d + 2) 30 (.agg #[.int .i64 x0, .int .i64 x1]) (.agg #[.int .i64 y0, .int .i64 y1])).run Tryd.prog w = .ok (x0 == y0 && (x1 == y1)) w := by
  refine eqA_of Tryd.underlying30 (by kernel_rfl) ?_
  refine eqf_cons (by rfl) (by go_simp; rfl) (by go_simp; rfl) (by go_simp) ?_
  exact eqf_last (by rfl) (by go_simp; rfl) (by go_simp; rfl) (by go_simp)

attribute [local go_sem high] eqId

set_option maxHeartbeats 1000000 in
theorem compare_any (a b : Pl.Idt) (w : World) : Calls Tryd.prog 29 #[.agg #[.int .i64 a.f0, .int .i64 a.f1], .agg #[.int .i64 b.f0, .int .i64 b.f1]] w fun e w' => e = .returned (.int .i64 (Pl.cmp a b)) ∧ ∃ q os', w' = grow (w.drewN q) os' := by
  rw [cmp_eq]
  by_cases h : a = b
  · subst h
    have h1 : (a.f0 == a.f0 && (a.f1 == a.f1)) = true := by simp
    go_enter Tryd.func29, Tryd.ntmps29
    go_wp2
    go_ret
    exact ⟨by simp, 0, _, by rw [alloc_eq_grow, alloc_eq_grow, grow_grow]; rfl⟩
  · have h1 : (a.f0 == b.f0 && (a.f1 == b.f1)) = false := by
      rw [Bool.and_eq_false_iff]
      by_cases e : a.f0 = b.f0
      · exact Or.inr (by simpa using fun k => h (Pl.id_ext e k))
      · exact Or.inl (by simpa using e)
    rw [if_neg h]
    obtain ⟨a0, a1⟩ := a
    obtain ⟨b0, b1⟩ := b
    clear h
    simp only at h1 ⊢
    go_enter Tryd.func29, Tryd.ntmps29
    go_wp2_with fail
    go_region_held3 (fun w' => w'.cell? ⟨w.heap.size, 0, none⟩ = some (.int .i64 a0) ∧ w'.cell? ⟨w.heap.size, 1, none⟩ = some (.int .i64 a1) ∧ w'.cell? ⟨w.heap.size + 1, 0, none⟩ = some (.int .i64 b0) ∧ w'.cell? ⟨w.heap.size + 1, 1, none⟩ = some (.int .i64 b1)) (go_keep)
      (first | (go_at_call 50; refine (compare_int _ _ _).mono ?_; rintro e w' ⟨rfl, rfl⟩) | (go_at_call 49; refine (or_int (Lib.compareInt a0 b0) (Lib.compareInt a1 b1) (w.heap.size + 1 + 1) _ ?h0 ?h1).mono ?_; (case h0 => exact (World.cell?_alloc_at _ _ _ _ (by simp)).trans rfl); (case h1 => exact (World.cell?_alloc_at _ _ _ _ (by simp)).trans rfl); rintro e w' ⟨rfl, rfl⟩))
    go_wp2
    go_ret
    exact ⟨rfl, 1, _, by rw [alloc_eq_grow, alloc_eq_grow, alloc_eq_grow, grow_grow, grow_grow, drew_grow]; rfl⟩
end Go.Proofs.YtghlhficbibcnaaDoor
