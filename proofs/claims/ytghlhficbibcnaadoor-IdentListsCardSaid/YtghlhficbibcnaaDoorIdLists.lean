/-
  Walk: the law IdentLists.
-/
import Derived.Test.YtghlhficbibcnaaDoorIdSorted
import Derived.Test.YtghlhficbibcnaaDoorIdPut
import Derived.Test.YtghlhficbibcnaaDoorIdRise
import Derived.Test.YtghlhficbibcnaaDoorIdHas
import Derived.Test.YtghlhficbibcnaaDoorIdWorks
namespace Go.Proofs.YtghlhficbibcnaaDoor
open Go.RowKit Go.Sort Pl
open Go.Proofs.YtghlhficbibcnaaDoorW.PrintWords

set_option maxHeartbeats 2000000 in
set_option maxRecDepth 100000 in
theorem lists_any (l : List Idt) (x : Idt) (A : Option Addr) (c : Nat) (m : Int) (w : World) (hr : Kd.C PIdentLists.k30 w A l.length l) (hm : w.cell? ⟨1, 0, none⟩ = some (.int .i64 m)) :
    Calls Tryd.prog 4 #[.slice A l.length c, .agg #[.int .i64 x.f0, .int .i64 x.f1]] w fun e w' => e = .returned (.bool true) ∧ Below w.heap.size w w' := by
  obtain ⟨w1, hw1⟩ : ∃ w1, w1 = w.alloc (.cells #[.int .i64 x.f0, .int .i64 x.f1] 30) := ⟨_, rfl⟩
  have hB1 : Below w.heap.size w w1 := by rw [hw1]; exact (Below.refl _ _).alloc (Nat.le_refl _) _
  have hr1 := Kd.C_below hr hB1
  have hs1 : w1.heap.size = w.heap.size + 1 := by rw [hw1]; simp
  have hx0 : w1.cell? ⟨w.heap.size, 0, none⟩ = some (.int .i64 x.f0) := by rw [hw1]; simp
  have hx1 : w1.cell? ⟨w.heap.size, 1, none⟩ = some (.int .i64 x.f1) := by rw [hw1]; simp
  have hm1 := pw_cell_below hB1 hm
  have hlen : l.length ≤ 9223372036854775807 := hr.2.1
  clear hr hm
  have HR := Lib.hid hr1
  have HB1 := Lib.hid hB1
  have HS1 := Lib.hid hs1
  have HX0 := Lib.hid hx0
  have HX1 := Lib.hid hx1
  have HM1 := Lib.hid hm1
  clear hr1 hB1 hs1 hx0 hx1 hm1
  by_cases h200 : 200 < l.length
  · have hw := works_any m w1 HM1.out
    have HW := Lib.hid hw
    clear hw
    go_enter Tryd.func4, Tryd.ntmps4
    go_wp2_with fail
    rw [← hw1]
    refine HW.out.mono ?_
    rintro e w2 ⟨rfl, hb2⟩
    have HB2 := Lib.hid hb2
    clear hb2 hw1
    go_wp2_with fail
    go_ret
    exact ⟨rfl, HB1.out.trans (HB2.out.mono HB1.out.size)⟩
  · obtain ⟨w1', hw1'⟩ : ∃ w1', w1' = w1.alloc (.cells #[] 30) := ⟨_, rfl⟩
    have hB1' : Below w1.heap.size w1 w1' := by rw [hw1']; exact (Below.refl _ _).alloc (Nat.le_refl _) _
    have hr1' := Kd.C_below HR.out hB1'
    have ho1 : w1'.ownsRow w1.heap.size 30 2 (.slice (some ⟨w1.heap.size, 0, none⟩) 0 0) ([] : List Idt).length (fl []) := by rw [hw1']; exact World.ownsRow_lit w1 #[] 0 (Nat.le_refl _) (by unfold maxLen; omega) (by simp)
    have es : w1.heap.size = w.heap.size + 1 := HS1.out
    have HR1 := Lib.hid hr1'
    have HB1' := Lib.hid hB1'
    have HO1 := Lib.hid ho1
    have HW1' := Lib.hid hw1'
    clear hr1' hB1' ho1 es hw1'
    go_enter Tryd.func4, Tryd.ntmps4
    go_wp2_with (first | ((with_reducible refine gate_builtin (b := .append) (xs := #[.tmp 11, .tmp 12]) rfl ?_); at_builtin; rw [← hw1, ← HW1'.out, ← HS1.out]; refine app_ids w1.heap.size rfl (.tmp 11) (.tmp 12) rfl (.slice (some ⟨w1.heap.size, 0, none⟩) 0 0) [] l A c rfl rfl ?aO ?aR ?aS ?aL ?_; (case aO => exact HO1.out); (case aR => exact HR1.out); (case aS => exact HB1'.out.size); (case aL => simp; omega); intro v2 w2 ho2 hg2 hat2; have HO2 := Lib.hid ho2; have HB2 := Lib.hid (grown_below HB1'.out (own_new HO1.out) hg2); clear ho2 hg2 hat2))
    have hB2w1 : Below w1.heap.size w1 w2 := HB2.out
    obtain ⟨A2, c2, rfl, hc2, hC2⟩ := C_of_own (l := l) (by simpa using HO2.out)
    have hS := sorted_any l A2 c2 w2 hC2 (by omega)
    refine hS.mono ?_
    rintro e w3 ⟨v3, rfl, ho3, hb3⟩
    obtain ⟨A3, c3, rfl, hc3, hC3⟩ := C_of_own ho3
    have b3 : Below w1.heap.size w1 w3 := hB2w1.trans (hb3.mono hB2w1.size)
    have hCL := Kd.C_below HR.out b3
    have hC2' := Kd.C_below hC2 hb3
    have hX0 := pw_cell_below b3 HX0.out
    have hX1 := pw_cell_below b3 HX1.out
    have hM3 := pw_cell_below b3 HM1.out
    have hlt3 : w.heap.size < w3.heap.size := by have := b3.size; have := HS1.out; omega
    have mv : ∀ {W w' : World}, Below w3.heap.size w3 W → Below W.heap.size W w' → Below w3.heap.size w3 w' := fun h k => h.trans (k.mono h.size)
    have K13a := Lib.hid (fun W (hW : Below w3.heap.size w3 W) => (rsame_any l l A2 A c2 c W (Kd.C_below hC2' hW) (Kd.C_below hCL hW)).mono (R' := fun e w' => e = .returned (.bool true) ∧ Below w3.heap.size w3 w') (fun _ _ ⟨he, n, hw⟩ => ⟨by rw [he]; simp, by rw [hw]; exact pw_below_drewN hW n⟩))
    have K14a := Lib.hid (fun W (hW : Below w3.heap.size w3 W) => (rising_any l A c W (Kd.C_below hCL hW)).mono (R' := fun e w' => e = .returned (.bool (decide (Rise l))) ∧ Below w3.heap.size w3 w') (fun _ _ ⟨he, hb⟩ => ⟨he, mv hW hb⟩))
    have K15 := Lib.hid (fun W (hW : Below w3.heap.size w3 W) => (rrising_any l A c W (Kd.C_below hCL hW)).mono (R' := fun e w' => e = .returned (.bool (decide (Rise l))) ∧ Below w3.heap.size w3 w') (fun _ _ ⟨he, hb⟩ => ⟨he, mv hW hb⟩))
    have K16 := Lib.hid (fun W (hW : Below w3.heap.size w3 W) => (rsorted_any l A c W (Kd.C_below hCL hW) (by omega)).mono (R' := fun e w' => ∃ A4 c4, e = .returned (.slice A4 (sorted l).length c4) ∧ Kd.C PIdentLists.k30 w' A4 (sorted l).length (sorted l) ∧ Below w3.heap.size w3 w') (fun _ _ ⟨v, he, ho, hb⟩ => by
      obtain ⟨A4, c4, rfl, _, hC⟩ := C_of_own ho
      exact ⟨A4, c4, he, hC, mv hW hb⟩))
    have K13b := Lib.hid (fun W (A4 : Option Addr) (c4 : Nat) (hC : Kd.C PIdentLists.k30 W A4 (sorted l).length (sorted l)) (hW : Below w3.heap.size w3 W) => (rsame_any (sorted l) (sorted l) A3 A4 c3 c4 W (Kd.C_below hC3 hW) hC).mono (R' := fun e w' => e = .returned (.bool true) ∧ Below w3.heap.size w3 w') (fun _ _ ⟨he, n, hw⟩ => ⟨by rw [he]; simp, by rw [hw]; exact pw_below_drewN hW n⟩))
    have K14b := Lib.hid (fun W (hW : Below w3.heap.size w3 W) => (rising_any (sorted l) A3 c3 W (Kd.C_below hC3 hW)).mono (R' := fun e w' => e = .returned (.bool true) ∧ Below w3.heap.size w3 w') (fun _ _ ⟨he, hb⟩ => ⟨by rw [he, decide_eq_true (rise_sorted l)], mv hW hb⟩))
    have K17 := Lib.hid (fun W (hW : Below w3.heap.size w3 W) => (has_any l x A c W (Kd.C_below hCL hW)).mono (R' := fun e w' => e = .returned (.bool (decide (x ∈ l))) ∧ Below w3.heap.size w3 w') (fun _ _ ⟨he, hb⟩ => ⟨he, mv hW hb⟩))
    have K18 := Lib.hid (fun W (hW : Below w3.heap.size w3 W) => (rhas_any l x A c W (Kd.C_below hCL hW)).mono (R' := fun e w' => e = .returned (.bool (decide (x ∈ l))) ∧ Below w3.heap.size w3 w') (fun _ _ ⟨he, hb⟩ => ⟨he, mv hW hb⟩))
    have K11 := Lib.hid (fun W (hW : Below w3.heap.size w3 W) => (works_any m W (pw_cell_below hW hM3)).mono (R' := fun e w' => e = .returned (.bool true) ∧ Below w3.heap.size w3 w') (fun _ _ ⟨he, hb⟩ => ⟨he, mv hW hb⟩))
    obtain ⟨b1, hb1⟩ : ∃ b, b = decide (Rise l) := ⟨_, rfl⟩
    obtain ⟨b2, hb2⟩ : ∃ b, b = decide (x ∈ l) := ⟨_, rfl⟩
    rw [← hb1] at K14a K15
    rw [← hb2] at K17 K18
    have HX0' := Lib.hid hX0
    have HX1' := Lib.hid hX1
    have HBB := Lib.hid (HB1.out.trans (b3.mono HB1.out.size))
    have hbn : Below w3.heap.size w3 w3.drew := (Below.refl _ _).drew
    clear hB2w1 hC2 hS ho3 hb3 hC3 b3 hCL hC2' hX0 hX1 hM3 mv hb1 hb2 hw1
    generalize (sorted l).length = ns at K16 K13b K14b ⊢
    go_wp2_with fail
    go_region_held3 (fun w' => w'.cell? ⟨w.heap.size, 0, none⟩ = some (.int .i64 x.f0) ∧ w'.cell? ⟨w.heap.size, 1, none⟩ = some (.int .i64 x.f1))
      (first | (exact ⟨(hbn.cell (p := ⟨w.heap.size, 0, none⟩) hlt3).trans HX0'.out, (hbn.cell (p := ⟨w.heap.size, 1, none⟩) hlt3).trans HX1'.out⟩) | go_keep)
      (first
        | (go_at_call 13; with_reducible refine (K13a.out _ ?hw).mono ?_; (case hw => assumption); clear hbn; rintro e w9 ⟨rfl, hbn⟩)
        | (go_at_call 14; with_reducible refine (K14a.out _ ?hw).mono ?_; (case hw => assumption); clear hbn; rintro e w9 ⟨rfl, hbn⟩)
        | (go_at_call 15; with_reducible refine (K15.out _ ?hw).mono ?_; (case hw => assumption); clear hbn; rintro e w9 ⟨rfl, hbn⟩)
        | (go_at_call 16; with_reducible refine (K16.out _ ?hw).mono ?_; (case hw => assumption); clear hbn; rintro e w9 ⟨A4, c4, rfl, hC4, hbn⟩)
        | (go_at_call 13; with_reducible refine (K13b.out _ _ _ ?hc ?hw).mono ?_; (case hc => assumption); (case hw => assumption); clear hbn hC4; rintro e w9 ⟨rfl, hbn⟩)
        | (go_at_call 14; with_reducible refine (K14b.out _ ?hw).mono ?_; (case hw => assumption); clear hbn; rintro e w9 ⟨rfl, hbn⟩)
        | (go_at_call 17; with_reducible refine (K17.out _ ?hw).mono ?_; (case hw => assumption); clear hbn; rintro e w9 ⟨rfl, hbn⟩)
        | (go_at_call 18; with_reducible refine (K18.out _ ?hw).mono ?_; (case hw => assumption); clear hbn; rintro e w9 ⟨rfl, hbn⟩)
        | (go_at_call 11; with_reducible refine (K11.out _ ?hw).mono ?_; (case hw => assumption); clear hbn; rintro e w9 ⟨rfl, hbn⟩))
    go_wp2
    go_ret
    exact ⟨rfl, HBB.out.trans (hbn.mono (Nat.le_of_lt hlt3))⟩
end Go.Proofs.YtghlhficbibcnaaDoor
