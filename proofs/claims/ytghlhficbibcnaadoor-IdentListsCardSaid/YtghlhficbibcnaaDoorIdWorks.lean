/-
  Walks: ident.Text at small ids, ident.Read at "2.17", the law's works().
-/
import Derived.Test.YtghlhficbibcnaaDoorIdLib
import Derived.Test.YtghlhficbibcnaaDoorIdCheck
import Derived.Test.YtghlhficbibcnaaDoorIdRef
namespace Go.Proofs.YtghlhficbibcnaaDoor
open Go.RowKit Go.Shelf Pl
open Go.Proofs.YtghlhficbibcnaaDoorW.PrintWords

attribute [local go_sem high] eqId

set_option maxHeartbeats 1000000 in
theorem text_217 (w : World) : Calls Tryd.prog 28 #[.agg #[.int .i64 2, .int .i64 17]] w fun e w' => e = .returned (.string ⟨#[50, 46, 49, 55]⟩) ∧ Below w.heap.size w w' := by
  have hch := fun W => check_any ⟨2, 17⟩ W
  have e1 : chkId ⟨2, 17⟩ = 0 := by decide
  rw [e1] at hch
  have d2 : Lib.decDigits 2 = [50] := by simp [Lib.decDigits]
  have d17 : Lib.decDigits 17 = [49, 55] := by simp [Lib.decDigits]
  have h2 : ∀ W, Calls Tryd.prog 48 #[.int .i64 2] W fun e w' => e = .returned (.string ⟨#[50]⟩) ∧ w' = W := fun W => by have := itoa_small 2 (by omega) W; rwa [d2] at this
  have h17 : ∀ W, Calls Tryd.prog 48 #[.int .i64 17] W fun e w' => e = .returned (.string ⟨#[49, 55]⟩) ∧ w' = W := fun W => by have := itoa_small 17 (by omega) W; rwa [d17] at this
  have HCH := Lib.hid hch
  have H2 := Lib.hid h2
  have H17 := Lib.hid h17
  clear hch e1 h2 h17 d2 d17
  go_enter Tryd.func28, Tryd.ntmps28
  go_wp2_with fail
  refine (HCH.out _).mono ?_
  rintro e w1 ⟨rfl, rfl⟩
  go_wp2_with fail
  go_region_held3 (fun w' => w'.cell? ⟨w.heap.size, 0, none⟩ = some (.int .i64 2) ∧ w'.cell? ⟨w.heap.size, 1, none⟩ = some (.int .i64 17)) (go_keep)
    (first | (go_at_call 48; with_reducible refine (H2.out _).mono ?_; rintro e w' ⟨rfl, rfl⟩) | (go_at_call 48; with_reducible refine (H17.out _).mono ?_; rintro e w' ⟨rfl, rfl⟩))
  go_wp2
  go_ret
  exact ⟨rfl, (((Below.refl _ _).alloc (Nat.le_refl _) _).alloc (by simp) _).drew⟩

theorem atoi_b (s : ByteArray) (n : Int) (hl : s.size ≤ 18) (h : Lib.atoi s.data.toList = some n) (w : World) :
    Calls Tryd.prog 46 #[.string s] w fun e w' => e = .returned (.tuple #[.int .i64 n, .nilIface]) ∧ Below w.heap.size w w' :=
  (atoi_small s n hl h w).mono fun _ _ ⟨he, t, hw⟩ => ⟨he, hw ▸ bytes_below (Below.refl _ _) (Nat.le_refl _) 5 t⟩

set_option maxHeartbeats 1000000 in
set_option maxRecDepth 100000 in
theorem read_217 (m : Int) (w : World) (hm : w.cell? ⟨1, 0, none⟩ = some (.int .i64 m)) :
    Calls Tryd.prog 27 #[.string ⟨#[50, 46, 49, 55]⟩] w fun e w' => e = .returned (.tuple #[.agg #[.int .i64 2, .int .i64 17], .int .i64 0]) ∧ Below w.heap.size w w' := by
  have hcut := fun W hW => cut_any ⟨#[50, 46, 49, 55]⟩ ⟨#[46]⟩ m W (by decide) hW
  have ec : Lib.cut (⟨#[50, 46, 49, 55]⟩ : ByteArray).data.toList (⟨#[46]⟩ : ByteArray).data.toList = ([50], [49, 55], true) := by decide
  rw [ec] at hcut
  have ha2 : ∀ W, Calls Tryd.prog 46 #[.string ⟨#[50]⟩] W fun e w' => e = .returned (.tuple #[.int .i64 2, .nilIface]) ∧ Below W.heap.size W w' := fun W => atoi_b ⟨#[50]⟩ 2 (by decide) (by decide) W
  have ha17 : ∀ W, Calls Tryd.prog 46 #[.string ⟨#[49, 55]⟩] W fun e w' => e = .returned (.tuple #[.int .i64 17, .nilIface]) ∧ Below W.heap.size W w' := fun W => atoi_b ⟨#[49, 55]⟩ 17 (by decide) (by decide) W
  have ht := fun W => text_217 W
  have hmm := pw_cell_below ((Below.refl w.heap.size w).alloc (Nat.le_refl _) (.cells #[.int .i64 0, .int .i64 0] 30)) hm
  have hc := hcut _ hmm
  have HC := Lib.hid hc
  have HA2 := Lib.hid ha2
  have HA17 := Lib.hid ha17
  have HT := Lib.hid ht
  clear hcut ec ha2 ha17 ht hmm hc hm
  go_enter Tryd.func27, Tryd.ntmps27
  go_wp2_with fail
  refine HC.out.mono ?_
  rintro e w1 ⟨rfl, n1, rfl⟩
  have b1 : Below w.heap.size w ((w.alloc (.cells #[.int .i64 0, .int .i64 0] 30)).drewN n1) := pw_below_drewN ((Below.refl _ _).alloc (Nat.le_refl _) _) n1
  have f0 : ((w.alloc (.cells #[.int .i64 0, .int .i64 0] 30)).drewN n1).frozen? ⟨w.heap.size, 0, none⟩ = false := by simp
  have f1 : ((w.alloc (.cells #[.int .i64 0, .int .i64 0] 30)).drewN n1).frozen? ⟨w.heap.size, 1, none⟩ = false := by simp
  have c0 : ((w.alloc (.cells #[.int .i64 0, .int .i64 0] 30)).drewN n1).cell? ⟨w.heap.size, 0, none⟩ = some (.int .i64 0) := by simp
  have c1 : ((w.alloc (.cells #[.int .i64 0, .int .i64 0] 30)).drewN n1).cell? ⟨w.heap.size, 1, none⟩ = some (.int .i64 0) := by simp
  have s1 : w.heap.size < ((w.alloc (.cells #[.int .i64 0, .int .i64 0] 30)).drewN n1).heap.size := by simp
  have B1 := Lib.hid b1
  generalize ((w.alloc (.cells #[.int .i64 0, .int .i64 0] 30)).drewN n1) = W1 at b1 B1 f0 f1 c0 c1 s1 ⊢
  clear b1
  go_wp2_with fail
  refine (HA2.out _).mono ?_
  rintro e w2 ⟨rfl, hb2⟩
  have c02 := pw_cell_below hb2 c0
  have c12 := pw_cell_below hb2 c1
  have f02 := (hb2.frozen (p := ⟨w.heap.size, 0, none⟩) s1).trans f0
  have f12 := (hb2.frozen (p := ⟨w.heap.size, 1, none⟩) s1).trans f1
  have s2 := Nat.lt_of_lt_of_le s1 hb2.size
  have B2 := Lib.hid (B1.out.trans (hb2.mono (Nat.le_of_lt s1)))
  clear hb2 c0 c1 f0 f1 s1
  go_wp2_with fail
  refine (HA17.out _).mono ?_
  rintro e w3 ⟨rfl, hb3⟩
  have c03 := pw_cell_below hb3 c02
  have c13 := pw_cell_below hb3 c12
  have f03 := (hb3.frozen (p := ⟨w.heap.size, 0, none⟩) s2).trans f02
  have f13 := (hb3.frozen (p := ⟨w.heap.size, 1, none⟩) s2).trans f12
  have s3 := Nat.lt_of_lt_of_le s2 hb3.size
  have B3 := Lib.hid (B2.out.trans (hb3.mono (Nat.le_of_lt s2)))
  clear hb3 c02 c12 f02 f12 s2
  go_wp2_with fail
  refine (HT.out _).mono ?_
  rintro e w4 ⟨rfl, hb4⟩
  have c04 := pw_cell_below hb4 (pw_cell_below ((Below.refl w3.heap.size w3).alloc (Nat.le_refl _) (.cells #[.int .i64 2, .int .i64 17] 30)) c03)
  have c14 := pw_cell_below hb4 (pw_cell_below ((Below.refl w3.heap.size w3).alloc (Nat.le_refl _) (.cells #[.int .i64 2, .int .i64 17] 30)) c13)
  have t04 : w4.cell? ⟨w3.heap.size, 0, none⟩ = some (.int .i64 2) := pw_cell_below hb4 (by simp)
  have t14 : w4.cell? ⟨w3.heap.size, 1, none⟩ = some (.int .i64 17) := pw_cell_below hb4 (by simp)
  have f04 : w4.frozen? ⟨w.heap.size, 0, none⟩ = false := (hb4.frozen (p := ⟨w.heap.size, 0, none⟩) (by simp; omega)).trans ((World.frozen?_alloc_old _ _ _ (by simp; omega)).trans f03)
  have f14 : w4.frozen? ⟨w.heap.size, 1, none⟩ = false := (hb4.frozen (p := ⟨w.heap.size, 1, none⟩) (by simp; omega)).trans ((World.frozen?_alloc_old _ _ _ (by simp; omega)).trans f13)
  have hne : w3.heap.size ≠ w.heap.size := by omega
  have B4 := Lib.hid ((B3.out.alloc B3.out.size (.cells #[.int .i64 2, .int .i64 17] 30)).trans (hb4.mono (by simp; omega)))
  clear hb4 c03 c13 f03 f13 s3
  go_wp2_with fail
  refine bodyPost_ret (v := .tuple #[.agg #[.int .i64 2, .int .i64 17], .int .i64 0]) ?_ rfl ?_
  · have r0 : ((w4.setCell ⟨w.heap.size, 0, none⟩ (.int .i64 2)).setCell ⟨w.heap.size, 1, none⟩ (.int .i64 17)).cell? ⟨w.heap.size, 0, none⟩ = some (.int .i64 2) := (World.cell?_setCell_other _ _ _ _ (by simp)).trans (World.cell?_setCell_same _ _ _ c04)
    have r1 : ((w4.setCell ⟨w.heap.size, 0, none⟩ (.int .i64 2)).setCell ⟨w.heap.size, 1, none⟩ (.int .i64 17)).cell? ⟨w.heap.size, 1, none⟩ = some (.int .i64 17) := World.cell?_setCell_same _ _ _ ((World.cell?_setCell_other _ _ _ _ (by simp)).trans c14)
    generalize ((w4.setCell ⟨w.heap.size, 0, none⟩ (.int .i64 2)).setCell ⟨w.heap.size, 1, none⟩ (.int .i64 17)) = W5 at r0 r1 ⊢
    simp [results, Tryd.results27, go_sem, r0, r1]
  · exact ⟨rfl, (B4.out.setCell (Nat.le_refl _) _).setCell (Nat.le_refl _) _⟩

set_option maxHeartbeats 1000000 in
set_option maxRecDepth 100000 in
theorem works_any (m : Int) (w : World) (hm : w.cell? ⟨1, 0, none⟩ = some (.int .i64 m)) :
    Calls Tryd.prog 11 #[] w fun e w' => e = .returned (.bool true) ∧ Below w.heap.size w w' := by
  have HR := Lib.hid (read_217 m w hm)
  have ht := fun W => text_217 W
  have HT := Lib.hid ht
  have hc : ∀ W, Calls Tryd.prog 29 #[.agg #[.int .i64 2, .int .i64 17], .agg #[.int .i64 3, .int .i64 1]] W fun e w' => e = .returned (.int .i64 (-1)) ∧ Below W.heap.size W w' := fun W => by
    have := compare_below ⟨2, 17⟩ ⟨3, 1⟩ W
    have e : cmp ⟨2, 17⟩ ⟨3, 1⟩ = -1 := by decide
    rwa [e] at this
  have HC := Lib.hid hc
  clear hc ht hm
  go_enter Tryd.func11, Tryd.ntmps11
  go_wp2_with fail
  refine HR.out.mono ?_
  rintro e w1 ⟨rfl, hb1⟩
  have HB1 := Lib.hid hb1
  clear hb1
  go_wp2_with fail
  refine (HT.out _).mono ?_
  rintro e w2 ⟨rfl, hb2⟩
  have c0 := pw_cell_below hb2 (show (w1.alloc (.cells #[.int .i64 2, .int .i64 17] 30)).cell? ⟨w1.heap.size, 0, none⟩ = some (.int .i64 2) by simp)
  have c1 := pw_cell_below hb2 (show (w1.alloc (.cells #[.int .i64 2, .int .i64 17] 30)).cell? ⟨w1.heap.size, 1, none⟩ = some (.int .i64 17) by simp)
  have HB2 := Lib.hid ((HB1.out.alloc HB1.out.size (.cells #[.int .i64 2, .int .i64 17] 30)).trans (hb2.mono (by have := HB1.out.size; simp; omega)))
  clear hb2
  go_wp2_with fail
  refine (HC.out _).mono ?_
  rintro e w3 ⟨rfl, hb3⟩
  have HB3 := Lib.hid (HB2.out.trans (hb3.mono HB2.out.size))
  clear hb3
  go_wp2_with fail
  go_ret
  exact ⟨rfl, HB3.out⟩
end Go.Proofs.YtghlhficbibcnaaDoor
