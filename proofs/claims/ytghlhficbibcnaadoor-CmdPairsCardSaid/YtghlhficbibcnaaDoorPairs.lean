/-
  Walk: the law CmdPairs.
-/
import Derived.Test.YtghlhficbibcnaaDoorRead2
namespace Go.Proofs.YtghlhficbibcnaaDoor
open Go Go.RowKit Fl

set_option maxHeartbeats 1000000 in
set_option maxRecDepth 100000 in
theorem pairs_any (a b : Cm) (ha : a.ok) (hb : b.ok) (m : Int) (w : World) (hm : w.cell? ⟨1, 0, none⟩ = some (.int .i64 m)) (htab : Lib.TabIs Tryd.prog w "internal/strconv.uint64pow10" .u64 Lib.pow10Tab) :
    Calls Tryd.prog 3 #[a.v, b.v] w fun e w' => e = .returned (.bool true) ∧ Below w.heap.size w w' := by
  obtain ⟨w1, hw1, HB1, HA1, HC1⟩ := boxed2 a b w
  have ra := fun W => right_any a ha W
  have rb := fun W => right_any b hb W
  have rc := fun W => rconflict_any a b W
  have cab := fun W => conflict_any a b ha hb W
  have cba := fun W => conflict_any b a hb ha W
  have sab := fun W => same_cmd a b W
  have rab := fun W => rsame_cmd a b ha.2 hb.2 W
  have hwk := fun W hm ht => works_cmd m W hm ht
  rw [clash_comm a b] at cba
  have hcl := clash_eq a b
  generalize clash a b = cl at hcl cab cba
  generalize alike a b = al at sab rab
  generalize a.right = r1 at ra hcl
  generalize b.right = r2 at rb hcl
  generalize meets a b = mt at rc hcl
  have HM := Lib.hid hm
  have HT := Lib.hid htab
  have HO := Lib.hid (And.intro ha hb)
  clear hm htab ha hb
  have a0 := HA1.out.c0
  have a1 := HA1.out.c1
  have a2 := HA1.out.c2
  rcases r1 with _ | _
  · go_enter Tryd.func3, Tryd.ntmps3
    go_wp2_with (rw [← hw1]; clear hw1)
    refine (ra _).mono ?_
    rintro e w9 ⟨rfl, hb9⟩
    have HA9 := Lib.hid (HA1.out.below hb9)
    have HC9 := Lib.hid (HC1.out.below hb9)
    have HB9 := Lib.hid (HB1.out.trans (hb9.mono HB1.out.size))
    clear a0 a1 a2 hb9
    have hlt1 : w.heap.size + 1 < w9.heap.size := World.block_lt_of_cell? w9 _ HC9.out.c0
    have hlt : w.heap.size < w9.heap.size := by omega
    have A0 := Lib.hid HA9.out.c0
    have mv : ∀ {W W' : World}, Below w9.heap.size w9 W → Below W.heap.size W W' → Below w9.heap.size w9 W' := fun h k => h.trans (k.mono h.size)
    have K7a := Lib.hid (fun W (hW : Below w9.heap.size w9 W) => (cab W).mono (R' := fun e w' => e = .returned (.bool cl) ∧ Below w9.heap.size w9 w') (fun _ _ ⟨he, hb⟩ => ⟨he, mv hW hb⟩))
    have K7b := Lib.hid (fun W (hW : Below w9.heap.size w9 W) => (cba W).mono (R' := fun e w' => e = .returned (.bool cl) ∧ Below w9.heap.size w9 w') (fun _ _ ⟨he, hb⟩ => ⟨he, mv hW hb⟩))
    have K8 := Lib.hid (fun W (hW : Below w9.heap.size w9 W) => (sab W).mono (R' := fun e w' => e = .returned (.bool al) ∧ Below w9.heap.size w9 w') (fun _ _ ⟨he, hb⟩ => ⟨he, mv hW hb⟩))
    have K9 := Lib.hid (fun W (hW : Below w9.heap.size w9 W) => (rab W).mono (R' := fun e w' => e = .returned (.bool al) ∧ Below w9.heap.size w9 w') (fun _ _ ⟨he, hb⟩ => ⟨he, mv hW hb⟩))
    have hm9 := cell_below HB9.out HM.out
    have ht9 := tab_below HT.out HB9.out
    have K10 := Lib.hid (fun W (hW : Below w9.heap.size w9 W) => (hwk W (cell_below hW hm9) (tab_below ht9 hW)).mono (R' := fun e w' => e = .returned (.bool true) ∧ Below w9.heap.size w9 w') (fun _ _ ⟨he, hb⟩ => ⟨he, mv hW hb⟩))
    have hbn : Below w9.heap.size w9 w9.drew := (Below.refl _ _).drew
    have G := Lib.hid (show ∀ W, Below w9.heap.size w9 W → _ from fun W hW => And.intro (And.intro (cell_below hW HA9.out.c0) (And.intro (cell_below hW HA9.out.c1) (cell_below hW HA9.out.c2))) (And.intro (cell_below hW HC9.out.c0) (And.intro (cell_below hW HC9.out.c1) (cell_below hW HC9.out.c2))))
    clear cab cba sab rab hwk mv hm9 ht9 ra rb rc
    have hcl2 : cl = false := by simpa using hcl
    clear hcl
    subst hcl2
    go_wp2_with fail
    go_region_held3 (fun w' => (w'.cell? ⟨w.heap.size, 0, none⟩ = some (.int .i64 a.kind) ∧ w'.cell? ⟨w.heap.size, 1, none⟩ = some (.string a.key) ∧ w'.cell? ⟨w.heap.size, 2, none⟩ = some (.float .f64 a.val)) ∧ (w'.cell? ⟨w.heap.size + 1, 0, none⟩ = some (.int .i64 b.kind) ∧ w'.cell? ⟨w.heap.size + 1, 1, none⟩ = some (.string b.key) ∧ w'.cell? ⟨w.heap.size + 1, 2, none⟩ = some (.float .f64 b.val)))
      (first | (with_reducible exact G.out _ hbn) | go_keep)
      (first
        | (go_at_call 7; with_reducible refine (K7a.out _ ?hw).mono ?_; (case hw => assumption); clear hbn; rintro e w8 ⟨rfl, hbn⟩)
        | (go_at_call 7; with_reducible refine (K7b.out _ ?hw).mono ?_; (case hw => assumption); clear hbn; rintro e w8 ⟨rfl, hbn⟩)
        | (go_at_call 8; with_reducible refine (K8.out _ ?hw).mono ?_; (case hw => assumption); clear hbn; rintro e w8 ⟨rfl, hbn⟩)
        | (go_at_call 9; with_reducible refine (K9.out _ ?hw).mono ?_; (case hw => assumption); clear hbn; rintro e w8 ⟨rfl, hbn⟩)
        | (go_at_call 10; with_reducible refine (K10.out _ ?hw).mono ?_; (case hw => assumption); clear hbn; rintro e w8 ⟨rfl, hbn⟩))
    go_wp2
    go_ret
    exact ⟨rfl, HB9.out.trans (hbn.mono (Nat.le_of_lt hlt))⟩
  · rcases r2 with _ | _
    · go_enter Tryd.func3, Tryd.ntmps3
      go_wp2_with (rw [← hw1]; clear hw1)
      refine (ra _).mono ?_
      rintro e w2 ⟨rfl, hb2⟩
      have HC2 := Lib.hid (HC1.out.below hb2)
      have b0 := HC2.out.c0
      have b1 := HC2.out.c1
      have b2 := HC2.out.c2
      clear a0 a1 a2
      go_wp2_with fail
      refine (rb _).mono ?_
      rintro e w9 ⟨rfl, hb3⟩
      have hb9 : Below w1.heap.size w1 w9 := hb2.trans (hb3.mono hb2.size)
      have HA9 := Lib.hid (HA1.out.below hb9)
      have HC9 := Lib.hid (HC1.out.below hb9)
      have HB9 := Lib.hid (HB1.out.trans (hb9.mono HB1.out.size))
      clear b0 b1 b2 hb9 hb2 hb3 HC2
      have hlt1 : w.heap.size + 1 < w9.heap.size := World.block_lt_of_cell? w9 _ HC9.out.c0
      have hlt : w.heap.size < w9.heap.size := by omega
      have A0 := Lib.hid HA9.out.c0
      have mv : ∀ {W W' : World}, Below w9.heap.size w9 W → Below W.heap.size W W' → Below w9.heap.size w9 W' := fun h k => h.trans (k.mono h.size)
      have K7a := Lib.hid (fun W (hW : Below w9.heap.size w9 W) => (cab W).mono (R' := fun e w' => e = .returned (.bool cl) ∧ Below w9.heap.size w9 w') (fun _ _ ⟨he, hb⟩ => ⟨he, mv hW hb⟩))
      have K7b := Lib.hid (fun W (hW : Below w9.heap.size w9 W) => (cba W).mono (R' := fun e w' => e = .returned (.bool cl) ∧ Below w9.heap.size w9 w') (fun _ _ ⟨he, hb⟩ => ⟨he, mv hW hb⟩))
      have K8 := Lib.hid (fun W (hW : Below w9.heap.size w9 W) => (sab W).mono (R' := fun e w' => e = .returned (.bool al) ∧ Below w9.heap.size w9 w') (fun _ _ ⟨he, hb⟩ => ⟨he, mv hW hb⟩))
      have K9 := Lib.hid (fun W (hW : Below w9.heap.size w9 W) => (rab W).mono (R' := fun e w' => e = .returned (.bool al) ∧ Below w9.heap.size w9 w') (fun _ _ ⟨he, hb⟩ => ⟨he, mv hW hb⟩))
      have hm9 := cell_below HB9.out HM.out
      have ht9 := tab_below HT.out HB9.out
      have K10 := Lib.hid (fun W (hW : Below w9.heap.size w9 W) => (hwk W (cell_below hW hm9) (tab_below ht9 hW)).mono (R' := fun e w' => e = .returned (.bool true) ∧ Below w9.heap.size w9 w') (fun _ _ ⟨he, hb⟩ => ⟨he, mv hW hb⟩))
      have hbn : Below w9.heap.size w9 w9.drew := (Below.refl _ _).drew
      have G := Lib.hid (show ∀ W, Below w9.heap.size w9 W → _ from fun W hW => And.intro (And.intro (cell_below hW HA9.out.c0) (And.intro (cell_below hW HA9.out.c1) (cell_below hW HA9.out.c2))) (And.intro (cell_below hW HC9.out.c0) (And.intro (cell_below hW HC9.out.c1) (cell_below hW HC9.out.c2))))
      clear cab cba sab rab hwk mv hm9 ht9 ra rb rc
      have hcl2 : cl = false := by simpa using hcl
      clear hcl
      subst hcl2
      go_wp2_with fail
      go_region_held3 (fun w' => (w'.cell? ⟨w.heap.size, 0, none⟩ = some (.int .i64 a.kind) ∧ w'.cell? ⟨w.heap.size, 1, none⟩ = some (.string a.key) ∧ w'.cell? ⟨w.heap.size, 2, none⟩ = some (.float .f64 a.val)) ∧ (w'.cell? ⟨w.heap.size + 1, 0, none⟩ = some (.int .i64 b.kind) ∧ w'.cell? ⟨w.heap.size + 1, 1, none⟩ = some (.string b.key) ∧ w'.cell? ⟨w.heap.size + 1, 2, none⟩ = some (.float .f64 b.val)))
        (first | (with_reducible exact G.out _ hbn) | go_keep)
        (first
          | (go_at_call 7; with_reducible refine (K7a.out _ ?hw).mono ?_; (case hw => assumption); clear hbn; rintro e w8 ⟨rfl, hbn⟩)
          | (go_at_call 7; with_reducible refine (K7b.out _ ?hw).mono ?_; (case hw => assumption); clear hbn; rintro e w8 ⟨rfl, hbn⟩)
          | (go_at_call 8; with_reducible refine (K8.out _ ?hw).mono ?_; (case hw => assumption); clear hbn; rintro e w8 ⟨rfl, hbn⟩)
          | (go_at_call 9; with_reducible refine (K9.out _ ?hw).mono ?_; (case hw => assumption); clear hbn; rintro e w8 ⟨rfl, hbn⟩)
          | (go_at_call 10; with_reducible refine (K10.out _ ?hw).mono ?_; (case hw => assumption); clear hbn; rintro e w8 ⟨rfl, hbn⟩))
      go_wp2
      go_ret
      exact ⟨rfl, HB9.out.trans (hbn.mono (Nat.le_of_lt hlt))⟩
    · go_enter Tryd.func3, Tryd.ntmps3
      go_wp2_with (rw [← hw1]; clear hw1)
      refine (ra _).mono ?_
      rintro e w2 ⟨rfl, hb2⟩
      have HC2 := Lib.hid (HC1.out.below hb2)
      have b0 := HC2.out.c0
      have b1 := HC2.out.c1
      have b2 := HC2.out.c2
      clear a0 a1 a2
      go_wp2_with fail
      refine (rb _).mono ?_
      rintro e w3 ⟨rfl, hb3⟩
      have hb13 : Below w1.heap.size w1 w3 := hb2.trans (hb3.mono hb2.size)
      have HC3 := Lib.hid (HC1.out.below hb13)
      have HA3 := Lib.hid (HA1.out.below hb13)
      clear b0 b1 b2
      have a0 := HA3.out.c0
      have a1 := HA3.out.c1
      have a2 := HA3.out.c2
      have b0 := HC3.out.c0
      have b1 := HC3.out.c1
      have b2 := HC3.out.c2
      go_wp2_with fail
      refine (rc _).mono ?_
      rintro e w9 ⟨rfl, hb4⟩
      have hb9 : Below w1.heap.size w1 w9 := hb13.trans (hb4.mono hb13.size)
      have HA9 := Lib.hid (HA1.out.below hb9)
      have HC9 := Lib.hid (HC1.out.below hb9)
      have HB9 := Lib.hid (HB1.out.trans (hb9.mono HB1.out.size))
      clear b0 b1 b2 a0 a1 a2 hb9 hb2 hb3 hb4 hb13 HC2 HC3 HA3
      have hlt1 : w.heap.size + 1 < w9.heap.size := World.block_lt_of_cell? w9 _ HC9.out.c0
      have hlt : w.heap.size < w9.heap.size := by omega
      have A0 := Lib.hid HA9.out.c0
      have mv : ∀ {W W' : World}, Below w9.heap.size w9 W → Below W.heap.size W W' → Below w9.heap.size w9 W' := fun h k => h.trans (k.mono h.size)
      have K7a := Lib.hid (fun W (hW : Below w9.heap.size w9 W) => (cab W).mono (R' := fun e w' => e = .returned (.bool cl) ∧ Below w9.heap.size w9 w') (fun _ _ ⟨he, hb⟩ => ⟨he, mv hW hb⟩))
      have K7b := Lib.hid (fun W (hW : Below w9.heap.size w9 W) => (cba W).mono (R' := fun e w' => e = .returned (.bool cl) ∧ Below w9.heap.size w9 w') (fun _ _ ⟨he, hb⟩ => ⟨he, mv hW hb⟩))
      have K8 := Lib.hid (fun W (hW : Below w9.heap.size w9 W) => (sab W).mono (R' := fun e w' => e = .returned (.bool al) ∧ Below w9.heap.size w9 w') (fun _ _ ⟨he, hb⟩ => ⟨he, mv hW hb⟩))
      have K9 := Lib.hid (fun W (hW : Below w9.heap.size w9 W) => (rab W).mono (R' := fun e w' => e = .returned (.bool al) ∧ Below w9.heap.size w9 w') (fun _ _ ⟨he, hb⟩ => ⟨he, mv hW hb⟩))
      have hm9 := cell_below HB9.out HM.out
      have ht9 := tab_below HT.out HB9.out
      have K10 := Lib.hid (fun W (hW : Below w9.heap.size w9 W) => (hwk W (cell_below hW hm9) (tab_below ht9 hW)).mono (R' := fun e w' => e = .returned (.bool true) ∧ Below w9.heap.size w9 w') (fun _ _ ⟨he, hb⟩ => ⟨he, mv hW hb⟩))
      have hbn : Below w9.heap.size w9 w9.drew := (Below.refl _ _).drew
      have G := Lib.hid (show ∀ W, Below w9.heap.size w9 W → _ from fun W hW => And.intro (And.intro (cell_below hW HA9.out.c0) (And.intro (cell_below hW HA9.out.c1) (cell_below hW HA9.out.c2))) (And.intro (cell_below hW HC9.out.c0) (And.intro (cell_below hW HC9.out.c1) (cell_below hW HC9.out.c2))))
      clear cab cba sab rab hwk mv hm9 ht9 ra rb rc
      have hcl2 : cl = mt := by simpa using hcl
      clear hcl
      subst hcl2
      go_wp2_with fail
      go_region_held3 (fun w' => (w'.cell? ⟨w.heap.size, 0, none⟩ = some (.int .i64 a.kind) ∧ w'.cell? ⟨w.heap.size, 1, none⟩ = some (.string a.key) ∧ w'.cell? ⟨w.heap.size, 2, none⟩ = some (.float .f64 a.val)) ∧ (w'.cell? ⟨w.heap.size + 1, 0, none⟩ = some (.int .i64 b.kind) ∧ w'.cell? ⟨w.heap.size + 1, 1, none⟩ = some (.string b.key) ∧ w'.cell? ⟨w.heap.size + 1, 2, none⟩ = some (.float .f64 b.val)))
        (first | (with_reducible exact G.out _ hbn) | go_keep)
        (first
          | (go_at_call 7; with_reducible refine (K7a.out _ ?hw).mono ?_; (case hw => assumption); clear hbn; rintro e w8 ⟨rfl, hbn⟩)
          | (go_at_call 7; with_reducible refine (K7b.out _ ?hw).mono ?_; (case hw => assumption); clear hbn; rintro e w8 ⟨rfl, hbn⟩)
          | (go_at_call 8; with_reducible refine (K8.out _ ?hw).mono ?_; (case hw => assumption); clear hbn; rintro e w8 ⟨rfl, hbn⟩)
          | (go_at_call 9; with_reducible refine (K9.out _ ?hw).mono ?_; (case hw => assumption); clear hbn; rintro e w8 ⟨rfl, hbn⟩)
          | (go_at_call 10; with_reducible refine (K10.out _ ?hw).mono ?_; (case hw => assumption); clear hbn; rintro e w8 ⟨rfl, hbn⟩))
      go_wp2
      go_ret
      exact ⟨rfl, HB9.out.trans (hbn.mono (Nat.le_of_lt hlt))⟩
end Go.Proofs.YtghlhficbibcnaaDoor
