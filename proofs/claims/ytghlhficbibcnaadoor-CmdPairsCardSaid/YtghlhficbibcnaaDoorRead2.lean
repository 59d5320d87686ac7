/-
  Walks: cmd.Read at the small play.
-/
import Derived.Test.YtghlhficbibcnaaDoorRead
namespace Go.Proofs.YtghlhficbibcnaaDoor
open Go Go.RowKit Go.Shelf Go.Sort Fl Go.Maps

theorem run_store_float (P : Program) (w : World) (a : Addr) (m : Mode) (k : FloatKind) (b : Nat) : (store a (.float k b) m).run P w = stored P w a (.float k b) m := run_store P w a _ m rfl
attribute [local go_sem] run_store_float
theorem info9 : (Tryd.prog.info? 9).map (fun i => (i.zero, i.size, i.bytes)) = some (some (.string ByteArray.empty), 1, 16) := by kernel_rfl
def putB : ByteArray := ⟨#[112, 117, 116]⟩
def aB : ByteArray := ⟨#[97]⟩
theorem split_play (m : Int) (w : World) (hm : w.cell? ⟨1, 0, none⟩ = some (.int .i64 m)) :
    Calls Tryd.prog 42 #[.string tput, .string ⟨#[32]⟩] w fun e w' => e = .returned (.slice (some ⟨w.heap.size, 0, none⟩) 3 3) ∧ w' = w.alloc (.cells #[.string putB, .string aB, .string t3p1] 9) := by
  have h := Any.strings_Split Tryd.laySplit info9 tput ⟨#[32]⟩ m w (by decide) hm (by decide)
  have e1 : Lib.countB tput ⟨#[32]⟩ = 2 := by decide +kernel
  have e2 : Lib.splitB ⟨#[32]⟩ 0 2 tput = [putB, aB, t3p1] := by decide +kernel
  rw [e1, e2] at h
  exact h
/-- The memory of the play, while the kind is sought. -/
structure RAt (w wr : World) (l g : Nat) (kd : Int) (x : Nat) : Prop where
  hl : w.heap.size < l
  hg : l < g
  l0 : wr.cell? ⟨l, 0, none⟩ = some (.string putB)
  l1 : wr.cell? ⟨l, 1, none⟩ = some (.string aB)
  l2 : wr.cell? ⟨l, 2, none⟩ = some (.string t3p1)
  c0 : wr.cell? ⟨g, 0, none⟩ = some (.int .i64 kd)
  c1 : wr.cell? ⟨g, 1, none⟩ = some (.string aB)
  c2 : wr.cell? ⟨g, 2, none⟩ = some (.float .f64 x)
  r0 : ∃ v, wr.cell? ⟨w.heap.size, 0, none⟩ = some v
  r1 : ∃ v, wr.cell? ⟨w.heap.size, 1, none⟩ = some v
  r2 : ∃ v, wr.cell? ⟨w.heap.size, 2, none⟩ = some v
  fc : ∀ j, wr.frozen? ⟨g, j, none⟩ = false
  fr : ∀ j, wr.frozen? ⟨w.heap.size, j, none⟩ = false
  hb : RowKit.Below w.heap.size w wr
theorem RAt.below {w wr w' : World} {l g : Nat} {kd : Int} {x : Nat} (h : RAt w wr l g kd x) (b : RowKit.Below wr.heap.size wr w') : RAt w w' l g kd x := by
  have q0 := World.block_lt_of_cell? wr _ h.c0
  have hl := h.hl
  have hg := h.hg
  have q1 : w.heap.size < wr.heap.size := by simp only at q0; omega
  exact ⟨h.hl, h.hg, cell_below b h.l0, cell_below b h.l1, cell_below b h.l2, cell_below b h.c0, cell_below b h.c1, cell_below b h.c2, h.r0.imp fun _ h => cell_below b h, h.r1.imp fun _ h => cell_below b h, h.r2.imp fun _ h => cell_below b h,
    fun j => (b.frozen (p := ⟨g, j, none⟩) q0).trans (h.fc j), fun j => (b.frozen (p := ⟨w.heap.size, j, none⟩) q1).trans (h.fr j), h.hb.trans (b.mono h.hb.size)⟩
theorem RAt.set0 {w wr : World} {l g : Nat} {kd : Int} {x : Nat} (h : RAt w wr l g kd x) (k : Int) : RAt w (wr.setCell ⟨g, 0, none⟩ (.int .i64 k)) l g k x := by
  have hl := h.hl
  have hg := h.hg
  have o : ∀ (a : Addr) (v : Value), wr.cell? a = some v → (⟨g, 0, none⟩ : Addr) ≠ a → (wr.setCell ⟨g, 0, none⟩ (.int .i64 k)).cell? a = some v := fun a v hv hne => (World.cell?_setCell_other _ _ _ _ hne).trans hv
  exact ⟨h.hl, h.hg, o _ _ h.l0 (by simp; try omega), o _ _ h.l1 (by simp; try omega), o _ _ h.l2 (by simp; try omega), World.cell?_setCell_same _ _ _ h.c0, o _ _ h.c1 (by simp; try omega), o _ _ h.c2 (by simp; try omega),
    h.r0.imp fun _ h => o _ _ h (by simp; try omega), h.r1.imp fun _ h => o _ _ h (by simp; try omega), h.r2.imp fun _ h => o _ _ h (by simp; try omega), fun j => by simp [h.fc j], fun j => by simp [h.fr j], h.hb.setCell (by simp only; omega) _⟩
theorem RAt.set2 {w wr : World} {l g : Nat} {kd : Int} {x : Nat} (h : RAt w wr l g kd x) (y : Nat) : RAt w (wr.setCell ⟨g, 2, none⟩ (.float .f64 y)) l g kd y := by
  have hl := h.hl
  have hg := h.hg
  have o : ∀ (a : Addr) (v : Value), wr.cell? a = some v → (⟨g, 2, none⟩ : Addr) ≠ a → (wr.setCell ⟨g, 2, none⟩ (.float .f64 y)).cell? a = some v := fun a v hv hne => (World.cell?_setCell_other _ _ _ _ hne).trans hv
  exact ⟨h.hl, h.hg, o _ _ h.l0 (by simp; try omega), o _ _ h.l1 (by simp; try omega), o _ _ h.l2 (by simp; try omega), o _ _ h.c0 (by simp; try omega), o _ _ h.c1 (by simp; try omega), World.cell?_setCell_same _ _ _ h.c2,
    h.r0.imp fun _ h => o _ _ h (by simp; try omega), h.r1.imp fun _ h => o _ _ h (by simp; try omega), h.r2.imp fun _ h => o _ _ h (by simp; try omega), fun j => by simp [h.fc j], fun j => by simp [h.fr j], h.hb.setCell (by simp only; omega) _⟩
set_option maxHeartbeats 1000000 in
set_option maxRecDepth 100000 in
theorem cread_play (m : Int) (w : World) (hm : w.cell? ⟨1, 0, none⟩ = some (.int .i64 m)) (htab : Lib.TabIs Tryd.prog w "internal/strconv.uint64pow10" .u64 Lib.pow10Tab) :
    Calls Tryd.prog 25 #[.string tput] w fun e w' => e = .returned (.tuple #[cplay.v, .int .i64 0]) ∧ RowKit.Below w.heap.size w w' := by
  have hm1 := cell_below (RowKit.Below.alloc (RowKit.Below.refl w.heap.size w) (Nat.le_refl _) (.cells #[.int .i64 0, .string ⟨#[]⟩, .float .f64 0] 24)) hm
  have HM := Lib.hid hm
  have HT := Lib.hid htab
  clear hm htab
  go_enter Tryd.func25, Tryd.ntmps25
  go_wp2_with fail
  refine (split_play m _ hm1).mono ?_
  rintro e w1 ⟨rfl, hw1⟩
  have z1 : w1.heap.size = w.heap.size + 2 := by rw [hw1]; simp
  have B1 : RowKit.Below w.heap.size w w1 := by rw [hw1]; exact ((RowKit.Below.refl _ _).alloc (Nat.le_refl _) _).alloc (by simp) _
  have l0 : w1.cell? ⟨w.heap.size + 1, 0, none⟩ = some (.string putB) := by rw [hw1]; simp
  have l1 : w1.cell? ⟨w.heap.size + 1, 1, none⟩ = some (.string aB) := by rw [hw1]; simp
  have l2 : w1.cell? ⟨w.heap.size + 1, 2, none⟩ = some (.string t3p1) := by rw [hw1]; simp
  have r0 : ∃ v, w1.cell? ⟨w.heap.size, 0, none⟩ = some v := ⟨.int .i64 0, by rw [hw1]; simp⟩
  have r1 : ∃ v, w1.cell? ⟨w.heap.size, 1, none⟩ = some v := ⟨.string ⟨#[]⟩, by rw [hw1]; simp⟩
  have r2 : ∃ v, w1.cell? ⟨w.heap.size, 2, none⟩ = some v := ⟨.float .f64 0, by rw [hw1]; simp⟩
  have fr : ∀ j, w1.frozen? ⟨w.heap.size, j, none⟩ = false := fun j => by rw [hw1]; simp
  have hR : RAt w (w1.alloc (.cells #[.int .i64 0, .string aB, .float .f64 0] 24)) (w.heap.size + 1) w1.heap.size 0 0 := by
    have b := (RowKit.Below.refl w1.heap.size w1).alloc (Nat.le_refl _) (.cells #[.int .i64 0, .string aB, .float .f64 0] 24)
    exact ⟨by omega, by omega, cell_below b l0, cell_below b l1, cell_below b l2, by simp, by simp, by simp, r0.imp fun _ h => cell_below b h, r1.imp fun _ h => cell_below b h, r2.imp fun _ h => cell_below b h,
      fun j => by simp, fun j => (b.frozen (p := ⟨w.heap.size, j, none⟩) (by simp only; omega)).trans (fr j), B1.trans (b.mono B1.size)⟩
  have HR := Lib.hid hR
  have hbl : w.heap.size + 1 < w1.heap.size := by omega
  have HBL := Lib.hid hbl
  have hpl : putB.toList = [112, 117, 116] := by decide +kernel
  clear hw1 z1 B1 l2 r0 r1 r2 fr hR hm1 hbl
  go_wp2_with fail
  clear l0 l1
  generalize w1.heap.size = g at HR HBL ⊢
  go_loopw [6] (fun v6 wr => ∃ k : Nat, 1 ≤ k ∧ k ≤ 5 ∧ v6 = .int .i64 k ∧ RAt w wr (w.heap.size + 1) g (if 3 ≤ k then 2 else 0) 0) (fun v6 _ => 5 - (intOf v6).toNat)
  case atStart => exact ⟨1, by omega, by omega, rfl, HR.out⟩
  case round =>
    obtain ⟨k, h1, h5, rfl, hr⟩ := hrel
    have HW := Lib.hid hr
    have hlw : w.heap.size + 1 < wr.heap.size := World.block_lt_of_cell? wr _ hr.l0
    have l0 := hr.l0
    have L0 := Lib.hid l0
    have c0 := hr.c0
    clear hr HR
    have hk : k = 1 ∨ k = 2 ∨ k = 3 ∨ k = 4 ∨ k = 5 := by omega
    clear h1 h5
    rcases hk with rfl | rfl | rfl | rfl | rfl
    · have hword := fun W => word_any 1 W
      rw [show wordOf 1 = ⟨#[103, 101, 116]⟩ by decide] at hword
      have K := Lib.hid (fun W (hW : RowKit.Below wr.heap.size wr W) => (hword W).mono (R' := fun e w' => e = .returned (.string ⟨#[103, 101, 116]⟩) ∧ RowKit.Below wr.heap.size wr w') (fun _ _ ⟨he, hb⟩ => ⟨he, hW.trans (hb.mono hW.size)⟩))
      have hbn : RowKit.Below wr.heap.size wr wr.drew := (RowKit.Below.refl _ _).drew
      clear hword c0
      go_wp2_with fail
      go_region_held3 (fun w' => w'.cell? ⟨w.heap.size + 1, 0, none⟩ = some (.string putB))
        (first | (exact (hbn.cell (p := ⟨w.heap.size + 1, 0, none⟩) hlw).trans L0.out) | go_keep)
        (first | (go_at_call 38; with_reducible refine (K.out _ ?hw).mono ?_; (case hw => assumption); clear hbn; rintro e w9 ⟨rfl, hbn⟩))
      have hR9 := HW.out.below hbn
      have HR9 := Lib.hid hR9
      clear hR9 hbn
      go_wp2
      go_roundw
      case rel => exact ⟨2, by omega, by omega, by first | rfl | simp, HR9.out⟩
      case measure => simp [intOf]
    · have hword := fun W => word_any 2 W
      rw [show wordOf 2 = ⟨#[112, 117, 116]⟩ by decide] at hword
      have K := Lib.hid (fun W (hW : RowKit.Below wr.heap.size wr W) => (hword W).mono (R' := fun e w' => e = .returned (.string ⟨#[112, 117, 116]⟩) ∧ RowKit.Below wr.heap.size wr w') (fun _ _ ⟨he, hb⟩ => ⟨he, hW.trans (hb.mono hW.size)⟩))
      have hbn : RowKit.Below wr.heap.size wr wr.drew := (RowKit.Below.refl _ _).drew
      clear hword c0
      go_wp2_with fail
      go_region_held3 (fun w' => w'.cell? ⟨w.heap.size + 1, 0, none⟩ = some (.string putB))
        (first | (exact (hbn.cell (p := ⟨w.heap.size + 1, 0, none⟩) hlw).trans L0.out) | go_keep)
        (first | (go_at_call 38; with_reducible refine (K.out _ ?hw).mono ?_; (case hw => assumption); clear hbn; rintro e w9 ⟨rfl, hbn⟩))
      have hR9 := HW.out.below hbn
      have c9 := hR9.c0
      have f9 := hR9.fc 0
      have HR9 := Lib.hid hR9
      clear hR9 hbn
      go_wp2
      go_roundw
      case rel => exact ⟨3, by omega, by omega, by first | rfl | simp, HR9.out.set0 2⟩
      case measure => simp [intOf]
    · have hword := fun W => word_any 3 W
      rw [show wordOf 3 = ⟨#[100, 101, 108]⟩ by decide] at hword
      have K := Lib.hid (fun W (hW : RowKit.Below wr.heap.size wr W) => (hword W).mono (R' := fun e w' => e = .returned (.string ⟨#[100, 101, 108]⟩) ∧ RowKit.Below wr.heap.size wr w') (fun _ _ ⟨he, hb⟩ => ⟨he, hW.trans (hb.mono hW.size)⟩))
      have hbn : RowKit.Below wr.heap.size wr wr.drew := (RowKit.Below.refl _ _).drew
      clear hword c0
      go_wp2_with fail
      go_region_held3 (fun w' => w'.cell? ⟨w.heap.size + 1, 0, none⟩ = some (.string putB))
        (first | (exact (hbn.cell (p := ⟨w.heap.size + 1, 0, none⟩) hlw).trans L0.out) | go_keep)
        (first | (go_at_call 38; with_reducible refine (K.out _ ?hw).mono ?_; (case hw => assumption); clear hbn; rintro e w9 ⟨rfl, hbn⟩))
      have hR9 := HW.out.below hbn
      have HR9 := Lib.hid hR9
      clear hR9 hbn
      go_wp2
      go_roundw
      case rel => exact ⟨4, by omega, by omega, by first | rfl | simp, HR9.out⟩
      case measure => simp [intOf]
    · have hword := fun W => word_any 4 W
      rw [show wordOf 4 = ⟨#[97, 100, 100]⟩ by decide] at hword
      have K := Lib.hid (fun W (hW : RowKit.Below wr.heap.size wr W) => (hword W).mono (R' := fun e w' => e = .returned (.string ⟨#[97, 100, 100]⟩) ∧ RowKit.Below wr.heap.size wr w') (fun _ _ ⟨he, hb⟩ => ⟨he, hW.trans (hb.mono hW.size)⟩))
      have hbn : RowKit.Below wr.heap.size wr wr.drew := (RowKit.Below.refl _ _).drew
      clear hword c0
      go_wp2_with fail
      go_region_held3 (fun w' => w'.cell? ⟨w.heap.size + 1, 0, none⟩ = some (.string putB))
        (first | (exact (hbn.cell (p := ⟨w.heap.size + 1, 0, none⟩) hlw).trans L0.out) | go_keep)
        (first | (go_at_call 38; with_reducible refine (K.out _ ?hw).mono ?_; (case hw => assumption); clear hbn; rintro e w9 ⟨rfl, hbn⟩))
      have hR9 := HW.out.below hbn
      have HR9 := Lib.hid hR9
      clear hR9 hbn
      go_wp2
      go_roundw
      case rel => exact ⟨5, by omega, by omega, by first | rfl | simp, HR9.out⟩
      case measure => simp [intOf]
    · have HWt := Lib.hid (tab_below HT.out HW.out.hb)
      have hmw := cell_below HW.out.hb HM.out
      have l2 := HW.out.l2
      go_wp2_with fail
      refine (read_play m wr hmw HWt.out).mono ?_
      rintro e w2 ⟨rfl, hb2⟩
      have hR2 := HW.out.below hb2
      have c2 := hR2.c2
      have f2 := hR2.fc 2
      have HR2 := Lib.hid hR2
      have HW2 := Lib.hid (tab_below HT.out hR2.hb)
      clear hR2 hb2 c0 l0 l2 hmw
      have htl : tput.toList = [112, 117, 116, 32, 97, 32, 51, 112, 45, 49] := by decide +kernel
      have h3 := HR2.out.set2 4609434218613702656
      have d0 := h3.c0
      have d1 := h3.c1
      have d2 := h3.c2
      have H3 := Lib.hid h3
      clear h3
      go_wp2_with fail
      generalize w2.setCell ⟨g, 2, none⟩ (.float .f64 4609434218613702656) = w3 at d0 d1 d2 H3 ⊢
      refine (ctext_play w3 (tab_below HT.out H3.out.hb)).mono ?_
      rintro e w4 ⟨rfl, hb4⟩
      have h4 := H3.out.below hb4
      have H4 := Lib.hid h4
      clear d0 d1 d2 c2 f2 hb4
      have d0 : w4.cell? ⟨g, 0, none⟩ = some (.int .i64 2) := h4.c0
      have d1 := h4.c1
      have d2 := h4.c2
      obtain ⟨v0, r0⟩ := h4.r0
      obtain ⟨v1, r1⟩ := h4.r1
      obtain ⟨v2, r2⟩ := h4.r2
      have f0 := h4.fr 0
      have f1 := h4.fr 1
      have f2 := h4.fr 2
      have hne : g ≠ w.heap.size := by have := h4.hl; have := h4.hg; omega
      clear h4
      go_wp2_with fail
      refine bodyPost_ret (v := .tuple #[cplay.v, .int .i64 0]) ?_ rfl ?_
      · have s1 : ((w4.setCell ⟨w.heap.size, 0, none⟩ (.int .i64 2)).setCell ⟨w.heap.size, 1, none⟩ (.string aB)).cell? ⟨w.heap.size, 2, none⟩ = some v2 := (World.cell?_setCell_other _ _ _ _ (by simp)).trans ((World.cell?_setCell_other _ _ _ _ (by simp)).trans r2)
        have s2 : (w4.setCell ⟨w.heap.size, 0, none⟩ (.int .i64 2)).cell? ⟨w.heap.size, 1, none⟩ = some v1 := (World.cell?_setCell_other _ _ _ _ (by simp)).trans r1
        have t0 : (((w4.setCell ⟨w.heap.size, 0, none⟩ (.int .i64 2)).setCell ⟨w.heap.size, 1, none⟩ (.string aB)).setCell ⟨w.heap.size, 2, none⟩ (.float .f64 4609434218613702656)).cell? ⟨w.heap.size, 0, none⟩ = some (.int .i64 2) := (World.cell?_setCell_other _ _ _ _ (by simp)).trans ((World.cell?_setCell_other _ _ _ _ (by simp)).trans (World.cell?_setCell_same _ _ _ r0))
        have t1 : (((w4.setCell ⟨w.heap.size, 0, none⟩ (.int .i64 2)).setCell ⟨w.heap.size, 1, none⟩ (.string aB)).setCell ⟨w.heap.size, 2, none⟩ (.float .f64 4609434218613702656)).cell? ⟨w.heap.size, 1, none⟩ = some (.string aB) := (World.cell?_setCell_other _ _ _ _ (by simp)).trans (World.cell?_setCell_same _ _ _ s2)
        have t2 : (((w4.setCell ⟨w.heap.size, 0, none⟩ (.int .i64 2)).setCell ⟨w.heap.size, 1, none⟩ (.string aB)).setCell ⟨w.heap.size, 2, none⟩ (.float .f64 4609434218613702656)).cell? ⟨w.heap.size, 2, none⟩ = some (.float .f64 4609434218613702656) := World.cell?_setCell_same _ _ _ s1
        generalize ((w4.setCell ⟨w.heap.size, 0, none⟩ (.int .i64 2)).setCell ⟨w.heap.size, 1, none⟩ (.string aB)).setCell ⟨w.heap.size, 2, none⟩ (.float .f64 4609434218613702656) = W5 at t0 t1 t2 ⊢
        simp [results, Tryd.results25, go_sem, t0, t1, t2, cplay, aB]
      · exact ⟨rfl, ((H4.out.hb.setCell (Nat.le_refl _) _).setCell (Nat.le_refl _) _).setCell (Nat.le_refl _) _⟩
set_option maxHeartbeats 1000000 in
set_option maxRecDepth 100000 in
/-- The law's own small play. -/
theorem works_cmd (m : Int) (w : World) (hm : w.cell? ⟨1, 0, none⟩ = some (.int .i64 m)) (htab : Lib.TabIs Tryd.prog w "internal/strconv.uint64pow10" .u64 Lib.pow10Tab) :
    Calls Tryd.prog 10 #[] w fun e w' => e = .returned (.bool true) ∧ RowKit.Below w.heap.size w w' := by
  have HR := Lib.hid (cread_play m w hm htab)
  have hwr := fun W => writes_any cplay cplay_ok W
  rw [show cplay.writes = true by decide +kernel] at hwr
  have o1 : (Ieee.Format.order (FloatKind.format .f64) 4609434218613702656 4609434218613702656 == some .eq) = true := by decide +kernel
  have k1 : cplay.kind = 2 := rfl
  have k2 : cplay.key.toList = [97] := by decide +kernel
  have k3 : cplay.val = 4609434218613702656 := rfl
  have HT := Lib.hid htab
  clear hm htab
  go_enter Tryd.func10, Tryd.ntmps10
  go_wp2_with fail
  refine HR.out.mono ?_
  rintro e w1 ⟨rfl, hb1⟩
  have hb2 := hb1.alloc hb1.size (.cells cplay.cells 24)
  have HB2 := Lib.hid hb2
  have hat : cplay.At (w1.alloc (.cells cplay.cells 24)) w1.heap.size := ⟨by simp, by simp, by simp⟩
  have HAT := Lib.hid hat
  clear hb1 hb2 hat
  go_wp2_with fail
  refine (hwr _).mono ?_
  rintro e w2 ⟨rfl, hb2⟩
  have h2 := HAT.out.below hb2
  have c0 := h2.c0
  have c1 := h2.c1
  have c2 := h2.c2
  have hb2' := HB2.out.trans (hb2.mono HB2.out.size)
  have HB3 := Lib.hid hb2'
  clear h2 hb2 hb2'
  go_wp2_with fail
  refine (ctext_play w2 (tab_below HT.out HB3.out)).mono ?_
  rintro e w3 ⟨rfl, hb3⟩
  have htl : tput.toList = [112, 117, 116, 32, 97, 32, 51, 112, 45, 49] := by decide +kernel
  go_wp2
  go_ret
  exact ⟨rfl, HB3.out.trans (hb3.mono HB3.out.size)⟩
end Go.Proofs.YtghlhficbibcnaaDoor
