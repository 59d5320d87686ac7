/-
  Walks: exact.Read, cmd.Text, cmd.Read and the law's own small play.
-/
import Derived.Test.YtghlhficbibcnaaDoorText2
namespace Go.Proofs.YtghlhficbibcnaaDoor
open Go Go.RowKit Go.Shelf Go.Sort Fl Go.Maps

theorem below_drawn {w : World} (n : Nat) : Below w.heap.size w (w.drewN n) := ⟨rfl, rfl, rfl, Nat.le_refl _, fun _ _ => rfl⟩
theorem cut_play (m : Int) (w : World) (hm : w.cell? ⟨1, 0, none⟩ = some (.int .i64 m)) :
    Calls Tryd.prog 45 #[.string t3p1, .string ⟨#[112]⟩] w fun e w' => e = .returned (.tuple #[.string ⟨#[51]⟩, .string ⟨#[45, 49]⟩, .bool true]) ∧ Below w.heap.size w w' := by
  have h := Any.strings_Cut Tryd.layCut t3p1 ⟨#[112]⟩ m w (by decide) hm
  have e : Lib.cut t3p1.data.toList (⟨#[112]⟩ : ByteArray).data.toList = ([51], [45, 49], true) := by decide +kernel
  rw [e] at h
  exact h.mono fun _ w' ⟨he, n, hw⟩ => ⟨he, by rw [hw]; exact below_drawn n⟩
theorem parse_3 (w : World) : Calls Tryd.prog 60 #[.string ⟨#[51]⟩, .int .i64 10, .int .i64 64] w fun e w' => e = .returned (.tuple #[.int .i64 3, .nilIface]) ∧ Below w.heap.size w w' := by
  refine (Any.strconv_ParseInt_10_at64_ok Tryd.layParse ⟨#[51]⟩ (by decide) 3 (by decide +kernel) w).mono fun _ w' ⟨he, hw⟩ => ⟨he, ?_⟩
  rcases hw with rfl | ⟨t, rfl⟩
  · exact Below.refl _ _
  · exact below_bytesWorld w _ t
theorem parse_m1 (w : World) : Calls Tryd.prog 60 #[.string ⟨#[45, 49]⟩, .int .i64 10, .int .i64 32] w fun e w' => e = .returned (.tuple #[.int .i64 (-1), .nilIface]) ∧ Below w.heap.size w w' := by
  refine (Any.strconv_ParseInt_10_at32_ok Tryd.layParse ⟨#[45, 49]⟩ (by decide) (-1) (by decide +kernel) w).mono fun _ w' ⟨he, hw⟩ => ⟨he, ?_⟩
  rcases hw with rfl | ⟨t, rfl⟩
  · exact Below.refl _ _
  · exact below_bytesWorld w _ t
theorem float3 : floatOfInt .f64 3 = 4613937818241073152 := by decide +kernel
theorem conv3 (w : World) : (convert 2 22 (.int .i64 3)).run Tryd.prog w = .ok (.float .f64 4613937818241073152) w := by
  rw [← float3]
  exact run_convert_int_float w 2 22 .i64 .f64 3 (by kernel_rfl) Tryd.underlying22
set_option maxRecDepth 100000 in
theorem read_play (m : Int) (w : World) (hm : w.cell? ⟨1, 0, none⟩ = some (.int .i64 m)) (htab : Lib.TabIs Tryd.prog w "internal/strconv.uint64pow10" .u64 Lib.pow10Tab) :
    Calls Tryd.prog 43 #[.string t3p1] w fun e w' => e = .returned (.tuple #[.float .f64 4609434218613702656, .int .i64 0]) ∧ Below w.heap.size w w' := by
  have o1 : (Ieee.Format.order (FloatKind.format .f64) 4609434218613702656 0 == some .eq) = false := by decide +kernel
  have hconv := fun W => conv3 W
  have hl : t3p1.toList = [51, 112, 45, 49] := by decide +kernel
  go_enter Tryd.func43, Tryd.ntmps43
  go_wp2_with fail
  refine (cut_play m w hm).mono ?_
  rintro e w1 ⟨rfl, hb1⟩
  go_wp2_with fail
  refine (parse_3 w1).mono ?_
  rintro e w2 ⟨rfl, hb2⟩
  go_wp2_with fail
  refine (parse_m1 w2).mono ?_
  rintro e w3 ⟨rfl, hb3⟩
  have hb : Below w.heap.size w w3 := fin3 hb1 hb2 hb3
  go_wp2_with fail
  refine (ldexp_play w3).mono ?_
  rintro e w4 ⟨rfl, rfl⟩
  go_wp2_with fail
  refine (text_play w4 (tab_below htab hb)).mono ?_
  rintro e w5 ⟨rfl, hb5⟩
  go_wp2
  go_ret2
  exact ⟨rfl, hb.trans (hb5.mono hb.size)⟩
def tput : ByteArray := ⟨#[112, 117, 116, 32, 97, 32, 51, 112, 45, 49]⟩
def cplay : Cm := ⟨2, ⟨#[97]⟩, 4609434218613702656⟩
theorem cplay_ok : cplay.ok := ⟨by decide, by decide⟩
theorem cplay_right : cplay.right = true := by decide +kernel
theorem word2 : wordOf 2 = ⟨#[112, 117, 116]⟩ := by decide
set_option maxRecDepth 100000 in
theorem ctext_play (w : World) (htab : Lib.TabIs Tryd.prog w "internal/strconv.uint64pow10" .u64 Lib.pow10Tab) :
    Calls Tryd.prog 26 #[cplay.v] w fun e w' => e = .returned (.string tput) ∧ Below w.heap.size w w' := by
  obtain ⟨w1, hw1, HB1, HAT1, _⟩ := boxed3 cplay w
  have hch := fun W => check_cmd cplay cplay_ok W
  rw [cplay_right] at hch
  have hword := fun W => word_any 2 W
  rw [word2] at hword
  have a0 := HAT1.out.c0
  have a1 := HAT1.out.c1
  have a2 := HAT1.out.c2
  go_enter Tryd.func26, Tryd.ntmps26
  go_wp2_with (rw [← hw1]; clear hw1)
  refine (hch _).mono ?_
  rintro e w2 ⟨rfl, hb2⟩
  have hat2 := HAT1.out.below hb2
  have HAT2 := Lib.hid hat2
  have HB2 := Lib.hid (HB1.out.trans (hb2.mono HB1.out.size))
  have hlt : w.heap.size < w2.heap.size := by have h1 := World.block_lt_of_cell? w2 _ hat2.c0; exact h1
  clear a0 a1 a2 hat2 hb2
  have a0 : w2.cell? ⟨w.heap.size, 0, none⟩ = some (.int .i64 2) := HAT2.out.c0
  have a1 : w2.cell? ⟨w.heap.size, 1, none⟩ = some (.string ⟨#[97]⟩) := HAT2.out.c1
  have K := Lib.hid (fun W (hW : RowKit.Below w2.heap.size w2 W) => (hword W).mono (R' := fun e w' => e = .returned (.string ⟨#[112, 117, 116]⟩) ∧ RowKit.Below w2.heap.size w2 w') (fun _ _ ⟨he, hb⟩ => ⟨he, hW.trans (hb.mono hW.size)⟩))
  have A0 := Lib.hid a0
  have A1 := Lib.hid a1
  have hbn : RowKit.Below w2.heap.size w2 w2.drew := (RowKit.Below.refl _ _).drew
  clear hword
  go_wp2_with fail
  go_region_held3 (fun w' => w'.cell? ⟨w.heap.size, 0, none⟩ = some (.int .i64 2) ∧ w'.cell? ⟨w.heap.size, 1, none⟩ = some (.string ⟨#[97]⟩))
    (first | (exact ⟨(hbn.cell (p := ⟨w.heap.size, 0, none⟩) hlt).trans A0.out, (hbn.cell (p := ⟨w.heap.size, 1, none⟩) hlt).trans A1.out⟩) | go_keep)
    (first | (go_at_call 38; with_reducible refine (K.out _ ?hw).mono ?_; (case hw => assumption); clear hbn; rintro e w9 ⟨rfl, hbn⟩))
  have d0 := (hbn.cell (p := ⟨w.heap.size, 0, none⟩) hlt).trans A0.out
  have d2 := (hbn.cell (p := ⟨w.heap.size, 2, none⟩) hlt).trans HAT2.out.c2
  have ht8 : Lib.TabIs Tryd.prog w9 "internal/strconv.uint64pow10" .u64 Lib.pow10Tab := tab_below htab (HB2.out.trans (hbn.mono HB2.out.size))
  have hbb : RowKit.Below w.heap.size w w9 := HB2.out.trans (hbn.mono HB2.out.size)
  go_wp2_with fail
  refine (text_play _ ht8).mono ?_
  rintro e w5 ⟨rfl, hb5⟩
  go_wp2
  go_ret
  exact ⟨rfl, hbb.trans (hb5.mono hbb.size)⟩
end Go.Proofs.YtghlhficbibcnaaDoor
