/-
  Walks: Rising, the program's and the reference's.
-/
import Derived.Test.YtghlhficbibcnaaDoorIdRef
import Derived.IntWalk
namespace Go.Proofs.YtghlhficbibcnaaDoor
open Go.RowKit Go.Sort Pl
open Go.Proofs.YtghlhficbibcnaaDoorW.PrintWords

structure RiseHead (l : List Idt) (k : Nat) : Prop where
  le : k + 1 ≤ l.length ∨ k = 0
  ok : ∀ j, 1 ≤ j → j ≤ k → lt (l.getD (j - 1) default) (l.getD j default) = true
theorem rising_iff (l : List Idt) : Rise l ↔ ∀ j, 1 ≤ j → j < l.length → lt (l.getD (j - 1) default) (l.getD j default) = true := by
  rw [rise_iff_adj]
  constructor
  · intro h j h1 h2
    have := h (j - 1) (by omega)
    rwa [show j - 1 + 1 = j by omega] at this
  · intro h i hi
    simpa using h (i + 1) (by omega) hi
theorem RiseHead.step {l : List Idt} {k : Nat} (h : RiseHead l k) (hk : k + 1 < l.length) (hx : lt (l.getD k default) (l.getD (k + 1) default) = true) : RiseHead l (k + 1) :=
  ⟨Or.inl (by omega), fun j h1 h2 => by
    rcases Nat.eq_or_lt_of_le h2 with rfl | h2
    · simpa using hx
    · exact h.ok j h1 (by omega)⟩
theorem RiseHead.done {l : List Idt} {k : Nat} (h : RiseHead l k) (hk : l.length ≤ k + 1) : decide (Rise l) = true :=
  decide_eq_true ((rising_iff l).2 fun j h1 h2 => h.ok j h1 (by omega))
theorem RiseHead.fails {l : List Idt} {k : Nat} (hk : k + 1 < l.length) (hx : ¬ lt (l.getD k default) (l.getD (k + 1) default) = true) : decide (Rise l) = false :=
  decide_eq_false fun h => hx (by have := (rising_iff l).1 h (k + 1) (by omega) hk; simpa using this)

set_option maxHeartbeats 1000000 in
set_option maxRecDepth 100000 in
theorem rrising_any (l : List Idt) (A : Option Addr) (c : Nat) (w : World) (hr : Kd.C PIdentLists.k30 w A l.length l) :
    Calls Tryd.prog 15 #[.slice A l.length c] w fun e w' => e = .returned (.bool (decide (Rise l))) ∧ Below w.heap.size w w' := by
  have hm : l.length ≤ 9223372036854775807 := hr.2.1
  have HR := Lib.hid hr
  clear hr
  go_enter Tryd.func15, Tryd.ntmps15
  go_wp2
  go_loopw [3] (fun v3 wr => ∃ k : Nat, v3 = .int .i64 (k + 1) ∧ RiseHead l k ∧ Below w.heap.size w wr) (fun v3 _ => l.length - (intOf v3).toNat)
  case atStart => exact ⟨0, by go_num, ⟨Or.inr rfl, fun j h1 h2 => by omega⟩, Below.refl _ _⟩
  case round =>
    obtain ⟨k, rfl, hk, hb⟩ := hrel
    have hkl := hk.le
    have HK := Lib.hid hk
    have HB := Lib.hid hb
    clear hk hb
    by_cases hlt : k + 1 < l.length
    · obtain ⟨ad, hA, h0, h1⟩ := C_at (Kd.C_below HR.out HB.out) (k + 1) hlt
      obtain ⟨bd, hA', g0, g1⟩ := C_at (Kd.C_below HR.out HB.out) k (by omega)
      cases hA
      cases hA'
      obtain ⟨x, hx⟩ : ∃ y, y = l.getD (k + 1) default := ⟨_, rfl⟩
      obtain ⟨y, hy⟩ : ∃ y, y = l.getD k default := ⟨_, rfl⟩
      rw [← hx] at h0 h1
      rw [← hy] at g0 g1
      have HX := Lib.hid hx
      have HY := Lib.hid hy
      clear hx hy hkl
      have q1 : IntKind.i64.wrap ((k : Int) + 1 - 1) = (k : Int) := by rw [IntWalk.i64_in _ (by omega)]; omega
      have q2 : IntKind.i64.wrap (k : Int) = (k : Int) := IntWalk.i64_in _ (by omega)
      have q3 : (0 : Int) ≤ (k : Int) := by omega
      have q4 : (k : Int) < (l.length : Int) := by omega
      have q5 : (0 : Int) ≤ (k : Int) + 1 := by omega
      have q6 : (k : Int) + 1 < (l.length : Int) := by omega
      have q7 : ((k : Int) + 1).toNat = k + 1 := by omega
      have hcon := fun W => rless_any y x W
      by_cases hc : lt y x = true
      · rw [hc] at hcon
        have HC := Lib.hid hc
        clear hc
        have HCON := Lib.hid hcon
        clear hcon
        go_wp2_with fail
        go_region_held3 (fun w' => w'.cell? (ad.add ((k + 1) * 2)) = some (.int .i64 x.f0) ∧ w'.cell? ⟨(ad.add ((k + 1) * 2)).block, (ad.add ((k + 1) * 2)).off + 1, none⟩ = some (.int .i64 x.f1) ∧ w'.cell? (ad.add (k * 2)) = some (.int .i64 y.f0) ∧ w'.cell? ⟨(ad.add (k * 2)).block, (ad.add (k * 2)).off + 1, none⟩ = some (.int .i64 y.f1))
          (first | go_keep | (go_split_ands; refine ⟨?_, ?_, ?_, ?_⟩ <;> (refine pw_cell_below hb9 ?_; assumption)))
          (first | (go_at_call 32; refine (HCON.out _).mono ?_; rintro e w9 ⟨rfl, hb9⟩))
        go_wp2
        go_roundw
        case rel => exact ⟨k + 1, by go_num, HK.out.step hlt (by rw [← HX.out, ← HY.out]; exact HC.out), HB.out.drew.trans (hb9.mono (by have := HB.out.size; simpa using this))⟩
        case measure => simp [intOf]; omega
      · have hc' : lt y x = false := by simpa using hc
        rw [hc'] at hcon
        have HC := Lib.hid hc
        clear hc hc'
        have HCON := Lib.hid hcon
        clear hcon
        go_wp2_with fail
        go_region_held3 (fun w' => w'.cell? (ad.add ((k + 1) * 2)) = some (.int .i64 x.f0) ∧ w'.cell? ⟨(ad.add ((k + 1) * 2)).block, (ad.add ((k + 1) * 2)).off + 1, none⟩ = some (.int .i64 x.f1) ∧ w'.cell? (ad.add (k * 2)) = some (.int .i64 y.f0) ∧ w'.cell? ⟨(ad.add (k * 2)).block, (ad.add (k * 2)).off + 1, none⟩ = some (.int .i64 y.f1))
          (first | go_keep | (go_split_ands; refine ⟨?_, ?_, ?_, ?_⟩ <;> (refine pw_cell_below hb9 ?_; assumption)))
          (first | (go_at_call 32; refine (HCON.out _).mono ?_; rintro e w9 ⟨rfl, hb9⟩))
        go_wp2
        go_ret
        exact ⟨by rw [RiseHead.fails hlt (by rw [← HX.out, ← HY.out]; exact HC.out)]; rfl, HB.out.drew.trans (hb9.mono (by have := HB.out.size; simpa using this))⟩
    · go_wp2
      go_ret
      exact ⟨by rw [HK.out.done (by omega)]; rfl, HB.out⟩

set_option maxHeartbeats 1000000 in
set_option maxRecDepth 100000 in
theorem rising_any (l : List Idt) (A : Option Addr) (c : Nat) (w : World) (hr : Kd.C PIdentLists.k30 w A l.length l) :
    Calls Tryd.prog 14 #[.slice A l.length c] w fun e w' => e = .returned (.bool (decide (Rise l))) ∧ Below w.heap.size w w' := by
  have hm : l.length ≤ 9223372036854775807 := hr.2.1
  have HR := Lib.hid hr
  clear hr
  go_enter Tryd.func14, Tryd.ntmps14
  go_wp2
  go_loopw [3] (fun v3 wr => ∃ k : Nat, v3 = .int .i64 (k + 1) ∧ RiseHead l k ∧ Below w.heap.size w wr) (fun v3 _ => l.length - (intOf v3).toNat)
  case atStart => exact ⟨0, by go_num, ⟨Or.inr rfl, fun j h1 h2 => by omega⟩, Below.refl _ _⟩
  case round =>
    obtain ⟨k, rfl, hk, hb⟩ := hrel
    have hkl := hk.le
    have HK := Lib.hid hk
    have HB := Lib.hid hb
    clear hk hb
    by_cases hlt : k + 1 < l.length
    · obtain ⟨ad, hA, h0, h1⟩ := C_at (Kd.C_below HR.out HB.out) (k + 1) hlt
      obtain ⟨bd, hA', g0, g1⟩ := C_at (Kd.C_below HR.out HB.out) k (by omega)
      cases hA
      cases hA'
      obtain ⟨x, hx⟩ : ∃ y, y = l.getD (k + 1) default := ⟨_, rfl⟩
      obtain ⟨y, hy⟩ : ∃ y, y = l.getD k default := ⟨_, rfl⟩
      rw [← hx] at h0 h1
      rw [← hy] at g0 g1
      have HX := Lib.hid hx
      have HY := Lib.hid hy
      clear hx hy hkl
      have q1 : IntKind.i64.wrap ((k : Int) + 1 - 1) = (k : Int) := by rw [IntWalk.i64_in _ (by omega)]; omega
      have q2 : IntKind.i64.wrap (k : Int) = (k : Int) := IntWalk.i64_in _ (by omega)
      have q3 : (0 : Int) ≤ (k : Int) := by omega
      have q4 : (k : Int) < (l.length : Int) := by omega
      have q5 : (0 : Int) ≤ (k : Int) + 1 := by omega
      have q6 : (k : Int) + 1 < (l.length : Int) := by omega
      have q7 : ((k : Int) + 1).toNat = k + 1 := by omega
      have hcon := fun W => compare_below y x W
      obtain ⟨r, hr⟩ : ∃ r, r = cmp y x := ⟨_, rfl⟩
      rw [← hr] at hcon
      have HCON := Lib.hid hcon
      clear hcon
      by_cases hc : lt y x = true
      · have hr0 : decide (0 ≤ r) = false := by rw [hr]; have := cmp_neg.2 hc; simp; omega
        have HC := Lib.hid hc
        clear hc hr
        go_wp2_with fail
        go_region_held3 (fun w' => w'.cell? (ad.add ((k + 1) * 2)) = some (.int .i64 x.f0) ∧ w'.cell? ⟨(ad.add ((k + 1) * 2)).block, (ad.add ((k + 1) * 2)).off + 1, none⟩ = some (.int .i64 x.f1) ∧ w'.cell? (ad.add (k * 2)) = some (.int .i64 y.f0) ∧ w'.cell? ⟨(ad.add (k * 2)).block, (ad.add (k * 2)).off + 1, none⟩ = some (.int .i64 y.f1))
          (first | go_keep | (go_split_ands; refine ⟨?_, ?_, ?_, ?_⟩ <;> (refine pw_cell_below hb9 ?_; assumption)))
          (first | (go_at_call 29; refine (HCON.out _).mono ?_; rintro e w9 ⟨rfl, hb9⟩))
        go_wp2
        go_roundw
        case rel => exact ⟨k + 1, by go_num, HK.out.step hlt (by rw [← HX.out, ← HY.out]; exact HC.out), HB.out.drew.trans (hb9.mono (by have := HB.out.size; simpa using this))⟩
        case measure => simp [intOf]; omega
      · have hr0 : decide (0 ≤ r) = true := by rw [hr]; have := cmp_nonneg.2 (by simpa using hc : lt y x = false); simp; omega
        have HC := Lib.hid hc
        clear hc hr
        go_wp2_with fail
        go_region_held3 (fun w' => w'.cell? (ad.add ((k + 1) * 2)) = some (.int .i64 x.f0) ∧ w'.cell? ⟨(ad.add ((k + 1) * 2)).block, (ad.add ((k + 1) * 2)).off + 1, none⟩ = some (.int .i64 x.f1) ∧ w'.cell? (ad.add (k * 2)) = some (.int .i64 y.f0) ∧ w'.cell? ⟨(ad.add (k * 2)).block, (ad.add (k * 2)).off + 1, none⟩ = some (.int .i64 y.f1))
          (first | go_keep | (go_split_ands; refine ⟨?_, ?_, ?_, ?_⟩ <;> (refine pw_cell_below hb9 ?_; assumption)))
          (first | (go_at_call 29; refine (HCON.out _).mono ?_; rintro e w9 ⟨rfl, hb9⟩))
        go_wp2
        go_ret
        exact ⟨by rw [RiseHead.fails hlt (by rw [← HX.out, ← HY.out]; exact HC.out)]; rfl, HB.out.drew.trans (hb9.mono (by have := HB.out.size; simpa using this))⟩
    · go_wp2
      go_ret
      exact ⟨by rw [HK.out.done (by omega)]; rfl, HB.out⟩
end Go.Proofs.YtghlhficbibcnaaDoor
