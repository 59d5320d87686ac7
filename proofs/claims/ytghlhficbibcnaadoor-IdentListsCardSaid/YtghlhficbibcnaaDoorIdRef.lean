/-
  Walks: the references' functions on ids (Less, Has, Same, Rising), and ident.Rising.
-/
import Derived.Test.YtghlhficbibcnaaDoorIdFlat
import Derived.Lib.Hide
namespace Go.Proofs.YtghlhficbibcnaaDoor
open Go.RowKit Go.Sort Pl
open Go.Proofs.YtghlhficbibcnaaDoorW.PrintWords

theorem compare_below (a b : Idt) (w : World) : Calls Tryd.prog 29 #[.agg #[.int .i64 a.f0, .int .i64 a.f1], .agg #[.int .i64 b.f0, .int .i64 b.f1]] w fun e w' => e = .returned (.int .i64 (cmp a b)) ∧ Below w.heap.size w w' :=
  (compare_any a b w).mono fun _ _ ⟨he, q, os, hw⟩ => ⟨he, hw ▸ below_grow w q os⟩

set_option maxHeartbeats 1000000 in
theorem rless_any (a b : Idt) (w : World) : Calls Tryd.prog 32 #[.agg #[.int .i64 a.f0, .int .i64 a.f1], .agg #[.int .i64 b.f0, .int .i64 b.f1]] w fun e w' => e = .returned (.bool (lt a b)) ∧ Below w.heap.size w w' := by
  obtain ⟨a0, a1⟩ := a
  obtain ⟨b0, b1⟩ := b
  have HB := Lib.hid (((Below.refl w.heap.size w).alloc (Nat.le_refl _) (.cells #[.int .i64 a0, .int .i64 a1] 30)).alloc (by simp) (.cells #[.int .i64 b0, .int .i64 b1] 30))
  by_cases h : a0 = b0
  · subst h
    have e : lt ⟨a0, a1⟩ ⟨a0, b1⟩ = decide (a1 < b1) := by simp [lt]
    rw [e]; clear e
    go_enter Tryd.func32, Tryd.ntmps32
    go_wp2
    go_ret
    exact ⟨rfl, HB.out⟩
  · have e : lt ⟨a0, a1⟩ ⟨b0, b1⟩ = decide (a0 < b0) := by simp [lt, h]
    rw [e]; clear e
    have h2 : (a0 != b0) = true := bne_iff_ne.2 h
    go_enter Tryd.func32, Tryd.ntmps32
    go_wp2
    go_ret
    exact ⟨rfl, HB.out⟩

attribute [local go_sem high] eqId

structure HasHead (l : List Idt) (x : Idt) (k : Nat) : Prop where
  le : k ≤ l.length
  no : x ∉ l.take k
theorem HasHead.step {l : List Idt} {x : Idt} {k : Nat} (h : HasHead l x k) (hk : k < l.length) (hx : ¬ l.getD k default = x) : HasHead l x (k + 1) :=
  ⟨hk, by rw [take_succ' l k hk, List.mem_append, List.mem_singleton]; rintro (h' | h'); exact h.no h'; exact hx h'.symm⟩
theorem getD_mem {l : List Idt} {k : Nat} (hk : k < l.length) : l.getD k default ∈ l := by
  rw [List.getD_eq_getElem?_getD, List.getElem?_eq_getElem hk]; exact List.getElem_mem hk

theorem eqB {x y : Idt} (h : x = y) : (x.f0 == y.f0 && (x.f1 == y.f1)) = true := by simp [h]
theorem neB {x y : Idt} (h : ¬ x = y) : (x.f0 == y.f0 && (x.f1 == y.f1)) = false := by
  rw [Bool.and_eq_false_iff]
  by_cases e : x.f0 = y.f0
  · exact Or.inr (by simpa using fun k => h (id_ext e k))
  · exact Or.inl (by simpa using e)

set_option maxHeartbeats 1000000 in
set_option maxRecDepth 100000 in
theorem rhas_any (l : List Idt) (x : Idt) (A : Option Addr) (c : Nat) (w : World) (hr : Kd.C PIdentLists.k30 w A l.length l) :
    Calls Tryd.prog 18 #[.slice A l.length c, .agg #[.int .i64 x.f0, .int .i64 x.f1]] w fun e w' => e = .returned (.bool (decide (x ∈ l))) ∧ Below w.heap.size w w' := by
  have hm : l.length ≤ 9223372036854775807 := hr.2.1
  have hB : Below w.heap.size w (w.alloc (.cells #[.int .i64 x.f0, .int .i64 x.f1] 30)) := (Below.refl _ _).alloc (Nat.le_refl _) _
  have HR := Lib.hid (Kd.C_below hr hB)
  have HB := Lib.hid hB
  clear hr hB
  go_enter Tryd.func18, Tryd.ntmps18
  go_wp2
  go_loopw [5] (fun v5 wr => ∃ k n : Nat, v5 = .int .i64 k ∧ HasHead l x k ∧ wr = (w.alloc (.cells #[.int .i64 x.f0, .int .i64 x.f1] 30)).drewN n) (fun v5 _ => l.length - (intOf v5).toNat)
  case atStart => exact ⟨0, 0, by go_num, ⟨by omega, by simp⟩, rfl⟩
  case round =>
    obtain ⟨k, n, rfl, hk, rfl⟩ := hrel
    have hkl := hk.le
    have HK := Lib.hid hk
    clear hk
    by_cases hlt : k < l.length
    · obtain ⟨ad, hA, h0, h1⟩ := C_at HR.out k hlt
      cases hA
      obtain ⟨y, hy⟩ : ∃ y, y = l.getD k default := ⟨_, rfl⟩
      rw [← hy] at h0 h1
      have HY := Lib.hid hy
      clear hy
      by_cases he : y = x
      · have e1 := eqB he
        have HE := Lib.hid he
        clear he
        go_wp2_with fail
        go_quiet (fail)
        go_wp2
        go_ret
        exact ⟨by rw [decide_eq_true (by rw [← HE.out, HY.out]; exact getD_mem hlt)]; rfl, pw_below_drewN (pw_below_drewN HB.out n) nq⟩
      · have e1 := neB he
        have HE := Lib.hid he
        clear he
        go_wp2_with fail
        go_quiet (fail)
        go_wp2
        go_roundw
        case rel => exact ⟨k + 1, n + nq, by go_num, HK.out.step hlt (by rw [← HY.out]; exact HE.out), rfl⟩
        case measure => simp [intOf]; omega
    · go_wp2
      go_ret
      exact ⟨by rw [decide_eq_false (by have := HK.out.no; rwa [List.take_of_length_le (by omega)] at this)]; rfl, pw_below_drewN HB.out n⟩

structure SameHead (l m : List Idt) (k : Nat) : Prop where
  le : k ≤ l.length
  eq : l.take k = m.take k
theorem SameHead.step {l m : List Idt} {k : Nat} (h : SameHead l m k) (hk : k < l.length) (hm : k < m.length) (hx : l.getD k default = m.getD k default) : SameHead l m (k + 1) :=
  ⟨hk, by rw [take_succ' l k hk, take_succ' m k hm, h.eq, hx]⟩

set_option maxHeartbeats 1000000 in
set_option maxRecDepth 100000 in
theorem rsame_any (l m : List Idt) (A B : Option Addr) (c d : Nat) (w : World) (hr : Kd.C PIdentLists.k30 w A l.length l) (hs : Kd.C PIdentLists.k30 w B m.length m) :
    Calls Tryd.prog 13 #[.slice A l.length c, .slice B m.length d] w fun e w' => e = .returned (.bool (decide (l = m))) ∧ ∃ n, w' = w.drewN n := by
  have hm : l.length ≤ 9223372036854775807 := hr.2.1
  have HR := Lib.hid hr
  have HS := Lib.hid hs
  clear hr hs
  by_cases hlm : l.length = m.length
  · have b1 : ((l.length : Int) != (m.length : Int)) = false := by simp [hlm]
    have b2 : (l.length == m.length) = true := by simp [hlm]
    have b3 : (l.length != m.length) = false := by simp [hlm]
    have HL := Lib.hid hlm
    clear hlm
    go_enter Tryd.func13, Tryd.ntmps13
    go_wp2
    go_loopw [5] (fun v5 wr => ∃ k n : Nat, v5 = .int .i64 k ∧ SameHead l m k ∧ wr = w.drewN n) (fun v5 _ => l.length - (intOf v5).toNat)
    case atStart => exact ⟨0, 0, by go_num, ⟨by omega, by simp⟩, rfl⟩
    case round =>
      obtain ⟨k, n, rfl, hk, rfl⟩ := hrel
      have hkl := hk.le
      have HK := Lib.hid hk
      clear hk
      by_cases hlt : k < l.length
      · have hlt2 : k < m.length := by rw [← HL.out]; exact hlt
        obtain ⟨ad, hA, h0, h1⟩ := C_at HR.out k hlt
        cases hA
        obtain ⟨bd, hB, g0, g1⟩ := C_at HS.out k hlt2
        cases hB
        obtain ⟨x, hx⟩ : ∃ y, y = l.getD k default := ⟨_, rfl⟩
        obtain ⟨y, hy⟩ : ∃ y, y = m.getD k default := ⟨_, rfl⟩
        rw [← hx] at h0 h1
        rw [← hy] at g0 g1
        have HX := Lib.hid hx
        have HY := Lib.hid hy
        clear hx hy
        by_cases he : x = y
        · have e1 := eqB he
          have e2 : (!(x.f0 == y.f0 && (x.f1 == y.f1))) = false := by rw [e1]; rfl
          have HE := Lib.hid he
          clear he
          go_wp2_with fail
          go_quiet (fail)
          go_wp2
          go_roundw
          case rel => exact ⟨k + 1, n + nq, by go_num, HK.out.step hlt hlt2 (by rw [← HX.out, ← HY.out]; exact HE.out), rfl⟩
          case measure => simp [intOf]; omega
        · have e1 := neB he
          have HE := Lib.hid he
          clear he
          go_wp2_with fail
          go_quiet (fail)
          go_wp2
          go_ret
          exact ⟨by rw [decide_eq_false (fun h => HE.out (by rw [HX.out, HY.out, h]))]; rfl, n + nq, World.drewN_drewN ..⟩
      · go_wp2
        go_ret
        exact ⟨by rw [decide_eq_true (by have h1 := HK.out.eq; have h2 := HL.out; rwa [List.take_of_length_le (by omega), List.take_of_length_le (by omega)] at h1)]; rfl, _, rfl⟩
  · have b1 : ((l.length : Int) != (m.length : Int)) = true := by simp; omega
    have b2 : (l.length == m.length) = false := by simp [hlm]
    have b3 : (l.length != m.length) = true := by simp [hlm]
    have e : decide (l = m) = false := decide_eq_false (fun h => hlm (by rw [h]))
    rw [e]
    clear e hlm
    go_enter Tryd.func13, Tryd.ntmps13
    go_wp2
    go_ret
    exact ⟨rfl, 0, rfl⟩
end Go.Proofs.YtghlhficbibcnaaDoor
