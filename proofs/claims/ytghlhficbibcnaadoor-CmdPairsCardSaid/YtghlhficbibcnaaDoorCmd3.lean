/-
  Walks: cmd.Writes, Conflict, Same; the reference's Right, Conflict, Same.
-/
import Derived.Test.YtghlhficbibcnaaDoorCmd2
namespace Go.Proofs.YtghlhficbibcnaaDoor
open Go Go.RowKit Fl

def Cm.writes (c : Cm) : Bool := c.right && !decide (c.kind = 1)
def meets (a b : Cm) : Bool := decide (a.key.toList = b.key.toList) && (!decide (a.kind = 1) || !decide (b.kind = 1))
def alike (a b : Cm) : Bool := decide (a.kind = b.kind) && decide (a.key.toList = b.key.toList) && decide (canon a.val = canon b.val)
theorem boxed3 (c : Cm) (w : World) : ∃ w1, w1 = w.alloc (.cells c.cells 24) ∧ RowKit.Hid (Below w.heap.size w w1) ∧ RowKit.Hid (c.At w1 w.heap.size) ∧ RowKit.Hid (w1.heap.size = w.heap.size + 1) := by
  refine ⟨_, rfl, Lib.hid ((Below.refl _ _).alloc (Nat.le_refl _) _), Lib.hid ⟨by simp, by simp, by simp⟩, Lib.hid (by simp)⟩
set_option maxRecDepth 100000 in
theorem writes_any (c : Cm) (hc : c.ok) (w : World) : Calls Tryd.prog 22 #[c.v] w fun e w' => e = .returned (.bool c.writes) ∧ Below w.heap.size w w' := by
  obtain ⟨w1, hw1, HB1, HAT1, _⟩ := boxed3 c w
  have hch := fun W => check_cmd c hc W
  have a0 := HAT1.out.c0
  have a1 := HAT1.out.c1
  have a2 := HAT1.out.c2
  unfold Cm.writes
  clear hc
  rcases hr : c.right with _ | _
  · rw [hr] at hch
    go_enter Tryd.func22, Tryd.ntmps22
    go_wp2_with fail
    rw [← hw1]
    clear hw1
    go_wp2_with fail
    refine (hch _).mono ?_
    rintro e w2 ⟨rfl, hb2⟩
    go_wp2
    go_ret
    exact ⟨rfl, HB1.out.trans (hb2.mono HB1.out.size)⟩
  · rw [hr] at hch
    go_enter Tryd.func22, Tryd.ntmps22
    go_wp2_with fail
    rw [← hw1]
    clear hw1
    go_wp2_with fail
    refine (hch _).mono ?_
    rintro e w2 ⟨rfl, hb2⟩
    have d0 := (HAT1.out.below hb2).c0
    go_wp2
    go_ret
    refine ⟨?_, HB1.out.trans (hb2.mono HB1.out.size)⟩
    by_cases h : c.kind = 1 <;> simp [h]
theorem right_split (k : Int) (x : Nat) (hx : x < 18446744073709551616) : decide (k = 2 ∨ k = 4 ∨ ((k = 1 ∨ k = 3) ∧ x = 0)) = (decide (k = 2 ∨ k = 4) || (decide (k = 1 ∨ k = 3) && decide (kindF x = 4))) := by
  have h4 := kindF_four hx
  rw [Bool.eq_iff_iff]
  simp only [decide_eq_true_eq, Bool.and_eq_true, Bool.or_eq_true, h4]
  omega
set_option maxRecDepth 100000 in
theorem right_badkey (k : Int) (s : ByteArray) (x : Nat) (hs : s.size ≤ maxLen) (hr : okKey s = false) (w : World) : Calls Tryd.prog 5 #[(Cm.mk k s x).v] w fun e w' => e = .returned (.bool false) ∧ Below w.heap.size w w' := by
  obtain ⟨w1, hw1, HB1, HAT1, _⟩ := boxed3 ⟨k, s, x⟩ w
  have hk := fun W => rkey_any s hs W
  have a1 := HAT1.out.c1
  have HS := Lib.hid hs
  clear hs
  rw [hr] at hk
  go_enter Tryd.func5, Tryd.ntmps5
  go_wp2_with fail
  rw [← hw1]
  clear hw1
  go_wp2_with fail
  refine (hk _).mono ?_
  rintro e w2 ⟨rfl, rfl⟩
  go_wp2
  go_ret
  exact ⟨rfl, HB1.out⟩
set_option maxRecDepth 100000 in
theorem right_24 (k : Int) (s : ByteArray) (x : Nat) (hs : s.size ≤ maxLen) (hr : okKey s = true) (h24 : k = 2 ∨ k = 4) (w : World) : Calls Tryd.prog 5 #[(Cm.mk k s x).v] w fun e w' => e = .returned (.bool true) ∧ Below w.heap.size w w' := by
  rcases h24 with rfl | rfl
  · obtain ⟨w1, hw1, HB1, HAT1, _⟩ := boxed3 ⟨2, s, x⟩ w
    have hk := fun W => rkey_any s hs W
    have a0 := HAT1.out.c0
    have a1 := HAT1.out.c1
    have HS := Lib.hid hs
    clear hs
    rw [hr] at hk
    go_enter Tryd.func5, Tryd.ntmps5
    go_wp2_with fail
    rw [← hw1]
    clear hw1
    go_wp2_with fail
    refine (hk _).mono ?_
    rintro e w2 ⟨rfl, rfl⟩
    go_wp2
    go_ret
    exact ⟨rfl, HB1.out⟩
  · obtain ⟨w1, hw1, HB1, HAT1, _⟩ := boxed3 ⟨4, s, x⟩ w
    have hk := fun W => rkey_any s hs W
    have a0 := HAT1.out.c0
    have a1 := HAT1.out.c1
    have HS := Lib.hid hs
    clear hs
    rw [hr] at hk
    go_enter Tryd.func5, Tryd.ntmps5
    go_wp2_with fail
    rw [← hw1]
    clear hw1
    go_wp2_with fail
    refine (hk _).mono ?_
    rintro e w2 ⟨rfl, rfl⟩
    go_wp2
    go_ret
    exact ⟨rfl, HB1.out⟩
set_option maxRecDepth 100000 in
theorem right_13 (k : Int) (s : ByteArray) (x : Nat) (hs : s.size ≤ maxLen) (hx : x < 18446744073709551616) (hr : okKey s = true) (h13 : k = 1 ∨ k = 3) (w : World) : Calls Tryd.prog 5 #[(Cm.mk k s x).v] w fun e w' => e = .returned (.bool (decide (kindF x = 4))) ∧ Below w.heap.size w w' := by
  have hkind := fun W => kindF_any x hx W
  generalize kindF x = kf at hkind ⊢
  have HX := Lib.hid hx
  clear hx
  rcases h13 with rfl | rfl
  · obtain ⟨w1, hw1, HB1, HAT1, _⟩ := boxed3 ⟨1, s, x⟩ w
    have hk := fun W => rkey_any s hs W
    have a0 := HAT1.out.c0
    have a1 := HAT1.out.c1
    have a2 := HAT1.out.c2
    have HS := Lib.hid hs
    clear hs
    rw [hr] at hk
    go_enter Tryd.func5, Tryd.ntmps5
    go_wp2_with fail
    rw [← hw1]
    clear hw1
    go_wp2_with fail
    refine (hk _).mono ?_
    rintro e w2 ⟨rfl, rfl⟩
    go_wp2_with fail
    refine (hkind _).mono ?_
    rintro e w2 ⟨rfl, rfl⟩
    go_wp2
    go_ret
    refine ⟨?_, HB1.out⟩
    by_cases h : kf = 4 <;> simp [h]
  · obtain ⟨w1, hw1, HB1, HAT1, _⟩ := boxed3 ⟨3, s, x⟩ w
    have hk := fun W => rkey_any s hs W
    have a0 := HAT1.out.c0
    have a1 := HAT1.out.c1
    have a2 := HAT1.out.c2
    have HS := Lib.hid hs
    clear hs
    rw [hr] at hk
    go_enter Tryd.func5, Tryd.ntmps5
    go_wp2_with fail
    rw [← hw1]
    clear hw1
    go_wp2_with fail
    refine (hk _).mono ?_
    rintro e w2 ⟨rfl, rfl⟩
    go_wp2_with fail
    refine (hkind _).mono ?_
    rintro e w2 ⟨rfl, rfl⟩
    go_wp2
    go_ret
    refine ⟨?_, HB1.out⟩
    by_cases h : kf = 4 <;> simp [h]
set_option maxRecDepth 100000 in
theorem right_not (k : Int) (s : ByteArray) (x : Nat) (hs : s.size ≤ maxLen) (hr : okKey s = true) (h24 : ¬ (k = 2 ∨ k = 4)) (h13 : ¬ (k = 1 ∨ k = 3)) (w : World) : Calls Tryd.prog 5 #[(Cm.mk k s x).v] w fun e w' => e = .returned (.bool false) ∧ Below w.heap.size w w' := by
  obtain ⟨w1, hw1, HB1, HAT1, _⟩ := boxed3 ⟨k, s, x⟩ w
  have hk := fun W => rkey_any s hs W
  have a0 := HAT1.out.c0
  have a1 := HAT1.out.c1
  have HS := Lib.hid hs
  have h1 : ¬ k = 1 := fun h => h13 (.inl h)
  have h3 : ¬ k = 3 := fun h => h13 (.inr h)
  have h2 : ¬ k = 2 := fun h => h24 (.inl h)
  have h4 : ¬ k = 4 := fun h => h24 (.inr h)
  have g1 : (k == 1) = false := by simpa using h1
  have g2 : (k == 2) = false := by simpa using h2
  have g3 : (k == 3) = false := by simpa using h3
  have g4 : (k == 4) = false := by simpa using h4
  clear hs h24 h13
  rw [hr] at hk
  go_enter Tryd.func5, Tryd.ntmps5
  go_wp2_with fail
  rw [← hw1]
  clear hw1
  go_wp2_with fail
  refine (hk _).mono ?_
  rintro e w2 ⟨rfl, rfl⟩
  go_wp2
  go_ret
  exact ⟨by simp_all, HB1.out⟩
theorem right_any (c : Cm) (hc : c.ok) (w : World) : Calls Tryd.prog 5 #[c.v] w fun e w' => e = .returned (.bool c.right) ∧ Below w.heap.size w w' := by
  obtain ⟨k, s, x⟩ := c
  obtain ⟨hs, hx⟩ := hc
  simp only at hs hx
  have e : (Cm.mk k s x).right = (okKey s && (decide (k = 2 ∨ k = 4) || (decide (k = 1 ∨ k = 3) && decide (kindF x = 4)))) := by
    rw [← right_split k x hx]; rfl
  rw [e]
  rcases hr : okKey s with _ | _
  · exact right_badkey k s x hs hr w
  · by_cases h24 : k = 2 ∨ k = 4
    · rw [decide_eq_true h24]
      exact right_24 k s x hs hr h24 w
    · rw [decide_eq_false h24]
      by_cases h13 : k = 1 ∨ k = 3
      · rw [decide_eq_true h13]
        simpa using right_13 k s x hs hx hr h13 w
      · rw [decide_eq_false h13]
        exact right_not k s x hs hr h24 h13 w
/-- Two boxed arguments. -/
theorem boxed2 (a b : Cm) (w : World) : ∃ w1, w1 = (w.alloc (.cells a.cells 24)).alloc (.cells b.cells 24) ∧ RowKit.Hid (Below w.heap.size w w1) ∧ RowKit.Hid (a.At w1 w.heap.size) ∧ RowKit.Hid (b.At w1 (w.heap.size + 1)) := by
  refine ⟨_, rfl, Lib.hid (((Below.refl _ _).alloc (Nat.le_refl _) _).alloc (by simp) _), Lib.hid ⟨by simp, by simp, by simp⟩, Lib.hid ⟨by simp, by simp, by simp⟩⟩
set_option maxRecDepth 100000 in
theorem rconflict_any (a b : Cm) (w : World) : Calls Tryd.prog 6 #[a.v, b.v] w fun e w' => e = .returned (.bool (meets a b)) ∧ Below w.heap.size w w' := by
  have hb : Below w.heap.size w ((w.alloc (.cells a.cells 24)).alloc (.cells b.cells 24)) := ((Below.refl _ _).alloc (Nat.le_refl _) _).alloc (by simp) _
  have HB := Lib.hid hb
  clear hb
  obtain ⟨k, s, x⟩ := a
  obtain ⟨l, t, y⟩ := b
  go_enter Tryd.func6, Tryd.ntmps6
  go_wp2
  all_goals
    (go_ret
     refine ⟨?_, by first | exact HB.out | simp_all [RowKit.Hid]⟩
     unfold meets
     first
       | (simp_all; done)
       | (simp_all; by_cases hl : l = 1 <;> simp [hl]; done))
set_option maxRecDepth 100000 in
theorem same_cmd (a b : Cm) (w : World) : Calls Tryd.prog 8 #[a.v, b.v] w fun e w' => e = .returned (.bool (alike a b)) ∧ Below w.heap.size w w' := by
  obtain ⟨w1, hw1, HB1, HA1, HC1⟩ := boxed2 a b w
  have hs := fun W => same_any a.val b.val W
  have a0 := HA1.out.c0
  have a1 := HA1.out.c1
  have a2 := HA1.out.c2
  have b0 := HC1.out.c0
  have b1 := HC1.out.c1
  have b2 := HC1.out.c2
  unfold alike
  generalize decide (canon a.val = canon b.val) = cs at hs ⊢
  by_cases hk : a.kind = b.kind
  · by_cases hy : a.key.toList = b.key.toList
    · have q1 : (a.kind == b.kind) = true := by simpa using hk
      have q2 : (a.key.toList == b.key.toList) = true := by simpa using hy
      rw [decide_eq_true hk, decide_eq_true hy]
      have HK := Lib.hid hk
      clear hk
      go_enter Tryd.func8, Tryd.ntmps8
      go_wp2_with (rw [← hw1]; clear hw1)
      refine (hs _).mono ?_
      rintro e w2 ⟨rfl, rfl⟩
      go_wp2
      go_ret
      exact ⟨by simp, HB1.out⟩
    · have q1 : (a.kind == b.kind) = true := by simpa using hk
      have q2 : (a.key.toList == b.key.toList) = false := by simpa using hy
      rw [decide_eq_true hk, decide_eq_false hy]
      have HK := Lib.hid hk
      clear hk
      go_enter Tryd.func8, Tryd.ntmps8
      go_wp2_with (rw [← hw1]; clear hw1)
      go_ret
      exact ⟨by simp_all, HB1.out⟩
  · have q1 : (a.kind == b.kind) = false := by simpa using hk
    rw [decide_eq_false hk]
    go_enter Tryd.func8, Tryd.ntmps8
    go_wp2_with (rw [← hw1]; clear hw1)
    go_ret
    exact ⟨by simp_all, HB1.out⟩
set_option maxRecDepth 100000 in
theorem rsame_cmd (a b : Cm) (ha : a.val < 18446744073709551616) (hb : b.val < 18446744073709551616) (w : World) : Calls Tryd.prog 9 #[a.v, b.v] w fun e w' => e = .returned (.bool (alike a b)) ∧ Below w.heap.size w w' := by
  obtain ⟨w1, hw1, HB1, HA1, HC1⟩ := boxed2 a b w
  have hs := fun W => rsameF_any a.val b.val ha hb W
  have a0 := HA1.out.c0
  have a1 := HA1.out.c1
  have a2 := HA1.out.c2
  have b0 := HC1.out.c0
  have b1 := HC1.out.c1
  have b2 := HC1.out.c2
  unfold alike
  generalize decide (canon a.val = canon b.val) = cs at hs ⊢
  by_cases hk : a.kind = b.kind
  · by_cases hy : a.key.toList = b.key.toList
    · have q1 : (a.kind == b.kind) = true := by simpa using hk
      have q2 : (a.key.toList == b.key.toList) = true := by simpa using hy
      rw [decide_eq_true hk, decide_eq_true hy]
      have HK := Lib.hid hk
      clear hk
      go_enter Tryd.func9, Tryd.ntmps9
      go_wp2_with (rw [← hw1]; clear hw1)
      refine (hs _).mono ?_
      rintro e w2 ⟨rfl, rfl⟩
      go_wp2
      go_ret
      exact ⟨by simp, HB1.out⟩
    · have q1 : (a.kind == b.kind) = true := by simpa using hk
      have q2 : (a.key.toList == b.key.toList) = false := by simpa using hy
      rw [decide_eq_true hk, decide_eq_false hy]
      have HK := Lib.hid hk
      clear hk
      go_enter Tryd.func9, Tryd.ntmps9
      go_wp2_with (rw [← hw1]; clear hw1)
      go_ret
      exact ⟨by simp_all, HB1.out⟩
  · have q1 : (a.kind == b.kind) = false := by simpa using hk
    rw [decide_eq_false hk]
    go_enter Tryd.func9, Tryd.ntmps9
    go_wp2_with (rw [← hw1]; clear hw1)
    go_ret
    exact ⟨by simp_all, HB1.out⟩
/-- cmd.Conflict. -/
def clash (a b : Cm) : Bool := a.right && b.right && (decide (a.key.toList = b.key.toList) && (a.writes || b.writes))
set_option maxRecDepth 100000 in
theorem conflict_any (a b : Cm) (ha : a.ok) (hb : b.ok) (w : World) : Calls Tryd.prog 7 #[a.v, b.v] w fun e w' => e = .returned (.bool (clash a b)) ∧ Below w.heap.size w w' := by
  obtain ⟨w1, hw1, HB1, HA1, HC1⟩ := boxed2 a b w
  have ca := fun W => check_cmd a ha W
  have cb := fun W => check_cmd b hb W
  have wa := fun W => writes_any a ha W
  have wb := fun W => writes_any b hb W
  have a0 := HA1.out.c0
  have a1 := HA1.out.c1
  have a2 := HA1.out.c2
  have HO := Lib.hid (And.intro ha hb)
  clear ha hb
  unfold clash
  generalize a.writes = fa at wa ⊢
  generalize b.writes = fb at wb ⊢
  rcases hra : a.right with _ | _
  · rw [hra] at ca
    go_enter Tryd.func7, Tryd.ntmps7
    go_wp2_with (rw [← hw1]; clear hw1)
    refine (ca _).mono ?_
    rintro e w2 ⟨rfl, hb2⟩
    go_wp2
    go_ret
    exact ⟨by simp, HB1.out.trans (hb2.mono HB1.out.size)⟩
  · rw [hra] at ca
    rcases hrb : b.right with _ | _
    · rw [hrb] at cb
      go_enter Tryd.func7, Tryd.ntmps7
      go_wp2_with (rw [← hw1]; clear hw1)
      refine (ca _).mono ?_
      rintro e w2 ⟨rfl, hb2⟩
      have hc2 := HC1.out.below hb2
      have b0 := hc2.c0
      have b1 := hc2.c1
      have b2 := hc2.c2
      go_wp2_with fail
      refine (cb _).mono ?_
      rintro e w3 ⟨rfl, hb3⟩
      go_wp2
      go_ret
      exact ⟨by simp, HB1.out.trans ((hb2.trans (hb3.mono hb2.size)).mono HB1.out.size)⟩
    · rw [hrb] at cb
      go_enter Tryd.func7, Tryd.ntmps7
      go_wp2_with (rw [← hw1]; clear hw1)
      refine (ca _).mono ?_
      rintro e w2 ⟨rfl, hb2⟩
      have hc2 := HC1.out.below hb2
      have b0 := hc2.c0
      have b1 := hc2.c1
      have b2 := hc2.c2
      go_wp2_with fail
      refine (cb _).mono ?_
      rintro e w3 ⟨rfl, hb3⟩
      have hb13 : Below w1.heap.size w1 w3 := hb2.trans (hb3.mono hb2.size)
      have HA3 := Lib.hid (HA1.out.below hb13)
      have HC3 := Lib.hid (HC1.out.below hb13)
      have HB3 := Lib.hid (HB1.out.trans (hb13.mono HB1.out.size))
      clear a0 a1 a2 b0 b1 b2 hc2 hb2 hb3 hb13
      have a0 := HA3.out.c0
      have a1 := HA3.out.c1
      have a2 := HA3.out.c2
      have b0 := HC3.out.c0
      have b1 := HC3.out.c1
      have b2 := HC3.out.c2
      by_cases hy : a.key.toList = b.key.toList
      · have q2 : (a.key.toList == b.key.toList) = true := by simpa using hy
        rcases fa with _ | _
        · go_wp2_with fail
          refine (wa _).mono ?_
          rintro e w4 ⟨rfl, hb4⟩
          have hc4 := HC3.out.below hb4
          clear b0 b1 b2
          have b0 := hc4.c0
          have b1 := hc4.c1
          have b2 := hc4.c2
          go_wp2_with fail
          refine (wb _).mono ?_
          rintro e w5 ⟨rfl, hb5⟩
          go_wp2
          go_ret
          exact ⟨by simp_all, HB3.out.trans ((hb4.trans (hb5.mono hb4.size)).mono HB3.out.size)⟩
        · go_wp2_with fail
          refine (wa _).mono ?_
          rintro e w4 ⟨rfl, hb4⟩
          go_wp2
          go_ret
          exact ⟨by simp_all, HB3.out.trans (hb4.mono HB3.out.size)⟩
      · have q2 : (a.key.toList == b.key.toList) = false := by simpa using hy
        go_wp2
        go_ret
        exact ⟨by simp_all, HB3.out⟩
theorem clash_eq (a b : Cm) : clash a b = (a.right && b.right && meets a b) := by
  unfold clash meets Cm.writes
  rcases a.right <;> rcases b.right <;> simp
theorem clash_comm (a b : Cm) : clash b a = clash a b := by
  unfold clash
  rw [Bool.and_comm b.right, Bool.or_comm b.writes]
  congr 2
  by_cases h : a.key.toList = b.key.toList
  · simp [h]
  · simp [h, Ne.symm h]
end Go.Proofs.YtghlhficbibcnaaDoor
