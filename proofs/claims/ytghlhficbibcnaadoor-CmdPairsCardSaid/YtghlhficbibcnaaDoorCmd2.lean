/-
  Walks: the reference's Key; cmd.Check, Writes.
-/
import Derived.Test.YtghlhficbibcnaaDoorCmd
namespace Go.Proofs.YtghlhficbibcnaaDoor
open Go Go.RowKit Fl

theorem cell_below {w w1 : World} (h : Below w.heap.size w w1) {a : Addr} {v : Value} (hc : w.cell? a = some v) : w1.cell? a = some v := (h.cell (World.block_lt_of_cell? w a hc)).trans hc
set_option maxRecDepth 100000 in
theorem rkey_any (s : ByteArray) (hs : s.size ≤ maxLen) (w : World) : Calls Tryd.prog 19 #[.string s] w fun e w' => e = .returned (.bool (okKey s)) ∧ w' = w := by
  unfold maxLen at hs
  go_enter Tryd.func19, Tryd.ntmps19
  go_wp2
  go_loopw [3] (fun v3 wr => ∃ k : Nat, k ≤ s.size ∧ v3 = .int .i64 k ∧ okTo s k ∧ wr = w) (fun v3 _ => s.size - (intOf v3).toNat)
  case atStart => exact ⟨0, by omega, rfl, fun j hj => by omega, rfl⟩
  case round =>
    obtain ⟨k, hk, rfl, hok, rfl⟩ := hrel
    have HOK := Lib.hid hok
    clear hok
    by_cases hlt : k < s.size
    · obtain ⟨b, hbe⟩ : ∃ b, b = s.data.toList.getD k 0 := ⟨_, rfl⟩
      have hidx : ∀ W, (Instr.index 9 (.string s) (.int .i64 (k : Int))).run Tryd.prog W = .ok (.int .u8 b.toNat) W := fun W => by
        rw [run_index_string W _ s .i64 _ Tryd.underlying9, dif_pos ⟨by omega, by omega⟩, hbe]
        congr 4
        have hl : s.data.toList.length = s.size := by simp
        rw [List.getD_eq_getElem?_getD, List.getElem?_eq_getElem (by omega)]
        simp
        rfl
      have HBE := Lib.hid hbe
      clear hbe
      have q1 : (k : Int) < (s.size : Int) := by omega
      have q2 : IntKind.i64.wrap ((k : Int) + 1) = (k : Int) + 1 := IntWalk.i64_in _ (by omega)
      have hok : (okB b = true) ∨ okB b = false := by cases okB b <;> simp
      have hcs := ok_cases b.toNat
      have step : okB b = true → okTo s (k + 1) := fun h j hj => by
        rcases Nat.lt_or_ge j k with hj' | hj'
        · exact HOK.out j hj'
        · obtain rfl : j = k := by omega
          rw [← HBE.out]; exact h
      have STEP := Lib.hid step
      clear step
      rcases hcs with ⟨c1, c2⟩ | ⟨⟨c1, c2⟩, c3, c4⟩ | ⟨c1, c2, c3⟩ | ⟨c1, c2, c3⟩ | ⟨c1, c2⟩
      all_goals
        (go_wp2
         first
           | (go_ret
              have hf : okB b = false := by rcases hok with h | h; (have := is_ok h; omega); exact h
              exact ⟨congrArg (fun x => Ending.returned (Value.bool x)) (okTo_not hlt (by rw [← HBE.out]; exact hf)).symm, rfl⟩)
           | (go_roundw
              case rel =>
                have ht : okB b = true := by rcases hok with h | h; exact h; (have := not_ok h; omega)
                exact ⟨k + 1, by omega, by first | rfl | (push_cast; rfl), STEP.out ht, by first | rfl | trivial⟩
              case measure => simp [intOf]; omega))
    · obtain rfl : k = s.size := by omega
      have hfin := okTo_all HOK.out (Nat.le_refl _)
      have HFIN := Lib.hid hfin
      clear hfin
      by_cases h1 : 1 ≤ s.size
      · have h1' : (1 : Int) ≤ (s.size : Int) := by omega
        by_cases h2 : s.size ≤ 12
        · have h2' : (s.size : Int) ≤ 12 := by omega
          go_wp2
          go_ret
          exact ⟨congrArg (fun x => Ending.returned (Value.bool x)) (HFIN.out.trans (decide_eq_true ⟨h1, h2⟩)).symm, rfl⟩
        · have h2' : ¬ (s.size : Int) ≤ 12 := by omega
          go_wp2
          go_ret
          exact ⟨congrArg (fun x => Ending.returned (Value.bool x)) (HFIN.out.trans (decide_eq_false (fun h => h2 h.2))).symm, rfl⟩
      · have h1' : ¬ (1 : Int) ≤ (s.size : Int) := by omega
        go_wp2
        go_ret
        exact ⟨congrArg (fun x => Ending.returned (Value.bool x)) (HFIN.out.trans (decide_eq_false (fun h => h1 h.1))).symm, rfl⟩

/-- A command; as a value; as its cells. -/
structure Cm where
  kind : Int
  key : ByteArray
  val : Nat
def Cm.ok (c : Cm) : Prop := c.key.size ≤ maxLen ∧ c.val < 18446744073709551616
abbrev Cm.v (c : Cm) : Value := .agg #[.int .i64 c.kind, .string c.key, .float .f64 c.val]
abbrev Cm.cells (c : Cm) : Array Value := #[.int .i64 c.kind, .string c.key, .float .f64 c.val]
def Cm.right (c : Cm) : Bool := okKey c.key && decide (c.kind = 2 ∨ c.kind = 4 ∨ ((c.kind = 1 ∨ c.kind = 3) ∧ c.val = 0))
structure Cm.At (c : Cm) (w : World) (g : Nat) : Prop where
  c0 : w.cell? ⟨g, 0, none⟩ = some (.int .i64 c.kind)
  c1 : w.cell? ⟨g, 1, none⟩ = some (.string c.key)
  c2 : w.cell? ⟨g, 2, none⟩ = some (.float .f64 c.val)
theorem Cm.At.below {c : Cm} {w w1 : World} {g : Nat} (h : c.At w g) (hb : Below w.heap.size w w1) : c.At w1 g := ⟨cell_below hb h.c0, cell_below hb h.c1, cell_below hb h.c2⟩
theorem word_empty (k : Int) : (wordOf k = ⟨#[]⟩) ↔ ¬ (1 ≤ k ∧ k ≤ 4) := by
  unfold wordOf
  split
  · constructor
    · intro h; exact absurd h (by decide)
    · intro h; omega
  · split
    · constructor
      · intro h; exact absurd h (by decide)
      · intro h; omega
    · split
      · constructor
        · intro h; exact absurd h (by decide)
        · intro h; omega
      · split
        · constructor
          · intro h; exact absurd h (by decide)
          · intro h; omega
        · exact ⟨fun _ => by omega, fun _ => rfl⟩
theorem word_list {k : Int} (hk : 1 ≤ k ∧ k ≤ 4) : ¬ (wordOf k).toList = [] := by
  have h : k = 1 ∨ k = 2 ∨ k = 3 ∨ k = 4 := by omega
  rcases h with rfl | rfl | rfl | rfl
  · show ¬ (⟨#[103, 101, 116]⟩ : ByteArray).toList = []
    decide +kernel
  · show ¬ (⟨#[112, 117, 116]⟩ : ByteArray).toList = []
    decide +kernel
  · show ¬ (⟨#[100, 101, 108]⟩ : ByteArray).toList = []
    decide +kernel
  · show ¬ (⟨#[97, 100, 100]⟩ : ByteArray).toList = []
    decide +kernel
/-- The boxed argument. -/
theorem boxed (c : Cm) (w : World) : ∃ w1, w1 = w.alloc (.cells c.cells 24) ∧ RowKit.Hid (Below w.heap.size w w1) ∧ RowKit.Hid (c.At w1 w.heap.size) ∧ w1.cell? ⟨w.heap.size, 0, none⟩ = some (.int .i64 c.kind) := by
  refine ⟨_, rfl, Lib.hid ((Below.refl _ _).alloc (Nat.le_refl _) _), Lib.hid ⟨by simp, by simp, by simp⟩, by simp⟩
theorem fin3 {w w1 w2 w3 : World} (h1 : Below w.heap.size w w1) (h2 : Below w1.heap.size w1 w2) (h3 : Below w2.heap.size w2 w3) : Below w.heap.size w w3 := h1.trans ((h2.trans (h3.mono h2.size)).mono h1.size)
set_option maxRecDepth 100000 in
theorem check_none (k : Int) (s : ByteArray) (x : Nat) (w : World) (hk : ¬ (1 ≤ k ∧ k ≤ 4)) : Calls Tryd.prog 21 #[(Cm.mk k s x).v] w fun e w' => e = .returned (.int .i64 12) ∧ Below w.heap.size w w' := by
  obtain ⟨w1, hw1, HB1, HAT1, a0⟩ := boxed ⟨k, s, x⟩ w
  simp only at a0 hw1
  have hword := word_any k w1
  rw [(word_empty _).2 hk] at hword
  have HK := Lib.hid hk
  clear hk
  go_enter Tryd.func21, Tryd.ntmps21
  go_wp2_with fail
  rw [← hw1]
  refine hword.mono ?_
  rintro e w2 ⟨rfl, hb2⟩
  go_wp2
  go_ret
  exact ⟨rfl, HB1.out.trans (hb2.mono HB1.out.size)⟩
set_option maxRecDepth 100000 in
theorem check_badkey (k : Int) (s : ByteArray) (hs : s.size ≤ maxLen) (x : Nat) (w : World) (hk : 1 ≤ k ∧ k ≤ 4) (hok : okKey s = false) : Calls Tryd.prog 21 #[(Cm.mk k s x).v] w fun e w' => e = .returned (.int .i64 12) ∧ Below w.heap.size w w' := by
  obtain ⟨w1, hw1, HB1, HAT1, a0⟩ := boxed ⟨k, s, x⟩ w
  simp only at a0 hw1
  have hword := word_any k w1
  have hne := word_list (k := k) hk
  have hkey := fun W => key_any s hs W
  rw [hok] at hkey
  have hne2 : (wordOf k).toList.isEmpty = false := by simpa using hne
  generalize wordOf k = wd at hne hne2 hword
  have HK := Lib.hid hk
  have HS := Lib.hid hs
  clear hk hok hs
  go_enter Tryd.func21, Tryd.ntmps21
  go_wp2_with fail
  rw [← hw1]
  refine hword.mono ?_
  rintro e w2 ⟨rfl, hb2⟩
  have hat2 := HAT1.out.below hb2
  have b1 := hat2.c1
  go_wp2_with fail
  refine (hkey _).mono ?_
  rintro e w3 ⟨rfl, hb3⟩
  go_wp2
  go_ret
  exact ⟨rfl, fin3 HB1.out hb2 hb3⟩
set_option maxRecDepth 100000 in
theorem check_writes (k : Int) (s : ByteArray) (hs : s.size ≤ maxLen) (x : Nat) (w : World) (hk : 1 ≤ k ∧ k ≤ 4) (e1 : ¬ k = 1) (e3 : ¬ k = 3) (hok : okKey s = true) : Calls Tryd.prog 21 #[(Cm.mk k s x).v] w fun e w' => e = .returned (.int .i64 0) ∧ Below w.heap.size w w' := by
  obtain ⟨w1, hw1, HB1, HAT1, a0⟩ := boxed ⟨k, s, x⟩ w
  simp only at a0 hw1
  have hword := word_any k w1
  have hne := word_list (k := k) hk
  have hkey := fun W => key_any s hs W
  rw [hok] at hkey
  have hne2 : (wordOf k).toList.isEmpty = false := by simpa using hne
  generalize wordOf k = wd at hne hne2 hword
  have HK := Lib.hid hk
  have HS := Lib.hid hs
  clear hk hok hs
  go_enter Tryd.func21, Tryd.ntmps21
  go_wp2_with fail
  rw [← hw1]
  refine hword.mono ?_
  rintro e w2 ⟨rfl, hb2⟩
  have hat2 := HAT1.out.below hb2
  have b1 := hat2.c1
  go_wp2_with fail
  refine (hkey _).mono ?_
  rintro e w3 ⟨rfl, hb3⟩
  have hat3 := hat2.below hb3
  have d0 := hat3.c0
  go_wp2
  go_ret
  exact ⟨rfl, fin3 HB1.out hb2 hb3⟩
set_option maxRecDepth 100000 in
theorem check_get (s : ByteArray) (hs : s.size ≤ maxLen) (x : Nat) (hx : x < 18446744073709551616) (w : World) (hok : okKey s = true) (b : Bool) (hb : decide (x = 0) = b) : Calls Tryd.prog 21 #[(Cm.mk 1 s x).v] w fun e w' => e = .returned (.int .i64 (if b = true then 0 else 12)) ∧ Below w.heap.size w w' := by
  obtain ⟨w1, hw1, HB1, HAT1, a0⟩ := boxed ⟨1, s, x⟩ w
  simp only at a0 hw1
  have hword := word_any 1 w1
  have hne := word_list (k := 1) (by decide)
  have hkey := fun W => key_any s hs W
  rw [hok] at hkey
  have hne2 : (wordOf 1).toList.isEmpty = false := by simpa using hne
  generalize wordOf 1 = wd at hne hne2 hword
  have hplus := fun W => plus_any x hx W
  rw [hb] at hplus
  have HS := Lib.hid hs
  have HX := Lib.hid hx
  clear hok hs hx hb
  rcases b with _ | _
  · go_enter Tryd.func21, Tryd.ntmps21
    go_wp2_with fail
    rw [← hw1]
    refine hword.mono ?_
    rintro e w2 ⟨rfl, hb2⟩
    have hat2 := HAT1.out.below hb2
    have b1 := hat2.c1
    go_wp2_with fail
    refine (hkey _).mono ?_
    rintro e w3 ⟨rfl, hb3⟩
    have hat3 := hat2.below hb3
    have d0 := hat3.c0
    have d2 := hat3.c2
    go_wp2_with fail
    refine (hplus _).mono ?_
    rintro e w4 ⟨rfl, rfl⟩
    go_wp2
    go_ret
    exact ⟨rfl, fin3 HB1.out hb2 hb3⟩
  · go_enter Tryd.func21, Tryd.ntmps21
    go_wp2_with fail
    rw [← hw1]
    refine hword.mono ?_
    rintro e w2 ⟨rfl, hb2⟩
    have hat2 := HAT1.out.below hb2
    have b1 := hat2.c1
    go_wp2_with fail
    refine (hkey _).mono ?_
    rintro e w3 ⟨rfl, hb3⟩
    have hat3 := hat2.below hb3
    have d0 := hat3.c0
    have d2 := hat3.c2
    go_wp2_with fail
    refine (hplus _).mono ?_
    rintro e w4 ⟨rfl, rfl⟩
    go_wp2
    go_ret
    exact ⟨rfl, fin3 HB1.out hb2 hb3⟩
set_option maxRecDepth 100000 in
theorem check_del (s : ByteArray) (hs : s.size ≤ maxLen) (x : Nat) (hx : x < 18446744073709551616) (w : World) (hok : okKey s = true) (b : Bool) (hb : decide (x = 0) = b) : Calls Tryd.prog 21 #[(Cm.mk 3 s x).v] w fun e w' => e = .returned (.int .i64 (if b = true then 0 else 12)) ∧ Below w.heap.size w w' := by
  obtain ⟨w1, hw1, HB1, HAT1, a0⟩ := boxed ⟨3, s, x⟩ w
  simp only at a0 hw1
  have hword := word_any 3 w1
  have hne := word_list (k := 3) (by decide)
  have hkey := fun W => key_any s hs W
  rw [hok] at hkey
  have hne2 : (wordOf 3).toList.isEmpty = false := by simpa using hne
  generalize wordOf 3 = wd at hne hne2 hword
  have hplus := fun W => plus_any x hx W
  rw [hb] at hplus
  have HS := Lib.hid hs
  have HX := Lib.hid hx
  clear hok hs hx hb
  rcases b with _ | _
  · go_enter Tryd.func21, Tryd.ntmps21
    go_wp2_with fail
    rw [← hw1]
    refine hword.mono ?_
    rintro e w2 ⟨rfl, hb2⟩
    have hat2 := HAT1.out.below hb2
    have b1 := hat2.c1
    go_wp2_with fail
    refine (hkey _).mono ?_
    rintro e w3 ⟨rfl, hb3⟩
    have hat3 := hat2.below hb3
    have d0 := hat3.c0
    have d2 := hat3.c2
    go_wp2_with fail
    refine (hplus _).mono ?_
    rintro e w4 ⟨rfl, rfl⟩
    go_wp2
    go_ret
    exact ⟨rfl, fin3 HB1.out hb2 hb3⟩
  · go_enter Tryd.func21, Tryd.ntmps21
    go_wp2_with fail
    rw [← hw1]
    refine hword.mono ?_
    rintro e w2 ⟨rfl, hb2⟩
    have hat2 := HAT1.out.below hb2
    have b1 := hat2.c1
    go_wp2_with fail
    refine (hkey _).mono ?_
    rintro e w3 ⟨rfl, hb3⟩
    have hat3 := hat2.below hb3
    have d0 := hat3.c0
    have d2 := hat3.c2
    go_wp2_with fail
    refine (hplus _).mono ?_
    rintro e w4 ⟨rfl, rfl⟩
    go_wp2
    go_ret
    exact ⟨rfl, fin3 HB1.out hb2 hb3⟩
theorem check_cmd (c : Cm) (hc : c.ok) (w : World) : Calls Tryd.prog 21 #[c.v] w fun e w' => e = .returned (.int .i64 (if c.right = true then 0 else 12)) ∧ Below w.heap.size w w' := by
  obtain ⟨k, s, x⟩ := c
  obtain ⟨hs, hx⟩ := hc
  simp only at hs hx
  by_cases hk : 1 ≤ k ∧ k ≤ 4
  · rcases hok : okKey s with _ | _
    · have hr : (Cm.mk k s x).right = false := by simp [Cm.right, hok]
      rw [hr]
      exact check_badkey k s hs x w hk hok
    · by_cases e1 : k = 1
      · subst e1
        have hr : (Cm.mk 1 s x).right = decide (x = 0) := by simp [Cm.right, hok]
        rw [hr]
        exact check_get s hs x hx w hok _ rfl
      · by_cases e3 : k = 3
        · subst e3
          have hr : (Cm.mk 3 s x).right = decide (x = 0) := by simp [Cm.right, hok]
          rw [hr]
          exact check_del s hs x hx w hok _ rfl
        · have hr : (Cm.mk k s x).right = true := by
            have : k = 2 ∨ k = 4 := by omega
            rcases this with rfl | rfl <;> simp [Cm.right, hok]
          rw [hr]
          exact check_writes k s hs x w hk e1 e3 hok
  · have hr : (Cm.mk k s x).right = false := by
      have h1 : ¬ k = 1 := by omega
      have h2 : ¬ k = 2 := by omega
      have h3 : ¬ k = 3 := by omega
      have h4 : ¬ k = 4 := by omega
      simp [Cm.right, h1, h2, h3, h4]
    rw [hr]
    exact check_none k s x w hk
end Go.Proofs.YtghlhficbibcnaaDoor
