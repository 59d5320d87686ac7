/-
  Plain law: how the words of float64 stand: '==' tells the same word, but for a NaN and the two zeros.
-/
import GoSem.Core.Float
import Derived.Laws.Cover2
namespace Go.Proofs.YtghlhficbibcnaaDoor.Fl
open Go Ieee

abbrev D : Format := FloatKind.f64.format
theorem cmp_eq (a b : Int) : (compare a b = .eq) ↔ a = b := by
  simp only [compare, compareOfLessAndEq]
  split
  · constructor
    · intro h; cases h
    · intro h; omega
  · split <;> simp_all
theorem signed_eq (s t : Bool) (m n : Nat) : (signed s m 0 = signed t n 0) ↔ m = n ∧ (s = t ∨ m = 0) := by
  unfold signed
  cases s <;> cases t <;> simp <;> omega
theorem signed_up (s : Bool) (m k : Nat) : signed s m k = signed s (m * 2 ^ k) 0 := by
  unfold signed
  simp [Nat.shiftLeft_eq]
theorem order_num (s t : Bool) (m n a b : Nat) (L : Int) : Datum.order (.number s m (L + a)) (.number t n (L + b)) = some .eq ↔ m * 2 ^ a = n * 2 ^ b ∧ (s = t ∨ m = 0) := by
  have key : ∀ (s t : Bool) (m n a b : Nat), a ≤ b → ((signed s m ((L + a) - min (L + a) (L + b)).toNat = signed t n ((L + b) - min (L + a) (L + b)).toNat) ↔ m * 2 ^ a = n * 2 ^ b ∧ (s = t ∨ m = 0)) := by
    intro s t m n a b h
    have e1 : ((L + a) - min (L + a) (L + b)).toNat = 0 := by omega
    have e2 : ((L + b) - min (L + a) (L + b)).toNat = b - a := by omega
    rw [e1, e2, signed_up t n (b - a), signed_eq]
    have e3 : n * 2 ^ b = n * 2 ^ (b - a) * 2 ^ a := by rw [Nat.mul_assoc, ← Nat.pow_add, Nat.sub_add_cancel h]
    rw [e3]
    constructor
    · rintro ⟨h1, h2⟩; exact ⟨by rw [h1], h2⟩
    · rintro ⟨h1, h2⟩; exact ⟨Nat.eq_of_mul_eq_mul_right (Nat.two_pow_pos a) h1, h2⟩
  show some (compare (signed s m ((L + a) - min (L + a) (L + b)).toNat) (signed t n ((L + b) - min (L + a) (L + b)).toNat)) = some .eq ↔ _
  rw [Option.some.injEq, cmp_eq]
  rcases Nat.le_total a b with h | h
  · exact key s t m n a b h
  · rw [eq_comm, Int.min_comm, key t s n m b a h]
    constructor
    · rintro ⟨h1, h2⟩
      refine ⟨h1.symm, ?_⟩
      rcases h2 with h2 | h2
      · exact .inl h2.symm
      · right
        rw [h2, Nat.zero_mul] at h1
        exact (Nat.mul_eq_zero.1 h1.symm).resolve_right (Nat.ne_of_gt (Nat.two_pow_pos a))
    · rintro ⟨h1, h2⟩
      refine ⟨h1.symm, ?_⟩
      rcases h2 with h2 | h2
      · exact .inl h2.symm
      · right
        rw [h2, Nat.zero_mul] at h1
        exact (Nat.mul_eq_zero.1 h1.symm).resolve_right (Nat.ne_of_gt (Nat.two_pow_pos b))

/-- The digits and the place of a rung. -/
def mag (r : Nat) : Nat := if r < 4503599627370496 then r else 4503599627370496 + r % 4503599627370496
def up (r : Nat) : Nat := if r < 4503599627370496 then 0 else r / 4503599627370496 - 1
theorem mag_inj {r q : Nat} (h : mag r * 2 ^ up r = mag q * 2 ^ up q) : r = q := by
  have big : ∀ r q : Nat, r < 4503599627370496 → ¬ q < 4503599627370496 → mag r * 2 ^ up r ≠ mag q * 2 ^ up q := by
    intro r q hr hq e
    unfold mag up at e
    rw [if_pos hr, if_pos hr, if_neg hq, if_neg hq] at e
    have : 4503599627370496 + q % 4503599627370496 ≤ (4503599627370496 + q % 4503599627370496) * 2 ^ (q / 4503599627370496 - 1) := Nat.le_mul_of_pos_right _ (Nat.two_pow_pos _)
    omega
  have far : ∀ r q : Nat, ¬ r < 4503599627370496 → ¬ q < 4503599627370496 → up r < up q → mag r * 2 ^ up r ≠ mag q * 2 ^ up q := by
    intro r q hr hq hlt e
    have h1 : mag r < 2 * 4503599627370496 := by unfold mag; rw [if_neg hr]; omega
    have h2 : 4503599627370496 ≤ mag q := by unfold mag; rw [if_neg hq]; omega
    have h3 : mag r * 2 ^ up r < 2 * 4503599627370496 * 2 ^ up r := Nat.mul_lt_mul_of_pos_right h1 (Nat.two_pow_pos _)
    have h4 : 2 * 4503599627370496 * 2 ^ up r = 4503599627370496 * 2 ^ (up r + 1) := by rw [Nat.pow_succ]; omega
    have h5 : 4503599627370496 * 2 ^ (up r + 1) ≤ 4503599627370496 * 2 ^ up q := Nat.mul_le_mul_left _ (Nat.pow_le_pow_right (by decide) hlt)
    have h6 : 4503599627370496 * 2 ^ up q ≤ mag q * 2 ^ up q := Nat.mul_le_mul_right _ h2
    omega
  by_cases hr : r < 4503599627370496 <;> by_cases hq : q < 4503599627370496
  · unfold mag up at h
    rw [if_pos hr, if_pos hr, if_pos hq, if_pos hq] at h
    simpa using h
  · exact absurd h (big r q hr hq)
  · exact absurd h.symm (big q r hq hr)
  · have hu : up r = up q := by
      rcases Nat.lt_trichotomy (up r) (up q) with hl | hl | hl
      · exact absurd h (far r q hr hq hl)
      · exact hl
      · exact absurd h.symm (far q r hq hr hl)
    rw [hu] at h
    have hm := Nat.eq_of_mul_eq_mul_right (Nat.two_pow_pos _) h
    unfold mag at hm
    rw [if_neg hr, if_neg hq] at hm
    unfold up at hu
    rw [if_neg hr, if_neg hq] at hu
    omega

theorem read_eq (x : Nat) (hx : x < 18446744073709551616) :
    D.read x = if x % 9223372036854775808 < 9218868437227405312 then .number (decide (9223372036854775808 ≤ x)) (mag (x % 9223372036854775808)) (D.leastPlace + (up (x % 9223372036854775808) : Nat))
      else if x % 9223372036854775808 = 9218868437227405312 then .infinity (decide (9223372036854775808 ≤ x)) else .nan (decide (9223372036854775808 ≤ x)) (x % 9223372036854775808 - 9218868437227405312) := by
  have e1 : D.signWeight = 9223372036854775808 := by decide
  have e2 : D.binade = 4503599627370496 := by decide
  have e3 : D.infRung = 9218868437227405312 := by decide
  have e4 : (x / 9223372036854775808 % 2 == 1) = decide (9223372036854775808 ≤ x) := by
    by_cases h : 9223372036854775808 ≤ x
    · rw [decide_eq_true h]
      have : x / 9223372036854775808 = 1 := by omega
      rw [this]; rfl
    · rw [decide_eq_false h]
      have : x / 9223372036854775808 = 0 := by omega
      rw [this]; rfl
  unfold Format.read
  simp only [e1, e2, e3, e4, mag, up]
  by_cases h1 : x % 9223372036854775808 < 4503599627370496
  · have h2 : x % 9223372036854775808 < 9218868437227405312 := by omega
    simp [h1, h2]
  · by_cases h2 : x % 9223372036854775808 < 9218868437227405312
    · simp [h1, h2]
    · simp [h1, h2]

/-- Is it none? As the program asks: 'f != f'. -/
def nan (x : Nat) : Bool := D.order x x != some .eq
theorem nan_iff (x : Nat) (hx : x < 18446744073709551616) : nan x = decide (9218868437227405312 < x % 9223372036854775808) := by
  unfold nan Format.order
  rw [read_eq x hx]
  by_cases h1 : x % 9223372036854775808 < 9218868437227405312
  · rw [if_pos h1, (order_num _ _ _ _ _ _ _).2 ⟨rfl, .inl rfl⟩, decide_eq_false (p := 9218868437227405312 < x % 9223372036854775808) (by omega)]
    rfl
  · rw [if_neg h1]
    by_cases h2 : x % 9223372036854775808 = 9218868437227405312
    · rw [if_pos h2, decide_eq_false (p := 9218868437227405312 < x % 9223372036854775808) (by omega)]
      by_cases h3 : 9223372036854775808 ≤ x
      · rw [decide_eq_true h3]; rfl
      · rw [decide_eq_false h3]; rfl
    · rw [if_neg h2, decide_eq_true (p := 9218868437227405312 < x % 9223372036854775808) (by omega)]
      rfl
/-- '==' of two that are none of them NaN. -/
theorem eq_iff (x y : Nat) (hx : x < 18446744073709551616) (hy : y < 18446744073709551616) (nx : nan x = false) (ny : nan y = false) :
    D.order x y = some .eq ↔ x = y ∨ (x % 9223372036854775808 = 0 ∧ y % 9223372036854775808 = 0) := by
  rw [nan_iff x hx] at nx
  rw [nan_iff y hy] at ny
  have nx' := of_decide_eq_false nx
  have ny' := of_decide_eq_false ny
  unfold Format.order
  rw [read_eq x hx, read_eq y hy]
  by_cases h1 : x % 9223372036854775808 < 9218868437227405312 <;> by_cases h2 : y % 9223372036854775808 < 9218868437227405312
  · rw [if_pos h1, if_pos h2, order_num]
    constructor
    · rintro ⟨e, hs⟩
      have er := mag_inj e
      rcases hs with hs | hs
      · left
        have hs' : (9223372036854775808 ≤ x) ↔ (9223372036854775808 ≤ y) := by simpa using hs
        omega
      · right
        have : x % 9223372036854775808 = 0 := by
          unfold mag at hs
          split at hs
          · exact hs
          · omega
        omega
    · rintro (rfl | ⟨e1, e2⟩)
      · exact ⟨rfl, .inl rfl⟩
      · rw [e1, e2]
        exact ⟨rfl, .inr rfl⟩
  · have h3 : y % 9223372036854775808 = 9218868437227405312 := by omega
    rw [if_pos h1, if_neg h2, if_pos h3]
    constructor
    · intro h
      exfalso
      revert h
      by_cases h4 : 9223372036854775808 ≤ y
      · rw [decide_eq_true h4]; simp [Datum.order]
      · rw [decide_eq_false h4]; simp [Datum.order]
    · rintro (rfl | ⟨_, e2⟩) <;> omega
  · have h3 : x % 9223372036854775808 = 9218868437227405312 := by omega
    rw [if_neg h1, if_pos h3, if_pos h2]
    constructor
    · intro h
      exfalso
      revert h
      by_cases h4 : 9223372036854775808 ≤ x
      · rw [decide_eq_true h4]; simp [Datum.order]
      · rw [decide_eq_false h4]; simp [Datum.order]
    · rintro (rfl | ⟨e1, _⟩) <;> omega
  · have h3 : x % 9223372036854775808 = 9218868437227405312 := by omega
    have h4 : y % 9223372036854775808 = 9218868437227405312 := by omega
    rw [if_neg h1, if_pos h3, if_neg h2, if_pos h4]
    by_cases h5 : 9223372036854775808 ≤ x <;> by_cases h6 : 9223372036854775808 ≤ y
    · rw [decide_eq_true h5, decide_eq_true h6]
      exact ⟨fun _ => .inl (by omega), fun _ => rfl⟩
    · rw [decide_eq_true h5, decide_eq_false h6]
      refine ⟨fun h => absurd h (by decide), fun h => by omega⟩
    · rw [decide_eq_false h5, decide_eq_true h6]
      refine ⟨fun h => absurd h (by decide), fun h => by omega⟩
    · rw [decide_eq_false h5, decide_eq_false h6]
      exact ⟨fun _ => .inl (by omega), fun _ => rfl⟩
/-- The one NaN of any, else the number itself. -/
def canon (x : Nat) : Nat := if nan x = true then 9221120237041090561 else x
theorem canon_lt {x : Nat} (hx : x < 18446744073709551616) : canon x < 18446744073709551616 := by unfold canon; split <;> omega
theorem canon_eq_zero {x : Nat} (hx : x < 18446744073709551616) : (canon x = 0) ↔ x = 0 := by
  unfold canon
  split
  · rename_i h
    rw [nan_iff x hx] at h
    have := of_decide_eq_true h
    omega
  · exact Iff.rfl
/-- '== 0'. -/
theorem eq_zero (x : Nat) (hx : x < 18446744073709551616) (nx : nan x = false) : D.order x 0 = some .eq ↔ x = 0 ∨ x = 9223372036854775808 := by
  rw [eq_iff x 0 hx (by decide) nx (by decide)]
  omega
theorem canon_same (x y : Nat) (nx : nan x = false) (ny : nan y = true) : canon x ≠ canon y := by
  unfold canon
  rw [if_neg (by rw [nx]; decide), if_pos ny]
  rintro rfl
  exact absurd nx (by decide)
end Go.Proofs.YtghlhficbibcnaaDoor.Fl
