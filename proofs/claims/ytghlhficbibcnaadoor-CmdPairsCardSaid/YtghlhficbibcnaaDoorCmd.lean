/-
  Walks: cmd.word, cmd.key; the reference's Key.
-/
import Derived.Test.YtghlhficbibcnaaDoorReal2
import Derived.Lib.ConvBytes
import Derived.Below
import Derived.OwnWalk
import Derived.Deep.RegionHeld3
namespace Go.Proofs.YtghlhficbibcnaaDoor
open Go Go.RowKit Fl

/-- A kind's word. -/
def wordOf (k : Int) : ByteArray := if k = 1 then ⟨#[103, 101, 116]⟩ else if k = 2 then ⟨#[112, 117, 116]⟩ else if k = 3 then ⟨#[100, 101, 108]⟩ else if k = 4 then ⟨#[97, 100, 100]⟩ else ⟨#[]⟩
set_option maxRecDepth 100000 in
theorem word_any (k : Int) (w : World) : Calls Tryd.prog 38 #[.int .i64 k] w fun e w' => e = .returned (.string (wordOf k)) ∧ Below w.heap.size w w' := by
  by_cases h0 : k < 0
  · have e : wordOf k = ⟨#[]⟩ := by unfold wordOf; rw [if_neg (by omega), if_neg (by omega), if_neg (by omega), if_neg (by omega)]
    rw [e]
    go_enter Tryd.func38, Tryd.ntmps38
    go_wp2
    go_ret
    exact ⟨rfl, (Below.refl _ _).alloc (Nat.le_refl _) _⟩
  · by_cases h5 : 5 ≤ k
    · have e : wordOf k = ⟨#[]⟩ := by unfold wordOf; rw [if_neg (by omega), if_neg (by omega), if_neg (by omega), if_neg (by omega)]
      rw [e]
      go_enter Tryd.func38, Tryd.ntmps38
      go_wp2
      go_ret
      exact ⟨rfl, (Below.refl _ _).alloc (Nat.le_refl _) _⟩
    · have hk : k = 0 ∨ k = 1 ∨ k = 2 ∨ k = 3 ∨ k = 4 := by omega
      rcases hk with rfl | rfl | rfl | rfl | rfl
      all_goals
        (go_enter Tryd.func38, Tryd.ntmps38
         go_wp2
         go_ret
         exact ⟨rfl, (Below.refl _ _).alloc (Nat.le_refl _) _⟩)
/-- May a byte be a key's? -/
def okB (b : UInt8) : Bool := decide (97 ≤ b.toNat ∧ b.toNat ≤ 122 ∨ 48 ≤ b.toNat ∧ b.toNat ≤ 57)
def okKey (s : ByteArray) : Bool := s.data.toList.all okB && decide (1 ≤ s.size ∧ s.size ≤ 12)
def okTo (s : ByteArray) (k : Nat) : Prop := ∀ j, j < k → okB (s.data.toList.getD j 0) = true
theorem okTo_all {s : ByteArray} {k : Nat} (h : okTo s k) (hk : s.size ≤ k) : okKey s = decide (1 ≤ s.size ∧ s.size ≤ 12) := by
  have : s.data.toList.all okB = true := by
    rw [List.all_eq_true]
    intro b hb
    obtain ⟨j, hj, rfl⟩ := List.getElem_of_mem hb
    have hs : s.data.toList.length = s.size := by simp
    have := h j (by omega)
    rwa [List.getD_eq_getElem?_getD, List.getElem?_eq_getElem hj] at this
  unfold okKey
  rw [this]
  rfl
theorem okTo_not {s : ByteArray} {k : Nat} (hk : k < s.size) (h : okB (s.data.toList.getD k 0) = false) : okKey s = false := by
  have hs : s.data.toList.length = s.size := by simp
  have : s.data.toList.all okB = false := by
    rw [List.all_eq_false]
    refine ⟨s.data.toList.getD k 0, ?_, by rw [h]; decide⟩
    rw [List.getD_eq_getElem?_getD, List.getElem?_eq_getElem (by omega)]
    exact List.getElem_mem _
  unfold okKey
  rw [this]
  rfl
theorem below_bytesWorld (w : World) (e : TypeId) (s : ByteArray) : Below w.heap.size w (Lib.bytesWorld w e s) :=
  ⟨rfl, rfl, rfl, by rw [Lib.bytesWorld_size]; omega, fun j hj => Lib.bytesWorld_at_old w e s j hj⟩
theorem not_ok {b : UInt8} (h : okB b = false) : ¬ (97 ≤ b.toNat ∧ b.toNat ≤ 122 ∨ 48 ≤ b.toNat ∧ b.toNat ≤ 57) := of_decide_eq_false h
theorem is_ok {b : UInt8} (h : okB b = true) : 97 ≤ b.toNat ∧ b.toNat ≤ 122 ∨ 48 ≤ b.toNat ∧ b.toNat ≤ 57 := of_decide_eq_true h
/-- The four tests of a byte, as the program asks. -/
theorem ok_cases (b : Nat) : (97 ≤ (b : Int) ∧ (b : Int) ≤ 122) ∨ ((97 ≤ (b : Int) ∧ ¬ (b : Int) ≤ 122) ∧ 48 ≤ (b : Int) ∧ ¬ (b : Int) ≤ 57) ∨ (¬ 97 ≤ (b : Int) ∧ 48 ≤ (b : Int) ∧ (b : Int) ≤ 57) ∨ (¬ 97 ≤ (b : Int) ∧ 48 ≤ (b : Int) ∧ ¬ (b : Int) ≤ 57) ∨ (¬ 97 ≤ (b : Int) ∧ ¬ 48 ≤ (b : Int)) := by omega
set_option maxRecDepth 100000 in
theorem key_any (s : ByteArray) (hs : s.size ≤ maxLen) (w : World) : Calls Tryd.prog 39 #[.string s] w fun e w' => e = .returned (.bool (okKey s)) ∧ Below w.heap.size w w' := by
  unfold maxLen at hs
  have hc := Lib.run_convert_string_bytes (P := Tryd.prog) w 9 76 5 s Tryd.underlying9 Tryd.underlying76 Tryd.underlying5
  have hcell := fun j hj => Lib.bytesWorld_cell w 5 s j hj
  have hb := below_bytesWorld w 5 s
  generalize Lib.bytesWorld w 5 s = w1 at hc hcell hb
  generalize grownCap w s.size 0 5 = cp at hc
  have HB := Lib.hid hb
  have HCELL := Lib.hid hcell
  clear hb hcell
  go_enter Tryd.func39, Tryd.ntmps39
  go_wp2
  go_loopw [4, 8] (fun _ v8 wr => ∃ k : Nat, k ≤ s.size ∧ v8 = .int .i64 k ∧ okTo s k ∧ wr = w1) (fun _ v8 _ => s.size - (intOf v8).toNat)
  case atStart => exact ⟨0, by omega, rfl, fun j hj => by omega, rfl⟩
  case round =>
    obtain ⟨k, hk, rfl, hok, rfl⟩ := hrel
    have HOK := Lib.hid hok
    clear hok
    by_cases hlt : k < s.size
    · have hat := HCELL.out k hlt
      obtain ⟨b, hbe⟩ : ∃ b, b = s.data.toList.getD k 0 := ⟨_, rfl⟩
      rw [← hbe] at hat
      have HBE := Lib.hid hbe
      clear hbe
      have q1 : (k : Int) < (s.size : Int) := by omega
      have q2 : IntKind.i64.wrap ((k : Int) + 1) = (k : Int) + 1 := IntWalk.i64_in _ (by omega)
      have q3 : (0 : Int) ≤ (k : Int) := by omega
      have q4 : ((k : Int)).toNat = k := by omega
      have hok : (okB b = true) ∨ okB b = false := by cases okB b <;> simp
      have hcs := ok_cases b.toNat
      have step : okB b = true → okTo s (k + 1) := fun h j hj => by
        rcases Nat.lt_or_ge j k with hj' | hj'
        · exact HOK.out j hj'
        · obtain rfl : j = k := by omega
          rw [← HBE.out]; exact h
      have STEP := Lib.hid step
      clear step
      rcases hcs with ⟨c1, c2⟩ | ⟨⟨c1, c2⟩, c3, c4⟩ | ⟨c1, c2, c3⟩ | ⟨c1, c2, c3⟩ | ⟨c1, c2⟩
      all_goals
        (go_wp2
         first
           | (go_ret
              have hf : okB b = false := by rcases hok with h | h; (have := is_ok h; omega); exact h
              exact ⟨congrArg (fun x => Ending.returned (Value.bool x)) (okTo_not hlt (by rw [← HBE.out]; exact hf)).symm, HB.out⟩)
           | (go_roundw
              case rel =>
                have ht : okB b = true := by rcases hok with h | h; exact h; (have := not_ok h; omega)
                exact ⟨k + 1, by omega, by first | rfl | (push_cast; rfl), STEP.out ht, by first | rfl | trivial⟩
              case measure => simp [intOf]; omega))
    · obtain rfl : k = s.size := by omega
      have hfin := okTo_all HOK.out (Nat.le_refl _)
      have HFIN := Lib.hid hfin
      clear hfin
      by_cases h1 : 1 ≤ s.size
      · have h1' : (1 : Int) ≤ (s.size : Int) := by omega
        by_cases h2 : s.size ≤ 12
        · have h2' : (s.size : Int) ≤ 12 := by omega
          go_wp2
          go_ret
          exact ⟨congrArg (fun x => Ending.returned (Value.bool x)) (HFIN.out.trans (decide_eq_true ⟨h1, h2⟩)).symm, HB.out⟩
        · have h2' : ¬ (s.size : Int) ≤ 12 := by omega
          go_wp2
          go_ret
          exact ⟨congrArg (fun x => Ending.returned (Value.bool x)) (HFIN.out.trans (decide_eq_false (fun h => h2 h.2))).symm, HB.out⟩
      · have h1' : ¬ (1 : Int) ≤ (s.size : Int) := by omega
        go_wp2
        go_ret
        exact ⟨congrArg (fun x => Ending.returned (Value.bool x)) (HFIN.out.trans (decide_eq_false (fun h => h1 h.1))).symm, HB.out⟩
end Go.Proofs.YtghlhficbibcnaaDoor
