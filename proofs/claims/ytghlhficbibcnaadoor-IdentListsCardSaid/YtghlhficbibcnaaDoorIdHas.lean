/-
  Walks: slices.IndexFunc and slices.ContainsFunc at ids, under any predicate that leaves old memory alone; ident.Has.
-/
import Derived.Test.YtghlhficbibcnaaDoorIdFlat
import Derived.Lib.Hide
namespace Go.Proofs.YtghlhficbibcnaaDoor
open Go.RowKit Go.Sort Pl
open Go.Proofs.YtghlhficbibcnaaDoorW.PrintWords

/-- The first place at which p holds; -1: none. -/
def idxP (p : Idt → Bool) (l : List Idt) : Int := match l.findIdx? p with | some i => i | none => -1
theorem idxP_any (p : Idt → Bool) (l : List Idt) : decide (0 ≤ idxP p l) = l.any p := by
  unfold idxP
  cases h : l.findIdx? p with
  | none =>
    rw [List.findIdx?_eq_none_iff] at h
    simp only [show ¬ (0 : Int) ≤ -1 by omega, decide_false]
    symm
    rw [List.any_eq_false]
    intro x hx
    simp [h x hx]
  | some i =>
    have hi : (0 : Int) ≤ (i : Int) := Int.natCast_nonneg _
    simp only [hi, decide_true]
    symm
    rw [List.any_eq_true]
    obtain ⟨hl, hp, _⟩ := List.findIdx?_eq_some_iff_getElem.1 h
    exact ⟨l[i], List.getElem_mem hl, hp⟩

/-- The predicate's contract: whatever the world, so long as all that lay in w lies unturned. -/
def PredOk (g : Nat) (lb : Array Value) (p : Idt → Bool) (w : World) : Prop :=
  ∀ (W : World) (x : Idt), Below w.heap.size w W → Calls Tryd.prog g (#[.agg #[.int .i64 x.f0, .int .i64 x.f1]] ++ lb) W fun e w' => e = .returned (.bool (p x)) ∧ Below w.heap.size w w'

structure IdxHead (p : Idt → Bool) (l : List Idt) (k : Nat) : Prop where
  le : k ≤ l.length
  no : ∀ x ∈ l.take k, p x = false
theorem IdxHead.done {p : Idt → Bool} {l : List Idt} {k : Nat} (h : IdxHead p l k) (hk : l.length ≤ k) : idxP p l = -1 := by
  unfold idxP
  have : l.findIdx? p = none := by
    rw [List.findIdx?_eq_none_iff]
    intro x hx
    have := h.no x (by rwa [List.take_of_length_le hk])
    simp [this]
  rw [this]
theorem IdxHead.hit {p : Idt → Bool} {l : List Idt} {k : Nat} (h : IdxHead p l k) (hk : k < l.length) (hp : p (l.getD k default) = true) : idxP p l = k := by
  unfold idxP
  have : l.findIdx? p = some k := by
    rw [List.findIdx?_eq_some_iff_getElem]
    refine ⟨hk, by rwa [List.getD_eq_getElem?_getD, List.getElem?_eq_getElem hk] at hp, fun j hj => ?_⟩
    have := h.no l[j] (List.mem_iff_getElem.2 ⟨j, by rw [List.length_take]; omega, by simp⟩)
    simp [this]
  rw [this]
theorem IdxHead.miss {p : Idt → Bool} {l : List Idt} {k : Nat} (h : IdxHead p l k) (hk : k < l.length) (hp : p (l.getD k default) = false) : IdxHead p l (k + 1) := by
  refine ⟨hk, fun x hx => ?_⟩
  rw [take_succ' l k hk] at hx
  rcases List.mem_append.1 hx with hx | hx
  · exact h.no x hx
  · obtain rfl := List.mem_singleton.1 hx
    exact hp

set_option maxHeartbeats 1000000 in
set_option maxRecDepth 100000 in
theorem indexFunc_any (p : Idt → Bool) (g : Nat) (lb : Array Value) (l : List Idt) (A : Option Addr) (c : Nat) (w : World) (hr : Kd.C PIdentLists.k30 w A l.length l)
    (eg : ∀ args w, (callFunc g args).run Tryd.prog w = .ok (.enter g args) w) (hp : PredOk g lb p w) :
    Calls Tryd.prog 53 #[.slice A l.length c, .func (.func g) #[] lb] w fun e w' => e = .returned (.int .i64 (idxP p l)) ∧ Below w.heap.size w w' := by
  have hm : l.length ≤ 9223372036854775807 := hr.2.1
  have HR := Lib.hid hr
  have HP := Lib.hid hp
  clear hr hp
  go_enter Tryd.func53, Tryd.ntmps53
  go_wp2
  go_loopw [8] (fun v8 wr => ∃ k : Nat, v8 = .int .i64 k ∧ IdxHead p l k ∧ Below w.heap.size w wr) (fun v8 _ => l.length - (intOf v8).toNat)
  case atStart => exact ⟨0, by go_num, ⟨by omega, by simp⟩, Below.refl _ _⟩
  case round =>
    obtain ⟨k, rfl, hk, hb⟩ := hrel
    have HK := Lib.hid hk
    have HB := Lib.hid hb
    have hkl := hk.le
    clear hk hb
    by_cases hlt : k < l.length
    · obtain ⟨ad, hA, h0, h1⟩ := PIdentLists.at_T30 HR.out (k : Int) (by omega) (by omega)
      cases hA
      rw [Int.toNat_natCast] at h0 h1
      have h0' := pw_cell_below HB.out h0
      have h1' := pw_cell_below HB.out h1
      clear h0 h1
      have hx : PIdentLists.rd_T30 l k = l.getD k default := by unfold PIdentLists.rd_T30; rw [Int.toNat_natCast]; rfl
      rw [hx] at h0' h1'
      obtain ⟨x, hxx⟩ : ∃ x, x = l.getD k default := ⟨_, rfl⟩
      rw [← hxx] at h0' h1'
      have HX := Lib.hid hxx
      clear hx hxx
      go_wp2_with fail
      have hcall := HP.out _ x HB.out
      by_cases hpx : p x = true
      · rw [hpx] at hcall
        have HPX := Lib.hid hpx
        clear hpx
        refine hcall.mono ?_
        rintro e w2 ⟨rfl, hb2⟩
        have HB2 := Lib.hid hb2
        clear hb2
        go_wp2_with fail
        go_ret
        exact ⟨by rw [HK.out.hit hlt (by rw [← HX.out]; exact HPX.out)]; rfl, HB2.out⟩
      · have hpx' : p x = false := by simpa using hpx
        rw [hpx'] at hcall
        have HPX := Lib.hid hpx'
        clear hpx hpx'
        refine hcall.mono ?_
        rintro e w2 ⟨rfl, hb2⟩
        have HB2 := Lib.hid hb2
        clear hb2
        go_wp2_with fail
        go_roundw
        case rel => exact ⟨k + 1, by go_num, HK.out.miss hlt (by rw [← HX.out]; exact HPX.out), HB2.out⟩
        case measure => simp [intOf]; omega
    · go_wp2
      go_ret
      exact ⟨by rw [HK.out.done (by omega)]; rfl, HB.out⟩

set_option maxHeartbeats 1000000 in
theorem containsFunc_any (p : Idt → Bool) (g : Nat) (lb : Array Value) (l : List Idt) (A : Option Addr) (c : Nat) (w : World) (hr : Kd.C PIdentLists.k30 w A l.length l)
    (eg : ∀ args w, (callFunc g args).run Tryd.prog w = .ok (.enter g args) w) (hp : PredOk g lb p w) :
    Calls Tryd.prog 34 #[.slice A l.length c, .func (.func g) #[] lb] w fun e w' => e = .returned (.bool (l.any p)) ∧ Below w.heap.size w w' := by
  rw [← idxP_any]
  have hcon := indexFunc_any p g lb l A c w hr eg hp
  obtain ⟨r, hr⟩ : ∃ r, r = idxP p l := ⟨_, rfl⟩
  rw [← hr] at hcon ⊢
  clear hr hp
  go_enter Tryd.func34, Tryd.ntmps34
  go_wp2_with fail
  refine hcon.mono ?_
  rintro e w2 ⟨rfl, hb2⟩
  have HB2 := Lib.hid hb2
  clear hb2
  go_wp2_with fail
  go_ret
  exact ⟨rfl, HB2.out⟩

attribute [local go_sem high] eqId
set_option maxHeartbeats 1000000 in
/-- The predicate 'x == id', id in a box of the caller's. -/
theorem hasPred (y : Idt) (B : Nat) (w : World) (hB : B < w.heap.size) (h0 : w.cell? ⟨B, 0, none⟩ = some (.int .i64 y.f0)) (h1 : w.cell? ⟨B, 1, none⟩ = some (.int .i64 y.f1)) :
    PredOk 35 #[.pointer (some ⟨B, 0, none⟩)] (fun x => decide (x = y)) w := by
  intro W x hb
  have c0 := pw_cell_below hb h0
  have c1 := pw_cell_below hb h1
  have hBW : B < W.heap.size := Nat.lt_of_lt_of_le hB hb.size
  have hne : B ≠ W.heap.size := by omega
  have he : decide (x = y) = (x.f0 == y.f0 && (x.f1 == y.f1)) := by
    rw [Bool.eq_iff_iff]
    simp only [decide_eq_true_eq, Bool.and_eq_true, beq_iff_eq]
    exact ⟨fun h => by rw [h]; exact ⟨rfl, rfl⟩, fun h => id_ext h.1 h.2⟩
  simp only [he]
  clear he h0 h1 hB
  have HB := Lib.hid hb
  clear hb
  show Calls Tryd.prog 35 #[.agg #[.int .i64 x.f0, .int .i64 x.f1], .pointer (some ⟨B, 0, none⟩)] W _
  go_enter Tryd.func35, Tryd.ntmps35
  go_wp2
  all_goals go_ret
  all_goals exact ⟨by simp, HB.out.alloc HB.out.size _⟩

set_option maxHeartbeats 1000000 in
theorem has_any (l : List Idt) (y : Idt) (A : Option Addr) (c : Nat) (w : World) (hr : Kd.C PIdentLists.k30 w A l.length l) :
    Calls Tryd.prog 17 #[.slice A l.length c, .agg #[.int .i64 y.f0, .int .i64 y.f1]] w fun e w' => e = .returned (.bool (decide (y ∈ l))) ∧ Below w.heap.size w w' := by
  have hB : Below w.heap.size w (w.alloc (.cells #[.int .i64 y.f0, .int .i64 y.f1] 30)) := (Below.refl _ _).alloc (Nat.le_refl _) _
  have hcon := containsFunc_any (fun x => decide (x = y)) 35 #[.pointer (some ⟨w.heap.size, 0, none⟩)] l A c (w.alloc (.cells #[.int .i64 y.f0, .int .i64 y.f1] 30)) (Kd.C_below hr hB)
    (enters_of Tryd.func35 (by kernel_rfl) rfl) (hasPred y w.heap.size _ (by simp) (by simp) (by simp))
  have e : l.any (fun x => decide (x = y)) = decide (y ∈ l) := by
    rw [Bool.eq_iff_iff]
    simp
  rw [e] at hcon
  clear e hr
  obtain ⟨r, hr⟩ : ∃ r, r = decide (y ∈ l) := ⟨_, rfl⟩
  rw [← hr] at hcon ⊢
  clear hr
  have HB := Lib.hid hB
  clear hB
  go_enter Tryd.func17, Tryd.ntmps17
  go_wp2_with fail
  refine hcon.mono ?_
  rintro e w2 ⟨rfl, hb2⟩
  have HB2 := Lib.hid hb2
  clear hb2
  go_wp2_with fail
  go_ret
  exact ⟨rfl, HB.out.trans (HB2.out.mono (by simp))⟩
end Go.Proofs.YtghlhficbibcnaaDoor
