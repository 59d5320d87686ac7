/-
  Walks: the reference's Put and Sorted: in new memory.
-/
import Derived.Test.YtghlhficbibcnaaDoorIdRef
namespace Go.Proofs.YtghlhficbibcnaaDoor
open Go.RowKit Go.Sort Pl
open Go.Proofs.YtghlhficbibcnaaDoorW.PrintWords

def PutPost (l : List Idt) (x : Idt) (base : Nat) (w : World) (e : Ending) (w' : World) : Prop :=
  ∃ v, e = .returned v ∧ w'.ownsRow base 30 2 v (put l x).length (fl (put l x)) ∧ Below w.heap.size w w'

/-- The loop's head: k are gone over. -/
structure PutHead (l : List Idt) (x : Idt) (base : Nat) (w1 : World) (k : Nat) (v : Value) (b : Bool) (wr : World) : Prop where
  le : k ≤ l.length
  dn : (pto x (l.take k)).2 = b
  own : wr.ownsRow base 30 2 v (pto x (l.take k)).1.length (fl (pto x (l.take k)).1)
  new : v.ownBlock = none ∨ ∃ g, v.ownBlock = some g ∧ w1.heap.size ≤ g
  bel : Below w1.heap.size w1 wr

theorem ownsRow_below {w w1 : World} {base n : Nat} {v : Value} {xs : List Value} (h : w.ownsRow base 30 2 v n xs) (hb : Below w.heap.size w w1) : w1.ownsRow base 30 2 v n xs := pw_own_below h hb
theorem new_after {W : World} {n : Nat} {v v1 : Value} (h : v.ownBlock = none ∨ ∃ g, v.ownBlock = some g ∧ n ≤ g) (hn : n ≤ W.heap.size) (hat : v1.ownBlock = v.ownBlock ∨ ∃ b, v1.ownBlock = some b ∧ W.heap.size ≤ b) :
    v1.ownBlock = none ∨ ∃ g, v1.ownBlock = some g ∧ n ≤ g := by
  rcases hat with e | ⟨b, e, hb⟩
  · rw [e]; exact h
  · exact Or.inr ⟨b, e, by omega⟩
theorem below_after {w1 W w9 : World} {v : Value} (hb : Below w1.heap.size w1 W) (h : v.ownBlock = none ∨ ∃ g, v.ownBlock = some g ∧ w1.heap.size ≤ g) (hg : W.grownBy w9 v.ownBlock) : Below w1.heap.size w1 w9 :=
  hb.grown hg hb.size (fun k hk => by
    rcases h with e | ⟨g, e, hg⟩
    · rw [e] at hk; cases hk
    · rw [e] at hk; cases hk; exact hg)
theorem PutHead.to {l : List Idt} {x : Idt} {base : Nat} {w1 w9 : World} {k : Nat} {v9 : Value} {b9 : Bool} {y : Idt} (hk : k < l.length) (hy : y = l.getD k default) (q : List Idt)
    (hp : pst x (pto x (l.take k)) y = (q, b9)) (ho : w9.ownsRow base 30 2 v9 q.length (fl q)) (hn : v9.ownBlock = none ∨ ∃ g, v9.ownBlock = some g ∧ w1.heap.size ≤ g) (hb : Below w1.heap.size w1 w9) : PutHead l x base w1 (k + 1) v9 b9 w9 := by
  have e : pto x (l.take (k + 1)) = (q, b9) := by rw [take_succ' l k hk, pto_snoc, ← hy]; exact hp
  exact ⟨hk, by rw [e], by rw [e]; exact ho, hn, hb⟩

theorem PutHead.done {l : List Idt} {x : Idt} {base : Nat} {w w1 wr : World} {k : Nat} {v : Value} (h : PutHead l x base w1 k v true wr) (hk : l.length ≤ k) (hp : put l x = ins x l) (hb : Below w.heap.size w w1) (hs : w1.heap.size = w.heap.size + 1) : PutPost l x base w (.returned v) wr := by
  have e := pto_done x l
  have hd := h.dn
  have ho := h.own
  rw [List.take_of_length_le hk] at hd ho
  rw [hd, if_pos rfl] at e
  refine ⟨v, rfl, ?_, hb.trans (h.bel.mono (by omega))⟩
  rw [hp, ← e]
  exact ho
theorem PutHead.done1 {l : List Idt} {x : Idt} {base : Nat} {w w1 wr w9 : World} {k : Nat} {v v9 : Value} (h : PutHead l x base w1 k v false wr) (hk : l.length ≤ k) (hp : put l x = ins x l) (hb : Below w.heap.size w w1) (hs : w1.heap.size = w.heap.size + 1)
    (ho : w9.ownsRow base 30 2 v9 ((pto x (l.take k)).1 ++ [x]).length (fl ((pto x (l.take k)).1 ++ [x]))) (hg : wr.grownBy w9 v.ownBlock) : PutPost l x base w (.returned v9) w9 := by
  have e := pto_done x l
  have hd := h.dn
  rw [List.take_of_length_le hk] at hd ho
  rw [hd, if_neg (by simp)] at e
  refine ⟨v9, rfl, ?_, hb.trans ((below_after h.bel h.new hg).mono (by omega))⟩
  rw [hp, ← e]
  exact ho

set_option maxHeartbeats 2000000 in
set_option maxRecDepth 100000 in
theorem rput_any (l : List Idt) (x : Idt) (u : Value) (base : Nat) (w : World) (hown : w.ownsRow base 30 2 u l.length (fl l)) (hbase : base ≤ w.heap.size) (hlen : (l.length + 1) * 16 ≤ 140737488355328) :
    Calls Tryd.prog 33 #[u, .agg #[.int .i64 x.f0, .int .i64 x.f1]] w (PutPost l x base w) := by
  obtain ⟨A, c, rfl, hc, hr⟩ := C_of_own hown
  obtain ⟨w1, hw1⟩ : ∃ w1, w1 = w.alloc (.cells #[.int .i64 x.f0, .int .i64 x.f1] 30) := ⟨_, rfl⟩
  have hB1 : Below w.heap.size w w1 := by rw [hw1]; exact (Below.refl _ _).alloc (Nat.le_refl _) _
  have hr1 := Kd.C_below hr hB1
  have hs1 : w1.heap.size = w.heap.size + 1 := by rw [hw1]; simp
  have hx0 : w1.cell? ⟨w.heap.size, 0, none⟩ = some (.int .i64 x.f0) := by rw [hw1]; simp
  have hx1 : w1.cell? ⟨w.heap.size, 1, none⟩ = some (.int .i64 x.f1) := by rw [hw1]; simp
  have hown1 := ownsRow_below hown hB1
  have HR := Lib.hid hr1
  have HB1 := Lib.hid hB1
  have HO1 := Lib.hid hown1
  have HS1 := Lib.hid hs1
  have hcon := fun W (hW : Below w1.heap.size w1 W) => rhas_any l x A c W (Kd.C_below hr1 hW)
  by_cases hm : x ∈ l
  · have hp : put l x = l := by unfold put; rw [if_pos hm]
    rw [decide_eq_true hm] at hcon
    have HCON := Lib.hid hcon
    have HP := Lib.hid hp
    clear hown hr hr1 hB1 hs1 hown1 hcon hm hp hlen
    go_enter Tryd.func33, Tryd.ntmps33
    go_wp2_with fail
    rw [← hw1]
    refine (HCON.out w1 (Below.refl _ _)).mono ?_
    rintro e w2 ⟨rfl, hb2⟩
    have HB2 := Lib.hid hb2
    clear hb2 hw1
    go_wp2_with fail
    go_ret
    refine ⟨_, rfl, ?_, HB1.out.trans (HB2.out.mono (by have := HS1.out; omega))⟩
    rw [HP.out]
    exact ownsRow_below HO1.out HB2.out
  · have hp : put l x = ins x l := by unfold put; rw [if_neg hm]
    rw [decide_eq_false hm] at hcon
    have HCON := Lib.hid hcon
    have HP := Lib.hid hp
    clear hown hr hr1 hB1 hs1 hown1 hcon hm hp
    have hm : l.length ≤ 9223372036854775807 := by omega
    have HLEN := Lib.hid hlen
    clear hlen
    go_enter Tryd.func33, Tryd.ntmps33
    go_wp2_with fail
    rw [← hw1]
    refine (HCON.out w1 (Below.refl _ _)).mono ?_
    rintro e w2 ⟨rfl, hb2⟩
    have HB2 := Lib.hid hb2
    have HX0 := Lib.hid hx0
    have HX1 := Lib.hid hx1
    have HSB := Lib.hid (show w.heap.size ≤ w2.heap.size by have := hb2.size; have := HS1.out; omega)
    clear hb2 hw1 hx0 hx1
    go_wp2_with fail
    go_loopw [5, 6, 7] (fun v5 v6 v7 wr => ∃ (k : Nat) (b : Bool), v7 = .int .i64 k ∧ v6 = .bool b ∧ PutHead l x base w1 k v5 b wr) (fun _ _ v7 _ => l.length - (intOf v7).toNat)
    case atStart =>
      refine ⟨0, false, by go_num, rfl, by omega, rfl, ?_, Or.inr ⟨_, rfl, HB2.out.size⟩, HB2.out.alloc HB2.out.size _⟩
      exact World.ownsRow_lit w2 #[] 0 (by have := HSB.out; omega) (by unfold maxLen; omega) (by simp)
    case round =>
      obtain ⟨k, b, rfl, rfl, hh⟩ := hrel
      have hkl := hh.le
      have h0 := pw_cell_below hh.bel HX0.out
      have h1 := pw_cell_below hh.bel HX1.out
      have HH := Lib.hid hh
      have HBS := Lib.hid (show base ≤ wr.heap.size by have := hh.bel.size; have := HS1.out; omega)
      have HAL := Lib.hid (show (pto x (l.take k)).1.length ≤ k + 1 ∧ (b = false → (pto x (l.take k)).1.length = k) by
        have h1 := pto_length x (l.take k)
        rw [hh.dn, List.length_take, Nat.min_eq_left hkl] at h1
        exact h1)
      clear hh
      by_cases hlt : k < l.length
      · obtain ⟨ad, hA, g0, g1⟩ := C_at (Kd.C_below HR.out HH.out.bel) k hlt
        cases hA
        obtain ⟨y, hy⟩ : ∃ y, y = l.getD k default := ⟨_, rfl⟩
        rw [← hy] at g0 g1
        have HY := Lib.hid hy
        clear hy
        cases b with
        | true =>
          go_wp2_with fail
          go_quiet (fail)
          go_wp2_with (first | ((with_reducible refine gate_builtin (b := .append) (xs := #[.tmp 33, .tmp 38]) rfl ?_); at_builtin; refine app_id base rfl (.tmp 33) (.tmp 38) rfl u5 (pto x (l.take k)).1 y rfl rfl ?aO ?aS ?aL ?_; (case aO => exact HH.out.own); (case aS => exact HBS.out); (case aL => have := HAL.out; have := HLEN.out; omega); intro v9 w9 ho9 hg9 hat9; have HO9 := Lib.hid ho9; have HG9 := Lib.hid hg9; have HAT9 := Lib.hid hat9; clear ho9 hg9 hat9))
          go_wp2
          go_roundw
          case rel => exact ⟨k + 1, true, by go_num, rfl, PutHead.to hlt HY.out _ (by unfold pst; rw [HH.out.dn]; rfl) HO9.out (new_after HH.out.new HH.out.bel.size (by simpa using HAT9.out)) (below_after (pw_below_drewN HH.out.bel nq) HH.out.new (by simpa using HG9.out))⟩
          case measure => simp [intOf]; omega
        | false =>
          have HAL2 := Lib.hid ((HAL.out).2 rfl)
          clear HAL
          have q3 : (0 : Int) ≤ (k : Int) := by omega
          have q4 : (k : Int) < (l.length : Int) := by omega
          have hl := fun W => rless_any x y W
          by_cases hc : lt x y = true
          · rw [hc] at hl
            have HL := Lib.hid hl
            have HC := Lib.hid hc
            clear hl hc
            go_wp2_with fail
            go_region_held3 (fun w' => w'.cell? ⟨w.heap.size, 0, none⟩ = some (.int .i64 x.f0) ∧ w'.cell? ⟨w.heap.size, 1, none⟩ = some (.int .i64 x.f1) ∧ w'.cell? (ad.add (k * 2)) = some (.int .i64 y.f0) ∧ w'.cell? ⟨(ad.add (k * 2)).block, (ad.add (k * 2)).off + 1, none⟩ = some (.int .i64 y.f1))
              (first | go_keep | (go_split_ands; refine ⟨?_, ?_, ?_, ?_⟩ <;> (refine pw_cell_below hb9 ?_; assumption)))
              (first | (go_at_call 32; refine (HL.out _).mono ?_; rintro e w3 ⟨rfl, hb9⟩))
            have HB9 := Lib.hid (show Below w1.heap.size w1 w3 from HH.out.bel.drew.trans (hb9.mono (by have := HH.out.bel.size; simpa using this)))
            have HW9 := Lib.hid (show w3.heap.size ≥ wr.heap.size from by have := hb9.size; simpa using this)
            have HO3 := Lib.hid (show w3.ownsRow base 30 2 u5 (pto x (l.take k)).1.length (fl (pto x (l.take k)).1) from ownsRow_below (w := wr.drew) HH.out.own hb9)
            have k0 := pw_cell_below hb9 (show wr.drew.cell? ⟨w.heap.size, 0, none⟩ = some (.int .i64 x.f0) from h0)
            have k1 := pw_cell_below hb9 (show wr.drew.cell? ⟨w.heap.size, 1, none⟩ = some (.int .i64 x.f1) from h1)
            have k2 := pw_cell_below hb9 (show wr.drew.cell? (ad.add (k * 2)) = some (.int .i64 y.f0) from g0)
            have k3 := pw_cell_below hb9 (show wr.drew.cell? ⟨(ad.add (k * 2)).block, (ad.add (k * 2)).off + 1, none⟩ = some (.int .i64 y.f1) from g1)
            clear h0 h1 g0 g1 hb9
            go_wp2_with (first | ((with_reducible refine gate_builtin (b := .append) (xs := #[.tmp 29, .tmp 31]) rfl ?_); at_builtin; refine app_id base rfl (.tmp 29) (.tmp 31) rfl u5 (pto x (l.take k)).1 x rfl rfl ?aO8 ?aS8 ?aL8 ?_; (case aO8 => exact HO3.out); (case aS8 => exact (by have := HW9.out; have := HBS.out; omega)); (case aL8 => have := HAL2.out; have := HLEN.out; omega); intro v8 w8 ho8 hg8 hat8; have HO8 := Lib.hid ho8; have HG8 := Lib.hid hg8; have HAT8 := Lib.hid hat8; clear ho8 hg8 hat8; have HNEW8 := Lib.hid (new_after HH.out.new (show w1.heap.size ≤ w3.heap.size from HB9.out.size) HAT8.out); have HB8 := Lib.hid (below_after HB9.out HH.out.new HG8.out); clear k0 k1 k2 k3; have HC8 := Lib.hid (Kd.C_below HR.out HB8.out); obtain ⟨ad8, hA8, k2, k3⟩ := C_at HC8.out k hlt; rw [← HY.out] at k2 k3; cases hA8) | ((with_reducible refine gate_builtin (b := .append) (xs := #[.tmp 33, .tmp 38]) rfl ?_); at_builtin; refine app_id base rfl (.tmp 33) (.tmp 38) rfl v8 ((pto x (l.take k)).1 ++ [x]) y rfl rfl ?aO9 ?aS9 ?aL9 ?_; (case aO9 => exact HO8.out); (case aS9 => exact (by have := HB8.out.size; have := HS1.out; omega)); (case aL9 => rw [List.length_append, List.length_singleton]; have := HAL2.out; have := HLEN.out; omega); intro v9 w9 ho9 hg9 hat9; have HO9 := Lib.hid ho9; have HG9 := Lib.hid hg9; have HAT9 := Lib.hid hat9; clear ho9 hg9 hat9))
            go_wp2
            go_roundw
            case rel => exact ⟨k + 1, true, by go_num, rfl, PutHead.to hlt HY.out ((pto x (l.take k)).1 ++ [x] ++ [y]) (by unfold pst; rw [HH.out.dn]; simp [HC.out]) HO9.out (new_after HNEW8.out HB8.out.size HAT9.out) (below_after HB8.out HNEW8.out HG9.out)⟩
            case measure => simp [intOf]; omega
          · have hc' : lt x y = false := by simpa using hc
            rw [hc'] at hl
            have HL := Lib.hid hl
            have HC := Lib.hid hc'
            clear hl hc hc'
            go_wp2_with fail
            go_region_held3 (fun w' => w'.cell? ⟨w.heap.size, 0, none⟩ = some (.int .i64 x.f0) ∧ w'.cell? ⟨w.heap.size, 1, none⟩ = some (.int .i64 x.f1) ∧ w'.cell? (ad.add (k * 2)) = some (.int .i64 y.f0) ∧ w'.cell? ⟨(ad.add (k * 2)).block, (ad.add (k * 2)).off + 1, none⟩ = some (.int .i64 y.f1))
              (first | go_keep | (go_split_ands; refine ⟨?_, ?_, ?_, ?_⟩ <;> (refine pw_cell_below hb9 ?_; assumption)))
              (first | (go_at_call 32; refine (HL.out _).mono ?_; rintro e w3 ⟨rfl, hb9⟩))
            have HB9 := Lib.hid (show Below w1.heap.size w1 w3 from HH.out.bel.drew.trans (hb9.mono (by have := HH.out.bel.size; simpa using this)))
            have HW9 := Lib.hid (show w3.heap.size ≥ wr.heap.size from by have := hb9.size; simpa using this)
            have HO3 := Lib.hid (show w3.ownsRow base 30 2 u5 (pto x (l.take k)).1.length (fl (pto x (l.take k)).1) from ownsRow_below (w := wr.drew) HH.out.own hb9)
            have k2 := pw_cell_below hb9 (show wr.drew.cell? (ad.add (k * 2)) = some (.int .i64 y.f0) from g0)
            have k3 := pw_cell_below hb9 (show wr.drew.cell? ⟨(ad.add (k * 2)).block, (ad.add (k * 2)).off + 1, none⟩ = some (.int .i64 y.f1) from g1)
            clear h0 h1 g0 g1 hb9
            go_wp2_with (first | ((with_reducible refine gate_builtin (b := .append) (xs := #[.tmp 33, .tmp 38]) rfl ?_); at_builtin; refine app_id base rfl (.tmp 33) (.tmp 38) rfl u5 (pto x (l.take k)).1 y rfl rfl ?aO9 ?aS9 ?aL9 ?_; (case aO9 => exact HO3.out); (case aS9 => exact (by have := HW9.out; have := HBS.out; omega)); (case aL9 => have := HAL2.out; have := HLEN.out; omega); intro v9 w9 ho9 hg9 hat9; have HO9 := Lib.hid ho9; have HG9 := Lib.hid hg9; have HAT9 := Lib.hid hat9; clear ho9 hg9 hat9))
            go_wp2
            go_roundw
            case rel => exact ⟨k + 1, false, by go_num, rfl, PutHead.to hlt HY.out ((pto x (l.take k)).1 ++ [y]) (by unfold pst; rw [HH.out.dn]; simp [HC.out]) HO9.out (new_after HH.out.new HB9.out.size HAT9.out) (below_after HB9.out HH.out.new HG9.out)⟩
            case measure => simp [intOf]; omega
      · cases b with
        | true =>
          go_wp2_with fail
          go_ret
          exact HH.out.done (by omega) HP.out HB1.out HS1.out
        | false =>
          have HAL2 := Lib.hid ((HAL.out).2 rfl)
          clear HAL
          go_wp2_with (first | ((with_reducible refine gate_builtin (b := .append) (xs := #[.tmp 42, .tmp 44]) rfl ?_); at_builtin; refine app_id base rfl (.tmp 42) (.tmp 44) rfl u5 (pto x (l.take k)).1 x rfl rfl ?aO9 ?aS9 ?aL9 ?_; (case aO9 => exact HH.out.own); (case aS9 => exact HBS.out); (case aL9 => have := HAL2.out; have := HLEN.out; omega); intro v9 w9 ho9 hg9 hat9; have HO9 := Lib.hid ho9; have HG9 := Lib.hid hg9; have HAT9 := Lib.hid hat9; clear ho9 hg9 hat9))
          go_wp2
          go_ret
          exact HH.out.done1 (by omega) HP.out HB1.out HS1.out HO9.out HG9.out

def PutPost' (l : List Idt) (w : World) (e : Ending) (w' : World) : Prop := ∃ v, e = .returned v ∧ w'.ownsRow w.heap.size 30 2 v (sorted l).length (fl (sorted l)) ∧ Below w.heap.size w w'
/-- The loop's head of Sorted. -/
structure SortHead (l : List Idt) (w : World) (k : Nat) (v : Value) (wr : World) : Prop where
  le : k ≤ l.length
  own : wr.ownsRow w.heap.size 30 2 v (sorted (l.take k)).length (fl (sorted (l.take k)))
  bel : Below w.heap.size w wr

set_option maxHeartbeats 1000000 in
set_option maxRecDepth 100000 in
theorem rsorted_any (l : List Idt) (A : Option Addr) (c : Nat) (w : World) (hr : Kd.C PIdentLists.k30 w A l.length l) (hlen : (l.length + 1) * 16 ≤ 140737488355328) :
    Calls Tryd.prog 16 #[.slice A l.length c] w fun e w' => ∃ v, e = .returned v ∧ w'.ownsRow w.heap.size 30 2 v (sorted l).length (fl (sorted l)) ∧ Below w.heap.size w w' := by
  have hm : l.length ≤ 9223372036854775807 := hr.2.1
  have HR := Lib.hid hr
  have HLEN := Lib.hid hlen
  clear hr hlen
  refine Calls.mono (R := PutPost' l w) ?_ (fun e w' h => h)
  go_enter Tryd.func16, Tryd.ntmps16
  go_wp2_with fail
  go_loopw [3, 4] (fun v3 v4 wr => ∃ k : Nat, v4 = .int .i64 k ∧ SortHead l w k v3 wr) (fun _ v4 _ => l.length - (intOf v4).toNat)
  case atStart => exact ⟨0, by go_num, by omega, World.ownsRow_lit w #[] 0 (Nat.le_refl _) (by unfold maxLen; omega) (by simp), (Below.refl _ _).alloc (Nat.le_refl _) _⟩
  case round =>
    obtain ⟨k, rfl, hh⟩ := hrel
    have hkl := hh.le
    have HH := Lib.hid hh
    clear hh
    by_cases hlt : k < l.length
    · obtain ⟨ad, hA, g0, g1⟩ := C_at (Kd.C_below HR.out HH.out.bel) k hlt
      cases hA
      obtain ⟨y, hy⟩ : ∃ y, y = l.getD k default := ⟨_, rfl⟩
      rw [← hy] at g0 g1
      have HY := Lib.hid hy
      clear hy
      have hp := rput_any (sorted (l.take k)) y u3 w.heap.size wr HH.out.own HH.out.bel.size (by
        have h1 := sorted_length (l.take k)
        have h2 := HLEN.out
        rw [List.length_take] at h1
        omega)
      have HPUT := Lib.hid hp
      clear hp
      go_wp2_with fail
      refine HPUT.out.mono ?_
      rintro e w2 ⟨v, rfl, ho2, hb2⟩
      have HO2 := Lib.hid ho2
      have HB2 := Lib.hid hb2
      clear ho2 hb2
      go_wp2_with fail
      go_roundw
      case rel => exact ⟨k + 1, by go_num, hlt, by rw [take_succ' l k hlt, sorted_snoc, ← HY.out]; exact HO2.out, HH.out.bel.trans (HB2.out.mono HH.out.bel.size)⟩
      case measure => simp [intOf]; omega
    · go_wp2_with fail
      go_ret
      exact ⟨_, rfl, by have := HH.out.own; rwa [List.take_of_length_le (by omega)] at this, HH.out.bel⟩
end Go.Proofs.YtghlhficbibcnaaDoor
