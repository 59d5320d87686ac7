/-
  Walk: ident.Sorted.
-/
import Derived.Test.YtghlhficbibcnaaDoorIdSort
import Derived.Lib.Hide
namespace Go.Proofs.YtghlhficbibcnaaDoor
open Go.RowKit Go.Sort Pl
open Go.Proofs.YtghlhficbibcnaaDoorW.PrintWords

section
variable {ops : Array Oper} {rest : List Oper} {o : Oper} {a : Act} {Q : Exit → Act → World → Prop}
/-- append(v, ys...): ids, to a row of one's own, out of any row that is read. -/
theorem app_ids {W : World} (base : Nat) (hgd : o.guard = none) (s x : Operand) (ho : o.op = .call { callee := .builtin .append, args := #[s, x], argTypes := #[28, 28] })
    (v : Value) (l ys : List Idt) (A : Option Addr) (c : Nat) (hs : a.eval s = v) (hx : a.eval x = .slice A ys.length c) (HO : W.ownsRow base 30 2 v l.length (fl l)) (HR : Kd.C PIdentLists.k30 W A ys.length ys) (hbase : base ≤ W.heap.size) (hl : (l.length + ys.length) * 16 ≤ 140737488355328)
    (h : ∀ v1 w1, w1.ownsRow base 30 2 v1 (l ++ ys).length (fl (l ++ ys)) → W.grownBy w1 v.ownBlock → (v1.ownBlock = v.ownBlock ∨ ∃ b, v1.ownBlock = some b ∧ W.heap.size ≤ b) → wpList Tryd.prog ops Q rest (a.put o.dst v1) w1) :
    wpList Tryd.prog ops Q (o :: rest) a W := by
  refine Kd.R_append_rows PIdentLists.k30 (w0 := W) base hgd s x 28 30 (.agg #[(.int .i64 0), (.int .i64 0)]) 16 ho Tryd.underlying28 info_id rfl (by decide) (by decide) v l ys A ys.length c (fun _ => True) (fun _ => False) hs hx
    (R_of_own _ HO (fun _ _ => trivial)) HR ?_ (fun _ h => h.elim) (fun _ _ => trivial) (Below.refl _ _) hbase hl ?_
  · intro p cs hp
    rw [PIdentLists.k30_open hp]
    exact PIdentLists.k30_mkM _ _ _ _
  · intro v1 w1 h1 _ h3 h4
    exact h v1 w1 (own_of_R h1) h3 h4
end

theorem grown_below {w W w1 : World} {v : Value} (hb : Below w.heap.size w W) (h : v.ownBlock = none ∨ ∃ g, v.ownBlock = some g ∧ w.heap.size ≤ g) (hg : W.grownBy w1 v.ownBlock) : Below w.heap.size w w1 :=
  hb.grown hg hb.size (fun k hk => by
    rcases h with e | ⟨g, e, hg⟩
    · rw [e] at hk; cases hk
    · rw [e] at hk; cases hk; exact hg)
theorem own_new {w : World} {base n : Nat} {v : Value} {xs : List Value} (h : w.ownsRow base 30 2 v n xs) : v.ownBlock = none ∨ ∃ g, v.ownBlock = some g ∧ base ≤ g := own_base' h

theorem compact_own (k : List Idt) (v : Value) (base : Nat) (w : World) (h : w.ownsRow base 30 2 v k.length (fl k)) :
    Calls Tryd.prog 31 #[v] w fun e w' => ∃ v1, e = .returned v1 ∧ w'.ownsRow base 30 2 v1 (compact k).length (fl (compact k)) ∧ w.grownBy w' v.ownBlock := by
  rcases h.2 with ⟨rfl, h0⟩ | ⟨g, cap, cur, rfl, _⟩
  · have hk : k = [] := List.eq_nil_of_length_eq_zero h0
    subst hk
    have HO := Lib.hid h
    clear h
    go_enter Tryd.func31, Tryd.ntmps31
    go_wp2
    go_ret
    exact ⟨_, rfl, HO.out, rfl, rfl, rfl, Nat.le_refl _, fun _ _ _ => rfl⟩
  · refine (compact_any k g cap base w h).mono fun e w' ⟨he, ho, hg⟩ => ⟨_, he, ho, hg⟩

set_option maxHeartbeats 1000000 in
set_option maxRecDepth 100000 in
theorem sorted_any (l : List Idt) (A : Option Addr) (c : Nat) (w : World) (hr : Kd.C PIdentLists.k30 w A l.length l) (hlen : l.length * 16 ≤ 140737488355328) :
    Calls Tryd.prog 12 #[.slice A l.length c] w (SortedPost l w) := by
  obtain ⟨w1, hw1⟩ : ∃ w1, w1 = w.alloc (.cells #[] 30) := ⟨_, rfl⟩
  have hB1 : Below w.heap.size w w1 := by rw [hw1]; exact (Below.refl _ _).alloc (Nat.le_refl _) _
  have hr1 := Kd.C_below hr hB1
  have ho1 : w1.ownsRow w.heap.size 30 2 (.slice (some ⟨w.heap.size, 0, none⟩) 0 0) ([] : List Idt).length (fl []) := by rw [hw1]; exact World.ownsRow_lit w #[] 0 (Nat.le_refl _) (by unfold maxLen; omega) (by simp)
  have HR := Lib.hid hr1
  have HB1 := Lib.hid hB1
  have HO1 := Lib.hid ho1
  have HLEN := Lib.hid hlen
  clear hr hr1 ho1 hlen hB1
  go_enter Tryd.func12, Tryd.ntmps12
  go_wp2_with (first | ((with_reducible refine gate_builtin (b := .append) (xs := #[.tmp 4, .tmp 5]) rfl ?_); at_builtin; rw [← hw1]; refine app_ids w.heap.size rfl (.tmp 4) (.tmp 5) rfl (.slice (some ⟨w.heap.size, 0, none⟩) 0 0) [] l A c rfl rfl ?aO ?aR ?aS ?aL ?_; (case aO => exact HO1.out); (case aR => exact HR.out); (case aS => exact HB1.out.size); (case aL => have := HLEN.out; simpa using this); intro v2 w2 ho2 hg2 hat2; have HO2 := Lib.hid ho2; have HB2 := Lib.hid (grown_below HB1.out (own_new HO1.out) hg2); clear ho2 hg2 hat2 hw1))
  go_wp2_with fail
  have hsort := sort_any l v2 w.heap.size w2 (by simpa using HO2.out) (by have := HLEN.out; omega)
  refine hsort.mono ?_
  rintro e w3 ⟨rfl, k, hp, hk, ho3, hg3⟩
  have HPM := Lib.hid hp
  have HPW := Lib.hid hk
  have HO3 := Lib.hid ho3
  have HB3 := Lib.hid (grown_below HB2.out (own_new HO2.out) hg3)
  clear hsort hp hk ho3 hg3
  go_wp2_with fail
  have hcomp := compact_own k v2 w.heap.size w3 HO3.out
  refine hcomp.mono ?_
  rintro e w4 ⟨v4, rfl, ho4, hg4⟩
  have HO4 := Lib.hid ho4
  have HB4 := Lib.hid (grown_below HB3.out (own_new HO3.out) hg4)
  clear hcomp ho4 hg4
  go_wp2_with fail
  go_ret
  refine ⟨_, rfl, ?_, HB4.out⟩
  have := HO4.out
  rwa [compact_sorted HPM.out HPW.out] at this
end Go.Proofs.YtghlhficbibcnaaDoor
