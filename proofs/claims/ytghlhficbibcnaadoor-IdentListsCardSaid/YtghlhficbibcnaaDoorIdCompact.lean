/-
  Walk: slices.Compact at ids, over a row of the call's own.
-/
import Derived.Test.YtghlhficbibcnaaDoorIdFlat
import Derived.Lib.Hide
namespace Go.Proofs.YtghlhficbibcnaaDoor
open Go.RowKit Go.Sort Pl

attribute [local go_sem high] eqId

def CompactPost (d : List Idt) (g cap base : Nat) (w : World) (e : Ending) (w' : World) : Prop :=
  e = .returned (.slice (some ⟨g, 0, none⟩) (compact d).length cap) ∧ w'.ownsRow base 30 2 (.slice (some ⟨g, 0, none⟩) (compact d).length cap) (compact d).length (fl (compact d)) ∧ w.grownBy w' (some g)

/-- The head of the outer loop: nothing has been found. -/
structure Head1 (d : List Idt) (w : World) (k : Nat) (wr : World) : Prop where
  kn : k + 1 ≤ d.length
  same : compact (d.take (k + 1)) = d.take (k + 1)
  dr : ∃ n, wr = w.drewN n

/-- The head of the inner loop: m elements stand in front, k + 1 + i are gone over; from there on all is as it was. -/
structure Head2 (d : List Idt) (g cap base : Nat) (w : World) (k i m : Nat) (wr : World) (e : List Idt) : Prop where
  kn : k + 1 + i + 1 ≤ d.length
  mle : m ≤ k + 1 + i
  k1 : 1 ≤ m
  own : wr.ownsRow base 30 2 (.slice (some ⟨g, 0, none⟩) d.length cap) d.length (fl e)
  gr : w.grownBy wr (some g)
  front : e.take m = compact (d.take (k + 1 + i + 1))
  rest : ∀ t, k + 1 + i ≤ t → e.getD t default = d.getD t default
theorem Head2.draw {d : List Idt} {g cap base : Nat} {w : World} {k i m : Nat} {wr : World} {e : List Idt} (h : Head2 d g cap base w k i m wr e) (n : Nat) : Head2 d g cap base w k i m (wr.drewN n) e :=
  ⟨h.kn, h.mle, h.k1, h.own, ⟨h.gr.os, h.gr.tape, h.gr.output, h.gr.size, h.gr.block⟩, h.front, h.rest⟩
theorem Head2.len {d : List Idt} {g cap base : Nat} {w : World} {k i m : Nat} {wr : World} {e : List Idt} (h : Head2 d g cap base w k i m wr e) : e.length = d.length := own_len h.own
theorem Head2.start {d : List Idt} {g cap base : Nat} {w : World} {k : Nat} (hown : w.ownsRow base 30 2 (.slice (some ⟨g, 0, none⟩) d.length cap) d.length (fl d)) (hk : k + 1 < d.length)
    (hs : compact (d.take (k + 1)) = d.take (k + 1)) (he : d.getD k default = d.getD (k + 1) default) (n : Nat) : Head2 d g cap base w k 0 (k + 1) (w.drewN n) d :=
  ⟨by omega, by omega, by omega, hown, ⟨rfl, rfl, rfl, Nat.le_refl _, fun _ _ _ => rfl⟩, by rw [show k + 1 + 0 + 1 = k + 2 by omega, compact_take d k hk, if_pos he, hs], fun _ _ => rfl⟩
theorem Head2.same {d : List Idt} {g cap base : Nat} {w : World} {k i m : Nat} {wr : World} {e : List Idt} (h : Head2 d g cap base w k i m wr e) (hk : k + 1 + i + 1 < d.length)
    (he : d.getD (k + 1 + i) default = d.getD (k + 1 + i + 1) default) : Head2 d g cap base w k (i + 1) m wr e :=
  ⟨by omega, by have := h.mle; omega, h.k1, h.own, h.gr, by rw [show k + 1 + (i + 1) + 1 = (k + 1 + i) + 2 by omega, compact_take d (k + 1 + i) hk, if_pos he]; exact h.front, fun t ht => h.rest t (by omega)⟩
theorem Head2.put {d : List Idt} {g cap base : Nat} {w : World} {k i m : Nat} {wr : World} {e : List Idt} (h : Head2 d g cap base w k i m wr e) (hk : k + 1 + i + 1 < d.length)
    (he : ¬ d.getD (k + 1 + i) default = d.getD (k + 1 + i + 1) default) (x : Idt) (hx : x = d.getD (k + 1 + i + 1) default) :
    Head2 d g cap base w k (i + 1) (m + 1) ((wr.setCell ⟨g, m * 2, none⟩ (.int .i64 x.f0)).setCell ⟨g, m * 2 + 1, none⟩ (.int .i64 x.f1)) (e.set m x) := by
  obtain ⟨h1, h2⟩ := row_set h.own m x
  have hl := h.len
  have hmk := h.mle
  refine ⟨by omega, by omega, by omega, h1, ⟨h2.os.trans h.gr.os, h2.tape.trans h.gr.tape, h2.output.trans h.gr.output, Nat.le_trans h.gr.size h2.size, fun j hj hne => (h2.block j (Nat.lt_of_lt_of_le hj h.gr.size) hne).trans (h.gr.block j hj hne)⟩, ?_, ?_⟩
  · rw [show k + 1 + (i + 1) + 1 = (k + 1 + i) + 2 by omega, compact_take d (k + 1 + i) hk, if_neg he, ← h.front, ← hx]
    rw [take_succ' (e.set m x) m (by rw [List.length_set]; omega), List.take_set_of_le (Nat.le_refl m)]
    congr 1
    rw [List.getD_eq_getElem?_getD, List.getElem?_set_self (by omega)]
    rfl
  · intro t ht
    rw [List.getD_eq_getElem?_getD, List.getElem?_set_ne (by omega), ← List.getD_eq_getElem?_getD]
    exact h.rest t (by omega)

theorem Head2.done {d : List Idt} {g cap base : Nat} {w : World} {k i m : Nat} {wr : World} {e : List Idt} (h : Head2 d g cap base w k i m wr e) (hk : d.length ≤ k + 1 + i + 1) :
    CompactPost d g cap base w (.returned (.slice (some ⟨g, 0, none⟩) m cap)) (wr.setCells g (m * 2) (List.replicate ((d.length - m) * 2) (.int .i64 0))) := by
  have hl := h.len
  have hm := h.mle
  have hn := h.kn
  have hc : compact d = e.take m := by rw [h.front, List.take_of_length_le hk]
  have hcl : (compact d).length = m := by rw [hc, List.length_take]; omega
  obtain ⟨h1, h2⟩ := own_behinds (List.replicate ((d.length - m) * 2) (.int .i64 0)) (m * 2) wr (own_cut h.own m (by omega)) (Nat.le_refl _)
  unfold CompactPost
  rw [hcl, hc]
  exact ⟨rfl, h1, h2.os.trans h.gr.os, h2.tape.trans h.gr.tape, h2.output.trans h.gr.output, Nat.le_trans h.gr.size h2.size, fun j hj hne => (h2.block j (Nat.lt_of_lt_of_le hj h.gr.size) hne).trans (h.gr.block j hj hne)⟩
theorem Head1.step {d : List Idt} {k : Nat} (h : compact (d.take (k + 1)) = d.take (k + 1)) (hk : k + 1 < d.length) (he : ¬ d.getD k default = d.getD (k + 1) default) :
    compact (d.take (k + 1 + 1)) = d.take (k + 1 + 1) := by
  rw [compact_take d k hk, if_neg he, h, ← take_succ' d (k + 1) hk]
theorem Head1.done {d : List Idt} {g cap base : Nat} {w : World} {k : Nat} (hown : w.ownsRow base 30 2 (.slice (some ⟨g, 0, none⟩) d.length cap) d.length (fl d)) (h : compact (d.take (k + 1)) = d.take (k + 1)) (hk : d.length ≤ k + 1) (n : Nat) :
    CompactPost d g cap base w (.returned (.slice (some ⟨g, 0, none⟩) d.length cap)) (w.drewN n) := by
  have hc : compact d = d := by rwa [List.take_of_length_le hk] at h
  unfold CompactPost
  rw [hc]
  exact ⟨rfl, hown, rfl, rfl, rfl, Nat.le_refl _, fun _ _ _ => rfl⟩
theorem grown_drewN (w : World) (n : Nat) (row : Option Nat) : w.grownBy (w.drewN n) row := ⟨rfl, rfl, rfl, Nat.le_refl _, fun _ _ _ => rfl⟩

set_option maxHeartbeats 2000000 in
set_option maxRecDepth 100000 in
theorem compact_any (d : List Idt) (g cap base : Nat) (w : World) (hown : w.ownsRow base 30 2 (.slice (some ⟨g, 0, none⟩) d.length cap) d.length (fl d)) :
    Calls Tryd.prog 31 #[.slice (some ⟨g, 0, none⟩) d.length cap] w (CompactPost d g cap base w) := by
  have hm : d.length ≤ 9223372036854775807 ∧ d.length ≤ cap := by
    rcases hown.2 with ⟨h', _⟩ | ⟨g', cap', cur, h', hb, hg, hnc, hcm, hcs, ht⟩
    · simp at h'
    · simp only [Value.slice.injEq] at h'
      unfold maxLen at hcm
      obtain ⟨_, _, rfl⟩ := h'
      omega
  obtain ⟨hm, hcap⟩ := hm
  by_cases h2 : d.length < 2
  · have hc : compact d = d := by
      match d, h2 with
      | [], _ => rfl
      | [x], _ => rfl
    have hb : decide ((d.length : Int) < 2) = true := by simp; omega
    have H : CompactPost d g cap base w (.returned (.slice (some ⟨g, 0, none⟩) d.length cap)) w := by
      unfold CompactPost
      rw [hc]
      exact ⟨rfl, hown, grown_drewN w 0 _⟩
    have HH := Lib.hid H
    clear H hc h2 hown
    go_enter Tryd.func31, Tryd.ntmps31
    go_wp2
    go_ret
    exact HH.out
  · have hb : decide ((d.length : Int) < 2) = false := by simp; omega
    have h1 : compact (d.take 1) = d.take 1 := by
      match d, h2 with
      | x :: l, _ => rfl
    have HO := Lib.hid hown
    have HC1 := Lib.hid h1
    clear hown h1
    go_enter Tryd.func31, Tryd.ntmps31
    go_wp2
    go_loopw [3] (fun v3 wr => ∃ k : Nat, v3 = .int .i64 (k + 1) ∧ Head1 d w k wr) (fun v3 _ => d.length - (intOf v3).toNat)
    case atStart => exact ⟨0, rfl, by omega, HC1.out, 0, rfl⟩
    case round =>
      obtain ⟨k, rfl, hkn, hs, nd, rfl⟩ := hrel
      have HS := Lib.hid hs
      clear hs
      by_cases hlt : k + 1 < d.length
      · obtain ⟨c0, c1⟩ := row_at HO.out (k + 1) hlt
        obtain ⟨p0, p1⟩ := row_at HO.out k (by omega)
        obtain ⟨x, hx⟩ : ∃ x, x = d.getD (k + 1) default := ⟨_, rfl⟩
        obtain ⟨y, hy⟩ : ∃ y, y = d.getD k default := ⟨_, rfl⟩
        rw [← hx] at c0 c1
        rw [← hy] at p0 p1
        have HX := Lib.hid hx
        have HY := Lib.hid hy
        clear hx hy
        by_cases he : x = y
        · have e1 : (x.f0 == y.f0 && (x.f1 == y.f1)) = true := by simp [he]
          have HE := Lib.hid he
          clear he
          go_wp2_with fail
          go_quiet (fail)
          go_wp2_with fail
          have H2 := Head2.start HO.out hlt HS.out (by rw [← HX.out, ← HY.out, HE.out]) (nd + nq)
          have HH2 := Lib.hid H2
          clear H2 c0 c1 p0 p1
          have hkm : k + 1 < 9223372036854775807 := by omega
          go_loopw [3, 5] (fun v3 v5 w2 => ∃ m i : Nat, v3 = .int .i64 m ∧ v5 = .int .i64 (i + 1) ∧ ∃ e : List Idt, Head2 d g cap base w k i m w2 e) (fun _ v5 _ => d.length - (intOf v5).toNat)
          case atStart => exact ⟨k + 1, 0, by go_num, by go_num, d, HH2.out⟩
          case round =>
            clear HH2
            obtain ⟨m, i, rfl, rfl, e, h2⟩ := hrel
            have hb1 := h2.kn
            have hb2 := h2.mle
            have hb3 := h2.k1
            have hle := h2.len
            have H2 := Lib.hid h2
            clear h2
            by_cases hin : i + 1 < d.length - (k + 1)
            · obtain ⟨c0, c1⟩ := row_at H2.out.own (k + 1 + i + 1) (by omega)
              obtain ⟨p0, p1⟩ := row_at H2.out.own (k + 1 + i) (by omega)
              obtain ⟨q0, q1⟩ := row_at H2.out.own m (by omega)
              have q2 := row_free H2.out.own (m * 2)
              have q3 := row_free H2.out.own (m * 2 + 1)
              rw [H2.out.rest _ (by omega)] at c0 c1 p0 p1
              obtain ⟨x', hx⟩ : ∃ x, x = d.getD (k + 1 + i + 1) default := ⟨_, rfl⟩
              obtain ⟨y', hy⟩ : ∃ y, y = d.getD (k + 1 + i) default := ⟨_, rfl⟩
              obtain ⟨z', hz⟩ : ∃ z, z = e.getD m default := ⟨_, rfl⟩
              rw [← hx, show (k + 1 + i + 1) * 2 = (k + 1) * 2 + (i + 1) * 2 by omega] at c0 c1
              rw [← hy, show (k + 1 + i) * 2 = (k + 1) * 2 + i * 2 by omega] at p0 p1
              rw [← hz] at q0 q1
              have HX' := Lib.hid hx
              have HY' := Lib.hid hy
              clear hx hy hz
              by_cases he' : x' = y'
              · have e2 : (x'.f0 == y'.f0 && (x'.f1 == y'.f1)) = true := by simp [he']
                have e3 : (!(x'.f0 == y'.f0 && (x'.f1 == y'.f1))) = false := by simp [he']
                have HE' := Lib.hid he'
                clear he'
                go_wp2_with fail
                go_quiet (fail)
                go_wp2
                go_roundw
                case rel => exact ⟨m, i + 1, rfl, by go_num, e, (H2.out.same (by omega) (by rw [← HX'.out, ← HY'.out, HE'.out])).draw _⟩
                case measure => simp [intOf]; omega
              · have e2 : (x'.f0 == y'.f0 && (x'.f1 == y'.f1)) = false := by
                  rw [Bool.and_eq_false_iff]
                  by_cases e : x'.f0 = y'.f0
                  · exact Or.inr (by simpa using fun k => he' (id_ext e k))
                  · exact Or.inl (by simpa using e)
                have HE' := Lib.hid he'
                clear he'
                go_wp2_with fail
                go_quiet (fail)
                go_wp2_with fail
                go_roundw
                case rel => exact ⟨m + 1, i + 1, by go_num, by go_num, e.set m x', (H2.out.draw _).put (by omega) (by rw [← HX'.out, ← HY'.out]; exact fun h => HE'.out h.symm) x' HX'.out⟩
                case measure => simp [intOf]; omega
            · have hcl : ∀ ty, (Builtin.clear_ #[28] ty #[.slice (some ⟨g, m * 2, none⟩) (d.length - m) (cap - m)]).run Tryd.prog wr = .ok (.tuple #[]) (wr.setCells g (m * 2) (List.replicate ((d.length - m) * 2) (.int .i64 0))) :=
                fun ty => run_clear_ids wr ty g (m * 2) _ _ (by omega) (fun j hj => by rw [H2.out.own.cellAt _ (by omega), List.getElem?_eq_getElem (by rw [fl_length]; omega)]; rfl) (fun j _ => row_free H2.out.own _)
              go_wp2_with fail
              go_ret
              have hk := H2.out.done (by omega)
              exact hk
        · have e1 : (x.f0 == y.f0 && (x.f1 == y.f1)) = false := by
            rw [Bool.and_eq_false_iff]
            by_cases e : x.f0 = y.f0
            · exact Or.inr (by simpa using fun k => he (id_ext e k))
            · exact Or.inl (by simpa using e)
          have HE := Lib.hid he
          clear he
          go_wp2_with fail
          go_quiet (fail)
          go_wp2
          go_roundw
          case rel => exact ⟨k + 1, by go_num, by omega, Head1.step HS.out hlt (by rw [← HX.out, ← HY.out]; exact fun h => HE.out h.symm), _, rfl⟩
          case measure => simp [intOf]; omega
      · go_wp2
        go_ret
        exact Head1.done HO.out HS.out (by omega) _
end Go.Proofs.YtghlhficbibcnaaDoor
