/-
  Rows of ids as cells.
-/
import Derived.Test.YtghlhficbibcnaaDoorIdCmp
namespace Go.Proofs.YtghlhficbibcnaaDoor
open Go.RowKit Go.Sort Pl

/-- An id's two cells; a list's. -/
def idc (x : Idt) : List Value := [.int .i64 x.f0, .int .i64 x.f1]
def fl (l : List Idt) : List Value := l.flatMap idc

theorem fl_nil : fl [] = [] := rfl
theorem fl_cons (x : Idt) (l : List Idt) : fl (x :: l) = .int .i64 x.f0 :: .int .i64 x.f1 :: fl l := rfl
theorem fl_append (l k : List Idt) : fl (l ++ k) = fl l ++ fl k := by simp [fl]
theorem fl_length (l : List Idt) : (fl l).length = l.length * 2 := by
  induction l with
  | nil => rfl
  | cons x l ih => rw [fl_cons]; simp [ih]; omega
theorem fl_get0 : ∀ (l : List Idt) (i : Nat), i < l.length → (fl l)[i * 2]? = some (.int .i64 (l.getD i default).f0)
  | [], _, h => absurd h (by simp)
  | x :: l, 0, _ => rfl
  | x :: l, i + 1, h => by
    rw [fl_cons, show (i + 1) * 2 = (i * 2 + 1) + 1 by omega, List.getElem?_cons_succ, List.getElem?_cons_succ, fl_get0 l i (by simpa using h)]
    simp
theorem fl_get1 : ∀ (l : List Idt) (i : Nat), i < l.length → (fl l)[i * 2 + 1]? = some (.int .i64 (l.getD i default).f1)
  | [], _, h => absurd h (by simp)
  | x :: l, 0, _ => rfl
  | x :: l, i + 1, h => by
    rw [fl_cons, show (i + 1) * 2 + 1 = ((i * 2 + 1) + 1) + 1 by omega, List.getElem?_cons_succ, List.getElem?_cons_succ, fl_get1 l i (by simpa using h)]
    simp
theorem fl_set : ∀ (l : List Idt) (i : Nat) (x : Idt), ((fl l).set (i * 2) (.int .i64 x.f0)).set (i * 2 + 1) (.int .i64 x.f1) = fl (l.set i x)
  | [], i, x => by simp [fl]
  | y :: l, 0, x => rfl
  | y :: l, i + 1, x => by
    rw [fl_cons, show (i + 1) * 2 = (i * 2 + 1) + 1 by omega, List.set_cons_succ, List.set_cons_succ, List.set_cons_succ, List.set_cons_succ, fl_set l i x]
    rfl
theorem fl_take (l : List Idt) (k : Nat) : (fl l).take (k * 2) = fl (l.take k) := by
  induction l generalizing k with
  | nil => simp [fl]
  | cons x l ih =>
    cases k with
    | zero => simp [fl]
    | succ k => rw [fl_cons, show (k + 1) * 2 = (k * 2 + 1) + 1 by omega, List.take_succ_cons, List.take_succ_cons, ih k]; rfl
theorem fl_one (l : List Idt) : ∀ u ∈ fl l, u.oneCell' = true := by
  intro u hu
  obtain ⟨x, _, hx⟩ := List.mem_flatMap.1 hu
  simp only [idc, List.mem_cons, List.not_mem_nil, or_false] at hx
  rcases hx with rfl | rfl <;> rfl

/-- The elements of an owned row: cells and marks. -/
theorem row_at {w : World} {base g n cap : Nat} {l : List Idt} (h : w.ownsRow base 30 2 (.slice (some ⟨g, 0, none⟩) n cap) n (fl l)) (i : Nat) (hi : i < n) :
    w.cell? ⟨g, i * 2, none⟩ = some (.int .i64 (l.getD i default).f0) ∧ w.cell? ⟨g, i * 2 + 1, none⟩ = some (.int .i64 (l.getD i default).f1) := by
  have hl : l.length = n := by have := h.1; rw [fl_length] at this; omega
  exact ⟨(h.cellAt (i * 2) (by omega)).trans (fl_get0 l i (by omega)), (h.cellAt (i * 2 + 1) (by omega)).trans (fl_get1 l i (by omega))⟩
theorem row_free {w : World} {base g n cap : Nat} {l : List Idt} (h : w.ownsRow base 30 2 (.slice (some ⟨g, 0, none⟩) n cap) n (fl l)) (j : Nat) : w.frozen? ⟨g, j, none⟩ = false := h.frozenAt j
theorem row_set {w : World} {base g n cap : Nat} {l : List Idt} (h : w.ownsRow base 30 2 (.slice (some ⟨g, 0, none⟩) n cap) n (fl l)) (i : Nat) (x : Idt) :
    ((w.setCell ⟨g, i * 2, none⟩ (.int .i64 x.f0)).setCell ⟨g, i * 2 + 1, none⟩ (.int .i64 x.f1)).ownsRow base 30 2 (.slice (some ⟨g, 0, none⟩) n cap) n (fl (l.set i x)) ∧
      w.grownBy ((w.setCell ⟨g, i * 2, none⟩ (.int .i64 x.f0)).setCell ⟨g, i * 2 + 1, none⟩ (.int .i64 x.f1)) (some g) := by
  obtain ⟨h1, g1⟩ := h.stored (i * 2) (.int .i64 x.f0)
  obtain ⟨h2, g2⟩ := h1.stored (i * 2 + 1) (.int .i64 x.f1)
  rw [fl_set] at h2
  exact ⟨h2, ⟨g2.os.trans g1.os, g2.tape.trans g1.tape, g2.output.trans g1.output, Nat.le_trans g1.size g2.size, fun k hk hne => (g2.block k (Nat.lt_of_lt_of_le hk g1.size) hne).trans (g1.block k hk hne)⟩⟩
theorem own_len {w : World} {base n : Nat} {v : Value} {l : List Idt} (h : w.ownsRow base 30 2 v n (fl l)) : l.length = n := by have := h.1; rw [fl_length] at this; omega
/-- Cut at its end. -/
theorem own_cut {w : World} {base g n cap : Nat} {l : List Idt} (h : w.ownsRow base 30 2 (.slice (some ⟨g, 0, none⟩) n cap) n (fl l)) (k : Nat) (hk : k ≤ n) :
    w.ownsRow base 30 2 (.slice (some ⟨g, 0, none⟩) k cap) k (fl (l.take k)) := by
  have hl := own_len h
  refine ⟨by rw [fl_length, List.length_take]; omega, ?_⟩
  rcases h.2 with ⟨h', _⟩ | ⟨g', cap', cur, h', hb, hg, hnc, hcm, hcs, ht⟩
  · simp at h'
  · simp only [Value.slice.injEq, Option.some.injEq, Addr.mk.injEq, and_true, true_and] at h'
    obtain ⟨rfl, rfl⟩ := h'
    refine .inr ⟨g, cap, cur, rfl, hb, hg, by omega, hcm, hcs, ?_⟩
    rw [← fl_take, ← ht, List.take_take, Nat.min_eq_left (by omega)]
/-- A store behind the row's length. -/
theorem own_behind {w : World} {base g n cap : Nat} {xs : List Value} (h : w.ownsRow base 30 2 (.slice (some ⟨g, 0, none⟩) n cap) n xs) (j : Nat) (hj : n * 2 ≤ j) (u : Value) :
    (w.setCell ⟨g, j, none⟩ u).ownsRow base 30 2 (.slice (some ⟨g, 0, none⟩) n cap) n xs ∧ w.grownBy (w.setCell ⟨g, j, none⟩ u) (some g) := by
  obtain ⟨_, hgr⟩ := h.stored j u
  refine ⟨⟨h.1, ?_⟩, hgr⟩
  rcases h.2 with ⟨h', _⟩ | ⟨g', cap', cur, h', hb, hg, hnc, hcm, hcs, ht⟩
  · simp at h'
  · simp only [Value.slice.injEq, Option.some.injEq, Addr.mk.injEq, and_true, true_and] at h'
    obtain ⟨rfl, rfl⟩ := h'
    refine .inr ⟨g, cap, cur.setIfInBounds j u, rfl, hb, heap_setCell_same w g j cur _ u hg, hnc, hcm, by simpa using hcs, ?_⟩
    rw [← ht, Array.toList_setIfInBounds, List.take_set_of_le hj]
theorem own_behinds {base g n cap : Nat} {xs : List Value} : ∀ (us : List Value) (j : Nat) (w : World), w.ownsRow base 30 2 (.slice (some ⟨g, 0, none⟩) n cap) n xs → n * 2 ≤ j →
    (w.setCells g j us).ownsRow base 30 2 (.slice (some ⟨g, 0, none⟩) n cap) n xs ∧ w.grownBy (w.setCells g j us) (some g)
  | [], _, w, h, _ => ⟨h, rfl, rfl, rfl, Nat.le_refl _, fun _ _ _ => rfl⟩
  | u :: us, j, w, h, hj => by
    obtain ⟨h1, g1⟩ := own_behind h j hj u
    obtain ⟨h2, g2⟩ := own_behinds us (j + 1) _ h1 (by omega)
    exact ⟨h2, g2.os.trans g1.os, g2.tape.trans g1.tape, g2.output.trans g1.output, Nat.le_trans g1.size g2.size, fun k hk hne => (g2.block k (Nat.lt_of_lt_of_le hk g1.size) hne).trans (g1.block k hk hne)⟩

open Go.Proofs.YtghlhficbibcnaaDoorW.PrintWords in
theorem reps_fl {w : World} {base : Nat} {ok : Nat → Prop} : ∀ {l : List Idt} {cs : List Value}, Reps (PIdentLists.k30.M w base ok) 2 l cs → cs = fl l
  | [], cs, h => by
    have := h.1
    simp at this
    subst this
    rfl
  | x :: l, cs, h => by
    have hx := PIdentLists.k30_openM (h.2 0 x rfl)
    have hl := h.1
    simp only [List.length_cons] at hl
    have ht : Reps (PIdentLists.k30.M w base ok) 2 l (cs.drop 2) := by
      refine ⟨by rw [List.length_drop]; omega, fun j p hj => ?_⟩
      have := h.2 (j + 1) p (by simpa using hj)
      rwa [List.drop_drop, show 2 + j * 2 = (j + 1) * 2 by omega]
    rw [fl_cons, ← reps_fl ht]
    simp only [Nat.zero_mul, List.drop_zero] at hx
    conv => lhs; rw [← List.take_append_drop 2 cs, hx]
    rfl
open Go.Proofs.YtghlhficbibcnaaDoorW.PrintWords in
theorem reps_mk (w : World) (base : Nat) (ok : Nat → Prop) (l : List Idt) : Reps (PIdentLists.k30.M w base ok) 2 l (fl l) := by
  refine ⟨fl_length l, fun j p hj => ?_⟩
  obtain ⟨hjl, hp⟩ := List.getElem?_eq_some_iff.1 hj
  have e : ((fl l).drop (j * 2)).take 2 = [.int .i64 p.f0, .int .i64 p.f1] := by
    have h0 := fl_get0 l j hjl
    have h1 := fl_get1 l j hjl
    have hd : l.getD j default = p := by rw [List.getD_eq_getElem?_getD, hj]; rfl
    rw [hd] at h0 h1
    obtain ⟨i0, e0⟩ := List.getElem?_eq_some_iff.1 h0
    obtain ⟨i1, e1⟩ := List.getElem?_eq_some_iff.1 h1
    rw [List.drop_eq_getElem_cons i0, List.drop_eq_getElem_cons i1, e0, e1]
    rfl
  rw [e]
  exact PIdentLists.k30_mkM w base ok p
open Go.Proofs.YtghlhficbibcnaaDoorW.PrintWords in
/-- The print's word for an owned row of ids, and mine. -/
theorem own_of_R {w : World} {base : Nat} {ok : Nat → Prop} {v : Value} {l : List Idt} (h : Kd.R PIdentLists.k30 30 w base ok v l) : w.ownsRow base 30 2 v l.length (fl l) := by
  obtain ⟨_, inner, ho, hr⟩ := h
  rw [← reps_fl hr]
  exact ho
open Go.Proofs.YtghlhficbibcnaaDoorW.PrintWords in
theorem R_of_own {w : World} {base : Nat} {v : Value} {l : List Idt} (ok : Nat → Prop) (h : w.ownsRow base 30 2 v l.length (fl l)) (hok : ∀ k, v.ownBlock = some k → ok k) : Kd.R PIdentLists.k30 30 w base ok v l :=
  ⟨hok, fl l, h, reps_mk w base _ l⟩
open Go.Proofs.YtghlhficbibcnaaDoorW.PrintWords in
theorem C_of_own {w : World} {base : Nat} {v : Value} {l : List Idt} (h : w.ownsRow base 30 2 v l.length (fl l)) : ∃ A c, v = .slice A l.length c ∧ l.length ≤ c ∧ Kd.C PIdentLists.k30 w A l.length l :=
  Kd.R_reads (R_of_own (fun _ => True) h (fun _ _ => trivial))

open Go.Proofs.YtghlhficbibcnaaDoorW.PrintWords in
/-- An element of a row that is read. -/
theorem C_at {w : World} {A : Option Addr} {l : List Idt} (h : Kd.C PIdentLists.k30 w A l.length l) (i : Nat) (hi : i < l.length) : ∃ ad, A = some ad ∧ w.cell? (ad.add (i * 2)) = some (.int .i64 (l.getD i default).f0) ∧
    w.cell? ⟨(ad.add (i * 2)).block, (ad.add (i * 2)).off + 1, none⟩ = some (.int .i64 (l.getD i default).f1) := by
  obtain ⟨ad, hA, h0, h1⟩ := PIdentLists.at_T30 h (i : Int) (by omega) (by omega)
  rw [Int.toNat_natCast] at h0 h1
  have hx : PIdentLists.rd_T30 l i = l.getD i default := by unfold PIdentLists.rd_T30; rw [Int.toNat_natCast]; rfl
  rw [hx] at h0 h1
  exact ⟨ad, hA, h0, h1⟩
theorem below_grow (w : World) (q : Nat) (os : Array Obj) : Below w.heap.size w (grow (w.drewN q) os) :=
  ⟨rfl, rfl, rfl, by simp [grow], fun k hk => by simp [grow, Array.getElem?_append, hk]⟩

section
open Go.Proofs.YtghlhficbibcnaaDoorW.PrintWords
variable {ops : Array Oper} {rest : List Oper} {o : Oper} {a : Act} {Q : Exit → Act → World → Prop}
theorem info_id : (Tryd.prog.info? 30).map (fun i => (i.zero, i.size, i.bytes)) = some (some (.agg #[(.int .i64 0), (.int .i64 0)]), 2, 16) := by kernel_rfl
/-- append(v, p): one id, to a row of one's own. -/
theorem app_id {W : World} (base : Nat) (hgd : o.guard = none) (s x : Operand) (ho : o.op = .call { callee := .builtin .append, args := #[s, x], argTypes := #[28, 28] })
    (v : Value) (l : List Idt) (p : Idt) (hs : a.eval s = v) (hx : a.eval x = .slice (some ⟨W.heap.size, 0, none⟩) 1 1) (HO : W.ownsRow base 30 2 v l.length (fl l)) (hbase : base ≤ W.heap.size) (hl : (l.length + 1) * 16 ≤ 140737488355328)
    (h : ∀ v1 w1, w1.ownsRow base 30 2 v1 (l ++ [p]).length (fl (l ++ [p])) → W.grownBy w1 v.ownBlock → (v1.ownBlock = v.ownBlock ∨ ∃ b, v1.ownBlock = some b ∧ W.heap.size ≤ b) → wpList Tryd.prog ops Q rest (a.put o.dst v1) w1) :
    wpList Tryd.prog ops Q (o :: rest) a (W.alloc (.cells #[.int .i64 p.f0, .int .i64 p.f1] 30)) := by
  refine print_append_cells (w0 := W) base hgd s x 28 30 (.agg #[(.int .i64 0), (.int .i64 0)]) 2 16 ho Tryd.underlying28 info_id rfl (by decide) (by decide) v l.length (fl l) [.int .i64 p.f0, .int .i64 p.f1] hs hx rfl ?_ HO (Below.refl _ _) hbase hl ?_
  · intro u hu
    simp only [List.mem_cons, List.not_mem_nil, or_false] at hu
    rcases hu with rfl | rfl <;> rfl
  · intro v1 w1 h1 _ h3 h4
    refine h v1 w1 ?_ h3 h4
    have e : fl (l ++ [p]) = fl l ++ [.int .i64 p.f0, .int .i64 p.f1] := by rw [fl_append]; rfl
    rw [e, List.length_append]
    exact h1
end

theorem zero_id (w : World) : (zeroValue 30).run Tryd.prog w = .ok (.agg #[.int .i64 0, .int .i64 0]) w := by kernel_rfl
/-- 'clear' on a slice of ids. -/
theorem run_clear_ids (w : World) (ty : TypeId) (b o n c : Nat) (hn : 0 < n)
    (hc : ∀ j, j < n * 2 → (w.cell? ⟨b, o + j, none⟩).isSome = true) (hf : ∀ j, j < n * 2 → w.frozen? ⟨b, o + j, none⟩ = false) :
    (Builtin.clear_ #[28] ty #[.slice (some ⟨b, o, none⟩) n c]).run Tryd.prog w = .ok (.tuple #[]) (w.setCells b o (List.replicate (n * 2) (.int .i64 0))) := by
  have hzc : (Builtin.zeroCells (Value.agg #[.int .i64 0, .int .i64 0]).cells n).toList = List.replicate (n * 2) (.int .i64 0) := by
    simp only [Builtin.zeroCells, Value.cells]
    apply List.ext_getElem
    · simp
    · intro i h1 h2
      simp only [Array.toList_map, List.getElem_map, List.getElem_replicate]
      have : ∀ k : Nat, (#[Value.int .i64 0, Value.int .i64 0] : Array Value)[k % (#[Value.int .i64 0, Value.int .i64 0] : Array Value).size]! = Value.int .i64 0 := by
        intro k
        have h : k % 2 = 0 ∨ k % 2 = 1 := by omega
        rcases h with h | h <;> simp [h]
      exact this _
  have hst := run_storeCells_cells (P := Tryd.prog) b o (List.replicate (n * 2) (.int .i64 0)) 0 w (by simpa using hc) (by simpa using hf) (by intro v hv'; rw [List.eq_of_mem_replicate hv']; rfl)
  simp only [Nat.add_zero] at hst
  obtain ⟨m, rfl⟩ : ∃ m, n = m + 1 := ⟨n - 1, by omega⟩
  simp [Builtin.clear_, run_underlying Tryd.underlying28, hzc, hst]
end Go.Proofs.YtghlhficbibcnaaDoor
