/-
  What is read as data, opened kind by kind.
-/
import Derived.Test.YtghlhficbibcnaaDoorPIdentListsx0
import Derived.ProofKit
import Derived.OpenShut
import Derived.ChangeArms
namespace Go.Proofs.YtghlhficbibcnaaDoor
open Go Go.RowKit Go.Proofs.YtghlhficbibcnaaDoorW.PrintWords

/-- A reading of type t is of the kind d, its value with q. -/
structure Opens {α : Type} (P : Program) (d : Kd α) (q : α → Prop) (t : TypeId) : Prop where
  out : ∀ {H : Type} {enc : TypeId × Value → H} {w : World} {base : Nat} {spare : Nat → Bool} {held : Bool} {fuel : Nat} {cs : List Value} {x : DataW H × List MemPlace},
    DataW.trod enc P w base spare held fuel t cs = some x → ∃ y, q y ∧ d.K w y cs
structure OpensFs {α : Type} (P : Program) (d : Kd α) (q : α → Prop) (fs : List Field) (o : Nat) : Prop where
  out : ∀ {H : Type} {enc : TypeId × Value → H} {w : World} {base : Nat} {spare : Nat → Bool} {held : Bool} {fuel : Nat} {cs : List Value},
    cs.length = o + d.sz → (∀ f ∈ fs, ∃ x, DataW.trod enc P w base spare held fuel f.type ((cs.drop f.offset).take (P.cellsOf f.type)) = some x) → ∃ y, q y ∧ d.K w y (cs.drop o)

theorem opens_int {P : Program} {k : IntKind} {t : TypeId} (ht : P.underlying t = some (.int k)) : Opens P (Kd.int k) (fun n => (Lit.int k n).wf = true) t := by
  constructor; intro H enc w base spare held fuel cs x h
  obtain ⟨n, rfl, _, hw⟩ := DataW.trod_int ht h
  exact ⟨n, hw, rfl⟩
theorem opens_bool {P : Program} {t : TypeId} (ht : P.underlying t = some .bool) : Opens P Kd.bool (fun _ => True) t := by
  constructor; intro H enc w base spare held fuel cs x h
  obtain ⟨n, rfl, _⟩ := DataW.trod_bool ht h
  exact ⟨n, trivial, rfl⟩
theorem opens_string {P : Program} {t : TypeId} (ht : P.underlying t = some .string) : Opens P Kd.string (fun s => s.size ≤ maxLen) t := by
  constructor; intro H enc w base spare held fuel cs x h
  obtain ⟨n, rfl, _, hw⟩ := DataW.trod_string ht h
  exact ⟨n, hw, rfl⟩
theorem opens_iso {α β : Type} {P : Program} {d : Kd α} {q : α → Prop} {t : TypeId} (h : Opens P d q t) {f : β → α} (g : α → β) (hg : ∀ a, f (g a) = a) : Opens P (Kd.iso d f) (fun b => q (f b)) t := by
  constructor; intro H enc w base spare held fuel cs x hx
  obtain ⟨y, hy, hk⟩ := h.out hx
  exact ⟨g y, show q (f (g y)) by rw [hg]; exact hy, show d.K w (f (g y)) cs by rw [hg]; exact hk⟩
theorem opensFs_one {α : Type} {P : Program} {d : Kd α} {q : α → Prop} {f : Field} {o : Nat} (h : Opens P d q f.type) (ho : f.offset = o) (hs : P.cellsOf f.type = d.sz) : OpensFs P d q [f] o := by
  constructor; intro H enc w base spare held fuel cs hl hx
  obtain ⟨x, hx⟩ := hx f (by simp)
  rw [ho, hs, List.take_of_length_le (by rw [List.length_drop]; omega)] at hx
  exact h.out hx
theorem opensFs_cons {α β : Type} {P : Program} {d : Kd α} {q : α → Prop} {d' : Kd β} {q' : β → Prop} {f : Field} {fs : List Field} {o : Nat} (h : Opens P d q f.type) (ho : f.offset = o) (hs : P.cellsOf f.type = d.sz)
    (h' : OpensFs P d' q' fs (o + d.sz)) : OpensFs P (Kd.pair d d') (fun x => q x.1 ∧ q' x.2) (f :: fs) o := by
  constructor; intro H enc w base spare held fuel cs hl hx
  obtain ⟨x, hx0⟩ := hx f (by simp)
  rw [ho, hs] at hx0
  obtain ⟨y, hy, hk⟩ := h.out hx0
  obtain ⟨z, hz, hk'⟩ := h'.out (by rw [hl]; show o + (d.sz + d'.sz) = _; omega) (fun g hg => hx g (List.mem_cons_of_mem _ hg))
  refine ⟨(y, z), ⟨hy, hz⟩, (cs.drop o).take d.sz, cs.drop (o + d.sz), ?_, hk, hk'⟩
  rw [← List.drop_drop, List.take_append_drop]
theorem opens_struct {α : Type} {P : Program} {d : Kd α} {q : α → Prop} {t : TypeId} {fs : Array Field} (ht : P.underlying t = some (.struct fs)) (hc : P.cellsOf t = d.sz) {l : List Field} (hfs : fs.toList = l) (h : OpensFs P d q l 0) : Opens P d q t := by
  subst hfs
  constructor; intro H enc w base spare held fuel cs x hx
  obtain ⟨xs, n, rfl, _, hl, hn, hf⟩ := DataW.trod_struct ht hx
  have := h.out (enc := enc) (w := w) (base := base) (spare := spare) (held := held) (fuel := n) (cs := cs) (by rw [hl, hc]; omega) (fun f hf' => by
    obtain ⟨i, hi, he⟩ := List.getElem_of_mem hf'
    have hi' : i < fs.size := by simpa using hi
    have hgi : fs[i]? = some f := by rw [Array.getElem?_eq_getElem hi']; simpa using he
    exact ⟨xs[i]'(by omega), by rw [hf i f hgi]; exact List.getElem?_eq_getElem _⟩)
  simpa using this
theorem opens_row {α : Type} {P : Program} {d : Kd α} {q : α → Prop} {t e : TypeId} (ht : P.underlying t = some (.slice e)) (hc : P.cellsOf e = d.sz) (h : Opens P d q e) {H : Type} {enc : TypeId × Value → H} {w : World} {base : Nat} {spare : Nat → Bool} {held : Bool} {fuel : Nat} {cs : List Value} {x : DataW H × List MemPlace}
    (hx : DataW.trod enc P w base spare held fuel t cs = some x) : ∃ A c l, cs = [.slice A (l : List α).length c] ∧ l.length ≤ c ∧ c ≤ maxLen ∧ (∀ y ∈ l, q y) ∧ d.C w A l.length l := by
  rcases DataW.trod_slice ht hx with ⟨rfl, _⟩ | ⟨a, len, cap, elems, rest, n, _, rfl, _, hb, hl, hm, hlen, hel, _⟩
  · exact ⟨none, 0, [], rfl, Nat.le_refl _, by decide, by simp, rfl, Nat.zero_le _, fun h => by simp at h⟩
  · have each : ∀ i, i < len → ∃ y, q y ∧ ∃ c, c.length = d.sz ∧ d.K w y c ∧ ∀ j u, c[j]? = some u → w.cell? (a.add (i * d.sz + j)) = some u := by
      intro i hi
      have h1 := hel i hi
      rw [List.getElem?_eq_getElem (by omega), Option.bind_eq_some_iff] at h1
      obtain ⟨c, hcs, htr⟩ := h1
      obtain ⟨y, hy, hk⟩ := h.out htr
      rw [hc] at hcs
      obtain ⟨_, hcl, hcell⟩ := World.cells?_some hcs
      refine ⟨y, hy, c, hcl, hk, fun j u hj => ?_⟩
      have := hcell j (by obtain ⟨hj', _⟩ := List.getElem?_eq_some_iff.1 hj; omega)
      rw [hj] at this
      have e : (a.add (i * d.sz)).add j = a.add (i * d.sz + j) := Addr.add_add _ _ _
      rw [e] at this
      simpa using this
    have hh : ∀ k, k ≤ len → ∃ l : List α, l.length = k ∧ (∀ y ∈ l, q y) ∧ ∀ i p, l[i]? = some p → ∃ c, c.length = d.sz ∧ d.K w p c ∧ ∀ j u, c[j]? = some u → w.cell? (a.add (i * d.sz + j)) = some u := by
      intro k
      induction k with
      | zero => exact fun _ => ⟨[], rfl, by simp, fun i p hp => by simp at hp⟩
      | succ k ih =>
        intro hk
        obtain ⟨l, h1, h2, h3⟩ := ih (by omega)
        obtain ⟨y, hy, c, hc'⟩ := each k (by omega)
        refine ⟨l ++ [y], by simp [h1], fun z hz => ?_, fun i p hp => ?_⟩
        · rcases List.mem_append.1 hz with hz | hz
          · exact h2 z hz
          · rw [List.mem_singleton.1 hz]; exact hy
        · by_cases hi : i < l.length
          · rw [List.getElem?_append_left hi] at hp
            exact h3 i p hp
          · rw [List.getElem?_append_right (by omega)] at hp
            have hi0 : i - l.length = 0 := by
              obtain ⟨hj, _⟩ := List.getElem?_eq_some_iff.1 hp
              simpa using hj
            rw [hi0] at hp
            obtain rfl : y = p := by simpa using hp
            obtain rfl : i = k := by omega
            exact ⟨c, hc'⟩
    obtain ⟨l, h1, h2, h3⟩ := hh len (Nat.le_refl _)
    refine ⟨some a, cap, l, by rw [h1], by omega, hm, h2, rfl, ?_, fun _ => ⟨a, rfl, h3⟩⟩
    have hm' := hm
    unfold maxLen at hm'
    omega
theorem opens_slice {α : Type} {P : Program} {d : Kd α} {q : α → Prop} {t e : TypeId} (e' : Nat) (ht : P.underlying t = some (.slice e)) (hc : P.cellsOf e = d.sz) (h : Opens P d q e) : Opens P (Kd.slice e' d) (fun l => ∀ y ∈ l, q y) t := by
  constructor; intro H enc w base spare held fuel cs x hx
  obtain ⟨A, c, l, rfl, hl, _, hq, hC⟩ := opens_row ht hc h hx
  exact ⟨l, hq, A, c, rfl, hl, hC⟩
/-- Arguments as they come: a slice; a struct by value. -/
theorem opens_arg_slice {α : Type} {P : Program} {d : Kd α} {q : α → Prop} {t e : TypeId} (ht : P.underlying t = some (.slice e)) (hc : P.cellsOf e = d.sz) (h : Opens P d q e) {H : Type} {enc : TypeId × Value → H} {w : World} {b base : Nat} {spare : Nat → Bool} {held : Bool} {v : Value} {x : DataW H} {p : List MemPlace}
    (hv : Value.okWide P w .any b t v) (hx : DataW.Trod enc P w base spare held t v x p) : ∃ A c l, v = .slice A (l : List α).length c ∧ l.length ≤ c ∧ c ≤ maxLen ∧ (∀ y ∈ l, q y) ∧ d.C w A l.length l := by
  obtain ⟨a, len, cap, rfl⟩ := Go.WideShapes.okWide_slice ht hv
  obtain ⟨fuel, hf⟩ := hx
  obtain ⟨A, c, l, e, r⟩ := opens_row ht hc h hf
  simp only [Value.cells, List.cons.injEq, and_true] at e
  exact ⟨A, c, l, e, r⟩
theorem opens_arg_struct {α : Type} {P : Program} {d : Kd α} {q : α → Prop} {t : TypeId} {fs : Array Field} (ht : P.underlying t = some (.struct fs)) (h : Opens P d q t) {H : Type} {enc : TypeId × Value → H} {w : World} {b base : Nat} {spare : Nat → Bool} {held : Bool} {v : Value} {x : DataW H} {p : List MemPlace}
    (hv : Value.okWide P w .any b t v) (hx : DataW.Trod enc P w base spare held t v x p) : ∃ cs y, v = .agg ⟨cs⟩ ∧ q y ∧ d.K w y cs := by
  obtain ⟨cs, rfl, _⟩ := Go.WideShapes.okWide_struct ht hv
  obtain ⟨fuel, hf⟩ := hx
  obtain ⟨y, hy, hk⟩ := h.out hf
  refine ⟨cs.toList, y, rfl, hy, ?_⟩
  exact hk
theorem trod_lt_of {P : Program} {H : Type} {enc : TypeId × Value → H} {w : World} {base : Nat} {spare : Nat → Bool} {held : Bool} {t : TypeId} {v : Value} {x : DataW H} {p : List MemPlace}
    (hx : DataW.Trod enc P w base spare held t v x p) : ∀ y ∈ p, y.block < w.heap.size := by obtain ⟨m, hm⟩ := hx; exact DataW.trod_lt m _ _ _ hm
end Go.Proofs.YtghlhficbibcnaaDoor
