/-
  Walk: ident.Sorted: the ids in order, each once, in new memory.
-/
import Derived.Test.YtghlhficbibcnaaDoorIdCompact
import Derived.Shelf.SlSortCmp.NoneTotal
import Derived.Ground.SlsfProg
namespace Go.Proofs.YtghlhficbibcnaaDoor
open Go.RowKit Go.Sort Go.Shelf Pl
open Go.Proofs.YtghlhficbibcnaaDoorW.PrintWords

def Tryd.sortId_ren : Go.Shelf.Ren := ⟨fun | 6 => 30 | 15 => 52 | 14 => 51 | 28 => 79 | 29 => 80 | 20 => 71 | 21 => 72 | 22 => 73 | 23 => 74 | 24 => 75 | 25 => 76 | 26 => 77 | 27 => 78 | 46 => 97 | 47 => 98 | 48 => 99 | 49 => 100 | 50 => 101 | 57 => 121 | n => n, fun | 22 => 28 | 24 => 30 | 25 => 46 | 3 => 3 | 39 => 73 | 0 => 0 | 53 => 102 | 55 => 55 | 4 => 4 | 46 => 95 | 45 => 94 | 50 => 99 | 5 => 5 | 9 => 9 | 66 => 114 | 70 => 118 | 76 => 135 | 77 => 136 | n => n, fun | n => n⟩
theorem Tryd.sortId : Go.Proofs.SlLaysF0.n6 Tryd.prog Tryd.sortId_ren := {
  mixed := by kernel_rfl
  f6 := ⟨Tryd.f30.name, by decide, Tryd.func30.trans (congrArg some (by kernel_rfl))⟩
  f14 := ⟨Tryd.f51.name, by decide, Tryd.func51.trans (congrArg some (by kernel_rfl))⟩
  f15 := Tryd.func52.trans (congrArg some (by kernel_rfl))
  f20 := ⟨Tryd.f71.name, by decide, Tryd.func71.trans (congrArg some (by kernel_rfl))⟩
  f21 := ⟨Tryd.f72.name, by decide, Tryd.func72.trans (congrArg some (by kernel_rfl))⟩
  f22 := ⟨Tryd.f73.name, by decide, Tryd.func73.trans (congrArg some (by kernel_rfl))⟩
  f23 := ⟨Tryd.f74.name, by decide, Tryd.func74.trans (congrArg some (by kernel_rfl))⟩
  f24 := ⟨Tryd.f75.name, by decide, Tryd.func75.trans (congrArg some (by kernel_rfl))⟩
  f25 := ⟨Tryd.f76.name, by decide, Tryd.func76.trans (congrArg some (by kernel_rfl))⟩
  f26 := ⟨Tryd.f77.name, by decide, Tryd.func77.trans (congrArg some (by kernel_rfl))⟩
  f27 := ⟨Tryd.f78.name, by decide, Tryd.func78.trans (congrArg some (by kernel_rfl))⟩
  f28 := Tryd.func79.trans (congrArg some (by kernel_rfl))
  f29 := Tryd.func80.trans (congrArg some (by kernel_rfl))
  f46 := ⟨Tryd.f97.name, by decide, Tryd.func97.trans (congrArg some (by kernel_rfl))⟩
  f47 := Tryd.func98.trans (congrArg some (by kernel_rfl))
  f48 := Tryd.func99.trans (congrArg some (by kernel_rfl))
  f49 := ⟨Tryd.f100.name, by decide, Tryd.func100.trans (congrArg some (by kernel_rfl))⟩
  f50 := ⟨Tryd.f101.name, by decide, Tryd.func101.trans (congrArg some (by kernel_rfl))⟩
  f57 := ⟨Tryd.f121.name, by decide, Tryd.func121.trans (congrArg some (by kernel_rfl))⟩
  t0 := Tryd.underlying0
  a0 := Tryd.isAgg0
  z0 := Tryd.sizeOf0
  v0 := Tryd.zeroValue0
  t3 := Tryd.underlying3
  a3 := Tryd.isAgg3
  z3 := Tryd.sizeOf3
  v3 := Tryd.zeroValue3
  t4 := Tryd.underlying4
  a4 := Tryd.isAgg4
  z4 := Tryd.sizeOf4
  v4 := Tryd.zeroValue4
  t5 := Tryd.underlying5
  a5 := Tryd.isAgg5
  z5 := Tryd.sizeOf5
  v5 := Tryd.zeroValue5
  t9 := Tryd.underlying9
  a9 := Tryd.isAgg9
  z9 := Tryd.sizeOf9
  v9 := Tryd.zeroValue9
  t22 := Tryd.underlying28
  a22 := Tryd.isAgg28
  z22 := Tryd.sizeOf28
  v22 := Tryd.zeroValue28
  t25 := Tryd.underlying46
  a25 := Tryd.isAgg46
  z25 := Tryd.sizeOf46
  v25 := Tryd.zeroValue46
  t39 := Tryd.underlying73
  a39 := Tryd.isAgg73
  z39 := Tryd.sizeOf73
  v39 := Tryd.zeroValue73
  t45 := Tryd.underlying94
  a45 := Tryd.isAgg94
  z45 := Tryd.sizeOf94
  v45 := Tryd.zeroValue94
  t46 := Tryd.underlying95
  a46 := Tryd.isAgg95
  z46 := Tryd.sizeOf95
  v46 := Tryd.zeroValue95
  t50 := Tryd.underlying99
  a50 := Tryd.isAgg99
  z50 := Tryd.sizeOf99
  v50 := Tryd.zeroValue99
  t53 := Tryd.underlying102
  a53 := Tryd.isAgg102
  z53 := Tryd.sizeOf102
  v53 := Tryd.zeroValue102
  t55 := Tryd.underlying55
  a55 := Tryd.isAgg55
  z55 := Tryd.sizeOf55
  v55 := Tryd.zeroValue55
  t66 := Tryd.underlying114
  a66 := Tryd.isAgg114
  z66 := Tryd.sizeOf114
  v66 := Tryd.zeroValue114
  t70 := Tryd.underlying118
  a70 := Tryd.isAgg118
  z70 := Tryd.sizeOf118
  v70 := Tryd.zeroValue118
  t76 := Tryd.underlying135
  a76 := Tryd.isAgg135
  z76 := Tryd.sizeOf135
  v76 := Tryd.zeroValue135
  t77 := Tryd.underlying136
  a77 := Tryd.isAgg136
  z77 := Tryd.sizeOf136
  v77 := Tryd.zeroValue136 }

theorem isAggId : ∀ w, (isAgg 30).run Tryd.prog w = .ok true w := fun w => by kernel_rfl
theorem sizeOfId : ∀ w, (Go.sizeOf 30).run Tryd.prog w = .ok 2 w := fun w => by kernel_rfl

theorem ltOf_cmp (a b : Idt) : ltOf cmp a b = lt a b := by
  unfold ltOf
  by_cases h : lt a b = true
  · simp [h, cmp_neg]
  · simp [h, cmp_neg]
theorem swo_cmp : SWO (ltOf cmp) where
  irrefl x := by rw [ltOf_cmp, lt_irrefl]
  trans x y z h1 h2 := by rw [ltOf_cmp] at *; exact lt_trans h1 h2
  ntrans x y z h1 h2 := by rw [ltOf_cmp] at *; rw [lt_false] at *; omega

theorem flatK_fl (l : List Idt) : flatK idc 2 l.toArray = (fl l).toArray := by
  apply Array.ext
  · simp [fl_length]
  · intro t h1 h2
    have h3 : t < l.length * 2 := by simpa using h1
    have hd : t / 2 < l.length := by omega
    have e : (flatK idc 2 l.toArray)[t] = (idc l.toArray[t / 2]!)[t % 2]! := by
      rw [← getElem!_pos _ t h1]
      exact get_flatK idc 2 l.toArray t (by simpa using h3)
    rw [e]
    have hx : l.toArray[t / 2]! = l.getD (t / 2) default := by simp [List.getD_eq_getElem?_getD, hd]
    rw [hx]
    have hm : t % 2 = 0 ∨ t % 2 = 1 := by omega
    simp only [List.getElem_toArray]
    apply Option.some.inj
    rw [← List.getElem?_eq_getElem]
    rcases hm with hm | hm
    · rw [hm]
      have := fl_get0 l (t / 2) hd
      rw [show t / 2 * 2 = t by omega] at this
      rw [this]; rfl
    · rw [hm]
      have := fl_get1 l (t / 2) hd
      rw [show t / 2 * 2 + 1 = t by omega] at this
      rw [this]; rfl

theorem holds_own {w : World} {base g cap : Nat} {l : List Idt} (h : w.ownsRow base 30 2 (.slice (some ⟨g, 0, none⟩) l.length cap) l.length (fl l)) : HoldsK idc 2 w g 0 l.toArray := by
  unfold HoldsK
  rw [flatK_fl]
  intro j hj
  have hj' : j < (fl l).length := by simpa using hj
  refine ⟨?_, by simpa using row_free h j⟩
  rw [Nat.zero_add, h.cellAt j (by rw [fl_length] at hj'; omega), List.getElem?_eq_getElem hj']
  simp [hj']
theorem own_sorted {w : World} {base g cap : Nat} {l k : List Idt} (h : w.ownsRow base 30 2 (.slice (some ⟨g, 0, none⟩) l.length cap) l.length (fl l)) (hl : k.length = l.length) (n : Nat) (os : Array Obj) :
    (sortWorldK idc 2 w g 0 n k.toArray os).ownsRow base 30 2 (.slice (some ⟨g, 0, none⟩) k.length cap) k.length (fl k) ∧ w.grownBy (sortWorldK idc 2 w g 0 n k.toArray os) (some g) := by
  rcases h.2 with ⟨h', _⟩ | ⟨g', cap', cur, h', hb, hg, hnc, hcm, hcs, ht⟩
  · simp at h'
  simp only [Value.slice.injEq, Option.some.injEq, Addr.mk.injEq, and_true, true_and] at h'
  obtain ⟨rfl, rfl⟩ := h'
  have hlt : g < w.heap.size := (Array.getElem?_eq_some_iff.1 hg).1
  have hw : sortWorldK idc 2 w g 0 n k.toArray os = grow (putRow id (Sort.ahead w n) g 0 (fl k).toArray) os := by unfold sortWorldK putRowK; rw [flatK_fl]
  rw [hw]
  have hg' : (grow (putRow id (Sort.ahead w n) g 0 (fl k).toArray) os).heap[g]? = some (.cells (putCells id 0 (fl k).toArray cur) 30 (0, 0)) := by
    rw [heap_grow_old _ _ (by simpa using hlt)]
    simp [putRow, mapBlock, Sort.ahead, Array.getElem?_modify, hg, onCells]
  refine ⟨⟨fl_length k, .inr ⟨g, cap, _, rfl, hb, hg', by omega, hcm, by simp [putCells, hcs], ?_⟩⟩, rfl, rfl, rfl, by simp, fun j hj hne => ?_⟩
  · have hfl : (fl k).length = k.length * 2 := fl_length k
    apply List.ext_getElem?
    intro j
    by_cases hj : j < k.length * 2
    · rw [List.getElem?_take_of_lt hj, Array.getElem?_toList]
      have hjc : j < cur.size := by omega
      simp [putCells, hfl, hj, hjc]
    · rw [List.getElem?_take_eq_none (by omega), List.getElem?_eq_none (by omega)]
  · rw [heap_grow_old _ _ (by simpa using hj)]
    have : g ≠ j := fun e => hne (by rw [e])
    simp [putRow, mapBlock, Sort.ahead, Array.getElem?_modify, this]

/-- What the call comes to. -/
def SortedPost (l : List Idt) (w : World) (e : Ending) (w' : World) : Prop :=
  ∃ v, e = .returned v ∧ w'.ownsRow w.heap.size 30 2 v (sorted l).length (fl (sorted l)) ∧ Below w.heap.size w w'

theorem sort_any (l : List Idt) (v : Value) (base : Nat) (w : World) (h : w.ownsRow base 30 2 v l.length (fl l)) (hm : l.length < 4611686018427387904) :
    Calls Tryd.prog 30 #[v, .func (.func 29) #[] #[]] w fun e w' => e = .returned (.tuple #[]) ∧ ∃ k : List Idt, k.Perm l ∧ k.Pairwise (fun a b => lt b a = false) ∧ w'.ownsRow base 30 2 v k.length (fl k) ∧ w.grownBy w' v.ownBlock := by
  by_cases h0 : l.length = 0
  · have hl : l = [] := List.eq_nil_of_length_eq_zero h0
    subst hl
    have hs : ∃ p c, v = .slice p 0 c := by
      rcases h.2 with ⟨rfl, _⟩ | ⟨g, cap, cur, rfl, _⟩
      · exact ⟨_, _, rfl⟩
      · exact ⟨_, _, rfl⟩
    obtain ⟨p, c, rfl⟩ := hs
    have hcon := AnyF.slices_SortFunc_none Tryd.sortId p c (.func (.func 29) #[] #[]) w
    change Calls Tryd.prog 30 _ _ _ at hcon
    refine hcon.mono fun e w' ⟨he, hw⟩ => ⟨he, [], List.Perm.refl _, by simp, ?_, ?_⟩
    · rw [hw]; exact h
    · rw [hw]; exact ⟨rfl, rfl, rfl, Nat.le_refl _, fun _ _ _ => rfl⟩
  · obtain ⟨g, cap, rfl⟩ : ∃ g cap, v = .slice (some ⟨g, 0, none⟩) l.length cap := by
      rcases h.2 with ⟨_, h'⟩ | ⟨g, cap, cur, rfl, _⟩
      · exact absurd h' h0
      · exact ⟨_, _, rfl⟩
    have hlt : g < w.heap.size := (h.lt g rfl).2
    have eg : ∀ args w, (callFunc 29 args).run Tryd.prog w = .ok (.enter 29 args) w := enters_of Tryd.func29 (by kernel_rfl) rfl
    have hcon := AnyQ.slices_SortFunc Tryd.sortId 2 isAggId sizeOfId idc (fun _ => rfl) (fun x v hv => by simp [idc] at hv; rcases hv with rfl | rfl <;> rfl) cmp swo_cmp 29 #[] g 0 cap l.toArray w eg
      (fun _ _ _ _ x y => compare_any x y _) (holds_own h) hlt (by simpa using hm)
    change Calls Tryd.prog 30 _ _ _ at hcon
    refine hcon.mono fun e w' ⟨he, d', n, os, hp, hs, hw⟩ => ?_
    obtain ⟨hsz, _, hp⟩ := hp
    have hsz' : d'.toList.length = l.length := by simpa using hsz
    have hpl : d'.toList.Perm l := by
      have e1 : d'.extract 0 l.toArray.size = d' := by rw [← hsz]; simp
      have e2 : l.toArray.extract 0 l.toArray.size = l.toArray := by simp
      rw [e1, e2] at hp
      simpa using hp
    obtain ⟨o1, o2⟩ := own_sorted h hsz' n os
    have hda : d'.toList.toArray = d' := by simp
    rw [hda] at o1 o2
    refine ⟨he, d'.toList, hpl, ?_, ?_, ?_⟩
    · rw [List.pairwise_iff_getElem]
      intro i j hi hj hij
      have h1 := hs i j (Nat.zero_le _) hij (by rw [← hsz]; simpa using hj)
      rw [ltOf_cmp] at h1
      have hi' : i < d'.size := by simpa using hi
      have hj' : j < d'.size := by simpa using hj
      rw [getElem!_pos d' i hi', getElem!_pos d' j hj'] at h1
      simpa using h1
    · rw [hw, ← hsz']; exact o1
    · rw [hw]; exact o2
end Go.Proofs.YtghlhficbibcnaaDoor
