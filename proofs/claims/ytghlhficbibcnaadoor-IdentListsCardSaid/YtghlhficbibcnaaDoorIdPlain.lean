/-
  Plain facts on ids and lists of ids: the order, rising lists, insertion, sorting, compacting. No program.
-/
import Derived.Test.YtghlhficbibcnaaDoorPIdentListsx0
namespace Go.Proofs.YtghlhficbibcnaaDoor
namespace Pl

abbrev Idt := PIdentLists.S30
instance : DecidableEq Idt := fun a b => decidable_of_iff (a.f0 = b.f0 ∧ a.f1 = b.f1) (by cases a; cases b; simp)
instance : Inhabited Idt := ⟨⟨0, 0⟩⟩
theorem id_ext {a b : Idt} (h : a.f0 = b.f0) (k : a.f1 = b.f1) : a = b := by cases a; cases b; simp_all

def lt (a b : Idt) : Bool := if a.f0 = b.f0 then decide (a.f1 < b.f1) else decide (a.f0 < b.f0)

theorem lt_iff {a b : Idt} : lt a b = true ↔ a.f0 < b.f0 ∨ a.f0 = b.f0 ∧ a.f1 < b.f1 := by
  unfold lt
  split
  · rename_i h; simp [h]
  · rename_i h
    simp only [decide_eq_true_eq]
    omega
theorem lt_false {a b : Idt} : lt a b = false ↔ b.f0 < a.f0 ∨ a.f0 = b.f0 ∧ b.f1 ≤ a.f1 := by
  rw [← Bool.not_eq_true, lt_iff]; omega
theorem lt_irrefl (a : Idt) : lt a a = false := by rw [lt_false]; omega
theorem lt_trans {a b c : Idt} (h : lt a b = true) (k : lt b c = true) : lt a c = true := by rw [lt_iff] at *; omega
theorem lt_asymm {a b : Idt} (h : lt a b = true) : lt b a = false := by rw [lt_iff] at h; rw [lt_false]; omega
theorem eq_of_not {a b : Idt} (h : lt a b = false) (k : lt b a = false) : a = b := by
  rw [lt_false] at h k
  exact id_ext (by omega) (by omega)
theorem lt_ne {a b : Idt} (h : lt a b = true) : a ≠ b := fun e => by rw [e, lt_irrefl] at h; cases h

/-- The comparison's number. -/
def cmp (a b : Idt) : Int := if lt a b then -1 else if lt b a then 1 else 0
theorem cmp_neg {a b : Idt} : cmp a b < 0 ↔ lt a b = true := by
  unfold cmp
  by_cases h : lt a b = true
  · simp [h]
  · by_cases k : lt b a = true <;> simp [h, k]
theorem cmp_nonneg {a b : Idt} : 0 ≤ cmp a b ↔ lt a b = false := by
  rw [← Int.not_lt, cmp_neg, Bool.not_eq_true]

/-- Strictly rising. -/
def Rise (l : List Idt) : Prop := l.Pairwise (fun a b => lt a b = true)
instance (l : List Idt) : Decidable (Rise l) := by unfold Rise; exact inferInstance

/-- A rising list is told by its members. -/
theorem rise_unique : ∀ {l k : List Idt}, Rise l → Rise k → (∀ x, x ∈ l ↔ x ∈ k) → l = k
  | [], [], _, _, _ => rfl
  | [], y :: _, _, _, h => absurd ((h y).2 (by simp)) (by simp)
  | x :: _, [], _, _, h => absurd ((h x).1 (by simp)) (by simp)
  | x :: l, y :: k, hl, hk, h => by
    obtain ⟨hx, hl2⟩ := List.pairwise_cons.1 hl
    obtain ⟨hy, hk2⟩ := List.pairwise_cons.1 hk
    have e : x = y := by
      rcases List.mem_cons.1 ((h x).1 (by simp)) with e | e
      · exact e
      · rcases List.mem_cons.1 ((h y).2 (by simp)) with e' | e'
        · exact e'.symm
        · exact absurd (lt_trans (hy x e) (hx y e')) (by simp [lt_irrefl])
    subst e
    refine congrArg _ (rise_unique hl2 hk2 (fun z => ?_))
    constructor
    · intro hz
      rcases List.mem_cons.1 ((h z).1 (by simp [hz])) with e | e
      · exact absurd (hx z hz) (by rw [e, lt_irrefl]; simp)
      · exact e
    · intro hz
      rcases List.mem_cons.1 ((h z).2 (by simp [hz])) with e | e
      · exact absurd (hy z hz) (by rw [e, lt_irrefl]; simp)
      · exact e

/-- Insertion ahead of the first that is greater. -/
def ins (x : Idt) : List Idt → List Idt
  | [] => [x]
  | y :: r => if lt x y then x :: y :: r else y :: ins x r
def put (l : List Idt) (x : Idt) : List Idt := if x ∈ l then l else ins x l
def sorted (l : List Idt) : List Idt := l.foldl put []

theorem mem_ins {x z : Idt} : ∀ {l : List Idt}, z ∈ ins x l ↔ z = x ∨ z ∈ l
  | [] => by simp [ins]
  | y :: r => by
    unfold ins
    split
    · simp
    · rw [List.mem_cons, mem_ins (l := r), List.mem_cons]
      constructor <;> (intro h; rcases h with h | h | h <;> simp [h])
theorem mem_put {x z : Idt} {l : List Idt} : z ∈ put l x ↔ z = x ∨ z ∈ l := by
  unfold put
  split
  · rename_i h
    constructor
    · exact Or.inr
    · rintro (rfl | h')
      · exact h
      · exact h'
  · exact mem_ins
theorem rise_ins {x : Idt} : ∀ {l : List Idt}, Rise l → x ∉ l → Rise (ins x l)
  | [], _, _ => by simp [ins, Rise]
  | y :: r, h, hx => by
    obtain ⟨hy, hr⟩ := List.pairwise_cons.1 h
    unfold ins
    split
    · rename_i hxy
      refine List.pairwise_cons.2 ⟨fun z hz => ?_, h⟩
      rcases List.mem_cons.1 hz with rfl | hz
      · exact hxy
      · exact lt_trans hxy (hy z hz)
    · rename_i hxy
      refine List.pairwise_cons.2 ⟨fun z hz => ?_, rise_ins hr (fun hm => hx (by simp [hm]))⟩
      rcases mem_ins.1 hz with rfl | hz
      · rcases Bool.eq_false_or_eq_true (lt y z) with e | e
        · exact e
        · exact absurd (eq_of_not e (by simpa using hxy)) (fun e => hx (by simp [e]))
      · exact hy z hz
theorem rise_put {x : Idt} {l : List Idt} (h : Rise l) : Rise (put l x) := by
  unfold put
  split
  · exact h
  · exact rise_ins h (by assumption)
theorem sorted_snoc (l : List Idt) (x : Idt) : sorted (l ++ [x]) = put (sorted l) x := by simp [sorted]
theorem mem_foldl_put {z : Idt} : ∀ {l acc : List Idt}, z ∈ l.foldl put acc ↔ z ∈ acc ∨ z ∈ l
  | [], _ => by simp
  | x :: r, acc => by
    rw [List.foldl_cons, mem_foldl_put (l := r), mem_put, List.mem_cons, or_comm (a := z = x), or_assoc]
theorem mem_sorted {z : Idt} {l : List Idt} : z ∈ sorted l ↔ z ∈ l := by simp [sorted, mem_foldl_put]
theorem rise_foldl_put : ∀ {l acc : List Idt}, Rise acc → Rise (l.foldl put acc)
  | [], _, h => h
  | _ :: r, _, h => rise_foldl_put (l := r) (rise_put h)
theorem rise_sorted (l : List Idt) : Rise (sorted l) := rise_foldl_put (by simp [Rise])
theorem sorted_of_rise {l : List Idt} (h : Rise l) : sorted l = l := rise_unique (rise_sorted l) h (fun _ => mem_sorted)
theorem sorted_congr {l k : List Idt} (h : ∀ x, x ∈ l ↔ x ∈ k) : sorted l = sorted k :=
  rise_unique (rise_sorted l) (rise_sorted k) (fun x => by rw [mem_sorted, mem_sorted, h])
theorem put_length (l : List Idt) (x : Idt) : (put l x).length ≤ l.length + 1 := by
  have h : ∀ l : List Idt, (ins x l).length = l.length + 1 := by
    intro l
    induction l with
    | nil => rfl
    | cons y r ih => unfold ins; split <;> simp [ih]
  unfold put
  split
  · omega
  · rw [h]; omega
theorem sorted_length (l : List Idt) : (sorted l).length ≤ l.length := by
  have h : ∀ (l acc : List Idt), (l.foldl put acc).length ≤ acc.length + l.length := by
    intro l
    induction l with
    | nil => intro acc; simp
    | cons x r ih => intro acc; have := ih (put acc x); have := put_length acc x; simp only [List.foldl_cons, List.length_cons]; omega
  simpa [sorted] using h l []

/-- The insertion as a loop goes: what is out, and whether the new one is. -/
def pst (x : Idt) (s : List Idt × Bool) (y : Idt) : List Idt × Bool := if s.2 then (s.1 ++ [y], true) else if lt x y then (s.1 ++ [x] ++ [y], true) else (s.1 ++ [y], false)
def pto (x : Idt) (l : List Idt) : List Idt × Bool := l.foldl (pst x) ([], false)
theorem pst_true (x : Idt) : ∀ (l a : List Idt), l.foldl (pst x) (a, true) = (a ++ l, true)
  | [], a => by simp
  | y :: r, a => by rw [List.foldl_cons]; simp only [pst, if_true]; rw [pst_true x r]; simp
theorem pst_false (x : Idt) : ∀ (l a : List Idt), (if (l.foldl (pst x) (a, false)).2 then (l.foldl (pst x) (a, false)).1 else (l.foldl (pst x) (a, false)).1 ++ [x]) = a ++ ins x l
  | [], a => by simp [ins]
  | y :: r, a => by
    rw [List.foldl_cons]
    unfold ins
    by_cases h : lt x y = true
    · simp only [pst, h, if_true, Bool.false_eq_true, if_false]
      rw [pst_true]; simp
    · simp only [pst, h, if_false, Bool.false_eq_true]
      rw [pst_false x r]; simp
theorem pto_done (x : Idt) (l : List Idt) : (if (pto x l).2 then (pto x l).1 else (pto x l).1 ++ [x]) = ins x l := by
  have := pst_false x l []
  rw [List.nil_append] at this
  exact this
theorem pto_snoc (x : Idt) (l : List Idt) (y : Idt) : pto x (l ++ [y]) = pst x (pto x l) y := by simp [pto]
theorem pto_length (x : Idt) (l : List Idt) : (pto x l).1.length ≤ l.length + 1 ∧ ((pto x l).2 = false → (pto x l).1.length = l.length) := by
  have h : ∀ (l a : List Idt) (b : Bool), (l.foldl (pst x) (a, b)).1.length ≤ a.length + l.length + (if b then 0 else 1) ∧ ((l.foldl (pst x) (a, b)).2 = false → b = false ∧ (l.foldl (pst x) (a, b)).1.length = a.length + l.length) := by
    intro l
    induction l with
    | nil => intro a b; cases b <;> simp
    | cons y r ih =>
      intro a b
      rw [List.foldl_cons]
      cases b with
      | true =>
        simp only [pst, if_true]
        have h1 := ih (a ++ [y]) true
        simp only [List.length_append, List.length_cons, List.length_nil, if_true] at h1 ⊢
        exact ⟨by omega, fun h => absurd (h1.2 h).1 (by simp)⟩
      | false =>
        by_cases h : lt x y = true
        · simp only [pst, h, if_true, Bool.false_eq_true, if_false]
          have h1 := ih (a ++ [x] ++ [y]) true
          simp only [List.length_append, List.length_cons, List.length_nil, if_true] at h1 ⊢
          exact ⟨by omega, fun h => absurd (h1.2 h).1 (by simp)⟩
        · simp only [pst, h, if_false, Bool.false_eq_true]
          have h1 := ih (a ++ [y]) false
          simp only [List.length_append, List.length_cons, List.length_nil, Bool.false_eq_true, if_false] at h1 ⊢
          exact ⟨by omega, fun h => ⟨by simp, by have := (h1.2 h).2; omega⟩⟩
  have := h l [] false
  simp only [List.length_nil, Bool.false_eq_true, if_false, Nat.zero_add] at this
  exact ⟨this.1, fun hf => (this.2 hf).2⟩

/-- Runs of one id made one. -/
def stepc (acc : List Idt) (x : Idt) : List Idt := if acc.getLast? = some x then acc else acc ++ [x]
def compact (l : List Idt) : List Idt := l.foldl stepc []
theorem compact_snoc (l : List Idt) (x : Idt) : compact (l ++ [x]) = stepc (compact l) x := by simp [compact]
theorem last_stepc (acc : List Idt) (x : Idt) : (stepc acc x).getLast? = some x := by
  unfold stepc
  split
  · assumption
  · simp
theorem compact_snoc_snoc (l : List Idt) (x y : Idt) : compact (l ++ [x] ++ [y]) = if x = y then compact (l ++ [x]) else compact (l ++ [x]) ++ [y] := by
  rw [compact_snoc (l ++ [x]) y]
  conv => lhs; unfold stepc
  rw [compact_snoc, last_stepc]
  by_cases h : x = y <;> simp [h]
theorem take_succ' (d : List Idt) (t : Nat) (h : t < d.length) : d.take (t + 1) = d.take t ++ [d.getD t default] := by
  rw [List.take_succ_eq_append_getElem h, List.getD_eq_getElem?_getD, List.getElem?_eq_getElem h, Option.getD_some]
theorem compact_take (d : List Idt) (t : Nat) (h : t + 1 < d.length) :
    compact (d.take (t + 2)) = if d.getD t default = d.getD (t + 1) default then compact (d.take (t + 1)) else compact (d.take (t + 1)) ++ [d.getD (t + 1) default] := by
  rw [take_succ' d (t + 1) h, take_succ' d t (by omega), compact_snoc_snoc]
theorem mem_stepc {acc : List Idt} {x z : Idt} : z ∈ stepc acc x ↔ z ∈ acc ∨ z = x := by
  unfold stepc
  split
  · rename_i h
    have hx : x ∈ acc := List.mem_of_getLast? h
    constructor
    · exact Or.inl
    · rintro (h' | rfl)
      · exact h'
      · exact hx
  · simp
theorem mem_foldl_stepc {z : Idt} : ∀ {l acc : List Idt}, z ∈ l.foldl stepc acc ↔ z ∈ acc ∨ z ∈ l
  | [], _ => by simp
  | x :: r, acc => by
    rw [List.foldl_cons, mem_foldl_stepc (l := r), mem_stepc, List.mem_cons, or_assoc]
theorem mem_compact {z : Idt} {l : List Idt} : z ∈ compact l ↔ z ∈ l := by simp [compact, mem_foldl_stepc]
/-- Of a list in order, it rises. -/
theorem rise_foldl_stepc : ∀ {l acc : List Idt}, Rise acc → l.Pairwise (fun a b => lt b a = false) → (∀ a ∈ acc, ∀ b ∈ l, lt b a = false) → Rise (l.foldl stepc acc)
  | [], _, h, _, _ => h
  | x :: r, acc, h, hl, ha => by
    obtain ⟨hx, hr⟩ := List.pairwise_cons.1 hl
    refine rise_foldl_stepc (l := r) ?_ hr ?_
    · unfold stepc
      split
      · exact h
      · rename_i hne
        refine List.pairwise_append.2 ⟨h, by simp, fun a ha' b hb => ?_⟩
        obtain rfl := List.mem_singleton.1 hb
        rcases Bool.eq_false_or_eq_true (lt a b) with e | e
        · exact e
        · exfalso
          have hab : a = b := eq_of_not e (ha a ha' b (by simp))
          subst hab
          rcases List.eq_nil_or_concat acc with h0 | ⟨l0, c, h0⟩
          · rw [h0] at ha'; simp at ha'
          · rw [List.concat_eq_append] at h0
            subst h0
            apply hne
            rw [List.getLast?_append]
            simp only [List.getLast?_singleton, Option.some_or, Option.some.injEq]
            rcases List.mem_append.1 ha' with h1 | h1
            · have h2 := (List.pairwise_append.1 h).2.2 a h1 c (by simp)
              have h3 := ha c (by simp) a (by simp)
              rw [h2] at h3; cases h3
            · exact (List.mem_singleton.1 h1).symm
    · intro a ha' b hb
      rcases mem_stepc.1 ha' with h1 | rfl
      · exact ha a h1 b (by simp [hb])
      · exact hx b hb
theorem rise_compact {l : List Idt} (h : l.Pairwise (fun a b => lt b a = false)) : Rise (compact l) :=
  rise_foldl_stepc (by simp [Rise]) h (by simp)
/-- Sorted and compacted: the sorted list. -/
theorem compact_sorted {l k : List Idt} (hp : k.Perm l) (h : k.Pairwise (fun a b => lt b a = false)) : compact k = sorted l :=
  rise_unique (rise_compact h) (rise_sorted l) (fun x => by rw [mem_compact, mem_sorted, hp.mem_iff])
theorem compact_length (l : List Idt) : (compact l).length ≤ l.length := by
  have h : ∀ (l acc : List Idt), (l.foldl stepc acc).length ≤ acc.length + l.length := by
    intro l
    induction l with
    | nil => intro acc; simp
    | cons x r ih =>
      intro acc
      have := ih (stepc acc x)
      have : (stepc acc x).length ≤ acc.length + 1 := by unfold stepc; split <;> simp
      simp only [List.foldl_cons, List.length_cons]; omega
  simpa [compact] using h l []

/-- Adjacent ones rise: as the program looks. -/
theorem rise_iff_adj (l : List Idt) : Rise l ↔ ∀ i, i + 1 < l.length → lt (l.getD i default) (l.getD (i + 1) default) = true := by
  induction l with
  | nil => simp [Rise]
  | cons x r ih =>
    cases r with
    | nil => simp [Rise]
    | cons y r =>
      constructor
      · intro h i hi
        obtain ⟨hx, hr⟩ := List.pairwise_cons.1 h
        cases i with
        | zero => simpa using hx y (by simp)
        | succ i => simpa using (ih.1 hr) i (by simpa using hi)
      · intro h
        have hr : Rise (y :: r) := ih.2 (fun i hi => by simpa using h (i + 1) (by simpa using hi))
        refine List.pairwise_cons.2 ⟨fun z hz => ?_, hr⟩
        have hxy : lt x y = true := by simpa using h 0 (by simp)
        rcases List.mem_cons.1 hz with rfl | hz
        · exact hxy
        · exact lt_trans hxy ((List.pairwise_cons.1 hr).1 z hz)

end Pl
end Go.Proofs.YtghlhficbibcnaaDoor
