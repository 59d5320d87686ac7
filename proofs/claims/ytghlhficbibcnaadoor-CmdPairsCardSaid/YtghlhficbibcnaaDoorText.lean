/-
  Walks: exact.Text at the small play's number.
-/
import Derived.Test.YtghlhficbibcnaaDoorFrexp
import Derived.Test.YtghlhficbibcnaaDoorCmd3
import Derived.Maps.Own
import Derived.Carry
namespace Go.Proofs.YtghlhficbibcnaaDoor
open Go Go.RowKit Fl Go.Maps

/-- A map literal's entry, into a map of the call's own. -/
theorem wpList_insert_own {H : Type} {P : Program} (w : World) {ops : Array Oper} {rest : List Oper} {o : Oper} {a : Act} {Q : Exit → Act → World → Prop}
    (hg : o.guard = none) (m x v : Operand) (t : TypeId) (hop : o.op = Op.insert t m x v)
    (k e : TypeId) (K : Keyed P k) (ht : P.underlying t = some (.map k e)) (R : Value → Option (DataW H × List MemPlace)) (b n : Nat) (D : DataW H)
    (hm : a.eval m = .map (some b)) (hown : w.ownsMap P k R b n D) (hn : n < maxLen) (key val : Value) (kl : Lit) (hx : a.eval x = key) (hv : a.eval v = val) (hkey : keyOf P k key = some kl)
    (d : DataW H) (ps : List MemPlace) (hval : R val = some (d, ps))
    (hK : ∀ w', w'.ownsMap P k R b (n + 1) (D.put kl d) → w.grownBy w' (some b) → wpList P ops Q rest (a.put o.dst undef) w') :
    wpList P ops Q (o :: rest) a w := by
  refine wpList_plain hg fun K' hK' => ?_
  obtain ⟨w', hrun, r1, r2⟩ := hown.update K ht hn hkey hval
  unfold Oper.wp
  simp [execOp, hop, hm, hx, hv, hrun, Result.andThen]
  exact hK' _ _ (hK w' r1 r2)
theorem lawI : Keyed Tryd.prog 3 := int_keyed Tryd.underlying3
set_option maxRecDepth 100000 in
theorem names_play (w : World) : Calls Tryd.prog 62 #[] w fun e w' => e = .returned (.map (some w.heap.size)) ∧ Below w.heap.size w w' ∧ ∃ D : DataW Unit, w'.ownsMap Tryd.prog 3 (plainElem Tryd.prog 9) w.heap.size 5 D ∧ D.atKey (.int .i64 5) .nil = .nil := by
  have hmm := @run_makeMap Tryd.prog
  have hown := World.ownsMap_made (H := Unit) w Tryd.prog 3 (plainElem Tryd.prog 9)
  have hb : Below w.heap.size w (w.alloc (.map #[] 0)) := (Below.refl _ _).alloc (Nat.le_refl _) _
  go_enter Tryd.func62, Tryd.ntmps62
  go_wp2_with (first | (refine wpList_insert_own _ rfl _ _ _ 85 rfl 3 9 lawI Tryd.underlying85 (plainElem Tryd.prog 9) w.heap.size _ _ rfl hown (by decide) _ _ _ rfl rfl (keyOf_int_mk Tryd.underlying3 (by decide)) _ [] (plainElem_string Tryd.underlying9 (by decide)) ?_; intro w1 hown1 hgrow1; have hb1 := hb.grown hgrow1 hb.size (fun j hj => by cases hj; exact Nat.le_refl _); clear hgrow1 hb hown; have hown := hown1; have hb := hb1; clear hown1 hb1))
  go_ret
  exact ⟨rfl, hb, _, hown, by kernel_rfl⟩
end Go.Proofs.YtghlhficbibcnaaDoor
