/-
  The law IdentLists: its row and its card.
-/
import Derived.Test.YtghlhficbibcnaaDoorIdLists
import Derived.Test.YtghlhficbibcnaaDoorOpen
import Derived.Test.YtghlhficbibcnaaDoorHanded
import Derived.Test.YtghlhficbibcnaaDoorCards
import Derived.Test.YtghlhficbibcnaaDoorTie
import Derived.ProofKit
import Derived.LaidMore
import Derived.Stop.Joined
import Derived.SevenTiedAt
import Derived.Below
namespace Go.Proofs.YtghlhficbibcnaaDoor
open Go Go.ChangeShapes Go.WideShapes Go.ChangeAt Go.RowKit Pl
open Go.Proofs.YtghlhficbibcnaaDoorW.PrintWords

theorem idl_own : ownKnob Tryd.prog.godebug = none := by kernel_rfl
theorem idl_laidOut : laidOutB Tryd.prog = true := by kernel_rfl
theorem idl_opens30 : Opens Tryd.prog PIdentLists.k30 (fun _ => True) 30 := by
  have h := opens_struct (d := Kd.pair (Kd.int .i64) (Kd.int .i64)) Tryd.underlying30 (by kernel_rfl) rfl (opensFs_cons (opens_int Tryd.underlying3) rfl (by kernel_rfl) (opensFs_one (opens_int Tryd.underlying3) rfl (by kernel_rfl)))
  have := opens_iso h (f := fun x : Idt => (x.f0, x.f1)) (fun a => ⟨a.1, a.2⟩) (fun a => rfl)
  exact ⟨fun hx => by obtain ⟨y, _, hk⟩ := this.out hx; exact ⟨y, trivial, hk⟩⟩
theorem idl_door_met (os : Os) (args : Array Value) : laidMetH Tryd.prog Rows.identListsRow.laid ((World.doorLaid Tryd.prog 72 os).forCall (fun _ _ => 0) ⟨#[], args, []⟩).memory :=
  laidMetH_of_parts3 (fuel := 8) (laidMet_of_run' 8 (by kernel_rfl) (by kernel_rfl)) (by kernel_rfl) (by kernel_rfl)
theorem idl_maxLen (w : World) (h : w.ShapedOpen Tryd.prog) : ∃ m, w.cell? ⟨1, 0, none⟩ = some (.int .i64 m) :=
  cell_of_shapedOpen_int (g := 1) (t := 3) (zero := #[.int .i64 0]) h (by decide +kernel) (by kernel_rfl) rfl (by kernel_rfl) (by kernel_rfl) Tryd.underlying3

set_option maxRecDepth 100000 in
theorem idl_lifted (os : Os) (started : os.Started) (H : Type) (enc : TypeId × Value → H) :
    ReturnsInHanded {} Tryd.checked os 4 .any (fun w args => (Rows.identListsSpec.pre enc Tryd.prog Tryd.f4 [] false w args ∧ laidMetH Tryd.prog Rows.identListsRow.laid w) ∧ sizedMet enc Tryd.prog Tryd.f4 (OpenSpec.ofChange Rows.identListsSpec) false w args)
      (Rows.identListsSpec.post enc Tryd.prog Tryd.f4 false true false false) := by
  refine returnsInHanded_of_change_and_shaped (C := Tryd.checked) (X := fun w _ => laidMetH Tryd.prog Rows.identListsRow.laid w) (fun _ _ _ hh h => h.of_heap hh) idl_own started (by kernel_rfl) Tryd.func4
    (ChangeSpec.witness_shaped (enc := enc) (C := Tryd.checked) (os := os) (X := fun w _ => laidMetH Tryd.prog Rows.identListsRow.laid w) false (World.doorLaid Tryd.prog 72 os) #[.slice none 0 0, .agg #[.int .i64 0, .int .i64 0]] 8 rfl (World.shaped_of_RefB (by kernel_rfl) (by kernel_rfl)) (by kernel_rfl) (by kernel_rfl) (by kernel_rfl) (idl_door_met os _)) ?_
  intro W base args ds gs before hval0 hW _ _ _ hsh _
  have hval : ∀ (j : Nat) t v, Tryd.f4.params[j]? = some t → args[j]? = some v → Value.okWide Tryd.prog W .any base t v := hval0
  have hW' := hW
  obtain ⟨p, q, hA0, hV, rfl, hfz, hnd⟩ := hW
  have hA : DataW.TrodAll enc Tryd.prog W 0 (fun _ => true) true Tryd.f4.params.toList args.toList ds p := hA0
  rw [Tryd.params4] at hA hval
  obtain ⟨v0, v1, d0, d1, p0, p1, rfl, rfl, rfl, h0, h1⟩ := trodAll_two hA
  obtain ⟨rfl, rfl⟩ := trodVars_none hV
  obtain ⟨A, c, l, rfl, hlc, hcm, _, hC⟩ := opens_arg_slice Tryd.underlying28 (by kernel_rfl) idl_opens30 (hval 0 28 v0 rfl rfl) h0
  obtain ⟨cs, x, rfl, _, hk⟩ := opens_arg_struct Tryd.underlying30 idl_opens30 (hval 1 30 v1 rfl rfl) h1
  obtain rfl := PIdentLists.k30_open hk
  obtain ⟨m, hm⟩ := idl_maxLen W hsh
  have lt0 := trod_lt_of h0
  have lt1 := trod_lt_of h1
  clear hA0 hval0
  simp only [List.append_nil] at hW'
  refine (lists_any l x A c m W hC hm).mono fun e W' ⟨he, bel⟩ => ?_
  subst he
  exact ⟨_, rfl, _, _, _, [], _, [], hW', trodAll_mk1 (shut_bool Tryd.underlying4 _), trodAll_mk2 (Below.trod idl_laidOut (by kernel_rfl) (of_decide_eq_true (by kernel_rfl)) h0 bel lt0) (Below.trod idl_laidOut (by kernel_rfl) (of_decide_eq_true (by kernel_rfl)) h1 bel lt1), rfl, bel.frame _, fun h => by cases h⟩

theorem identLists_holds : Rows.IdentListsSaid :=
  OpenClaim.holds_of_wide 4 Tryd.f4 rfl rfl rfl rfl rfl rfl rfl ⟨rfl, rfl, rfl, rfl, rfl⟩ rfl rfl rfl rfl rfl (by kernel_rfl) Tryd.func4 (by kernel_rfl)
    (of_decide_eq_true (by kernel_rfl)) (by unfold Func.isWrapper; first | (rw [if_pos (by decide +kernel)]; kernel_rfl) | (rw [if_neg (by decide +kernel)]; exact ⟨rfl, rfl⟩))
    (fun os started H enc _ => idl_lifted os started H enc)

/-- The card: the law IdentLists, its listed variables tied to the program's text. -/
theorem identLists_card : Rows.IdentListsCardSaid :=
  Claim7.holds_tied_plain_at .later [] [.data, .data, .data, .sentinel, .sentinel] true (true, "d93b9ac57a63c1d4b63e989caeee6c58eb9cafa602e5b601582db8319bbf3136") true
    identLists_holds (fun _ h => by cases h) (by kernel_rfl) (fun _ h => by cases h) identLists_row_tie rfl ⟨rfl, rfl⟩ (by kernel_rfl) rfl
    (fun f fn hf hfn => by
      obtain rfl : f = 4 := Option.some.inj ((show Tryd.prog.funcNamed "cortege/cortegelaw03.IdentLists" = some 4 by kernel_rfl).symm.trans hf) |>.symm
      obtain rfl : fn = Tryd.f4 := (Option.some.inj (Tryd.func4.symm.trans hfn)).symm
      exact ⟨by kernel_rfl, fun j t ht => by
        rw [Tryd.params4] at ht
        have hm : t ∈ [28, 30] := by simpa using Array.mem_of_getElem? ht
        have hall : ([28, 30].all fun u => !Tryd.prog.wantsStandIn u) = true := by kernel_rfl
        exact (show Tryd.prog.wantsStandIn t = false by simpa using List.all_eq_true.1 hall t hm)⟩)
    (by kernel_rfl)
#print axioms identLists_card
end Go.Proofs.YtghlhficbibcnaaDoor
