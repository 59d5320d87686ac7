/-
  DERIVED. GIVEN WITH THE SEED: THE CARDS: each row of YtghlhficbibcnaaDoorRows.lean that lists a variable, with what it lists TIED to the program's text (the seventh form; the later family's looks); each row that meets fmt, with fmt's text TOLD by the authors' own Lean function (tested against real Go, not proved from fmt's source: count such statements apart). THE CARD IS WHAT COUNTS. Prove the row's statement (the work); the ties are given (YtghlhficbibcnaaDoorTie.lean); close each card by the builder's one call (the guide's Derived/Test/ToyasCard.lean, 'card_holds'). Laid BY PROGRAM, IN A SANDBOX (cutbox-door.mjs). By AI agents, Wed Nov 11 2026. No macro, syntax, notation, axiom, sorry.
-/
import Derived.Test.YtghlhficbibcnaaDoorRows
import GoSem.ClaimSeven
namespace Go.Proofs.YtghlhficbibcnaaDoor
namespace Rows

/-- THE TIED CARD OF 'cortegelaw06.CmdPairs'. -/
def cmdPairsCard : Claim7 := { stood := { row := cmdPairsRow, standIns := [], harness := (true, "d93b9ac57a63c1d4b63e989caeee6c58eb9cafa602e5b601582db8319bbf3136"), looks := true }, kinds := [], alts := [], laidByText := true, laidKinds := [.data, .data, .data, .data, .sentinel, .sentinel, .pinned], laidTests := true, laidLooks := .later }
def CmdPairsCardSaid : Prop := Claim7.holds Tryd.pinned (.plain (OpenSpec.ofChange cmdPairsSpec)) cmdPairsCard

/-- THE TIED CARD OF 'cortegelaw03.IdentLists'. -/
def identListsCard : Claim7 := { stood := { row := identListsRow, standIns := [], harness := (true, "d93b9ac57a63c1d4b63e989caeee6c58eb9cafa602e5b601582db8319bbf3136"), looks := true }, kinds := [], alts := [], laidByText := true, laidKinds := [.data, .data, .data, .sentinel, .sentinel], laidTests := true, laidLooks := .later }
def IdentListsCardSaid : Prop := Claim7.holds Tryd.pinned (.plain (OpenSpec.ofChange identListsSpec)) identListsCard

/-- THE SECOND FORM's CARD OF 'cortegelaw06.CmdPairs'. -/
def cmdPairsUptoCard : Claim7 := { stood := { row := cmdPairsUptoRow, standIns := [], harness := (true, "d93b9ac57a63c1d4b63e989caeee6c58eb9cafa602e5b601582db8319bbf3136"), looks := true }, kinds := [], alts := [], laidByText := true, laidKinds := [.data, .data, .data, .data, .sentinel, .sentinel, .pinned], laidTests := true, laidLooks := .later }
def CmdPairsUptoCardSaid : Prop := Claim7.holds Tryd.pinned (.plain (OpenSpec.upto cmdPairsSpec)) cmdPairsUptoCard

/-- THE SECOND FORM's CARD OF 'cortegelaw03.IdentLists'. -/
def identListsUptoCard : Claim7 := { stood := { row := identListsUptoRow, standIns := [], harness := (true, "d93b9ac57a63c1d4b63e989caeee6c58eb9cafa602e5b601582db8319bbf3136"), looks := true }, kinds := [], alts := [], laidByText := true, laidKinds := [.data, .data, .data, .sentinel, .sentinel], laidTests := true, laidLooks := .later }
def IdentListsUptoCardSaid : Prop := Claim7.holds Tryd.pinned (.plain (OpenSpec.upto identListsSpec)) identListsUptoCard
end Rows
end Go.Proofs.YtghlhficbibcnaaDoor
