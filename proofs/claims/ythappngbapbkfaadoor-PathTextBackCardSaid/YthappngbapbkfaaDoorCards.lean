/-
  DERIVED. GIVEN WITH THE SEED: THE CARDS: each row of YthappngbapbkfaaDoorRows.lean that lists a variable, with what it lists TIED to the program's text (the seventh form; the later family's looks); each row that meets fmt, with fmt's text TOLD by the authors' own Lean function (tested against real Go, not proved from fmt's source: count such statements apart). THE CARD IS WHAT COUNTS. Prove the row's statement (the work); the ties are given (YthappngbapbkfaaDoorTie.lean); close each card by the builder's one call (the guide's Derived/Test/ToyasCard.lean, 'card_holds'). Laid BY PROGRAM, IN A SANDBOX (cutbox-door.mjs). By AI agents, Wed Nov 11 2026. No macro, syntax, notation, axiom, sorry.
-/
import Derived.Test.YthappngbapbkfaaDoorRows
import GoSem.ClaimSeven
namespace Go.Proofs.YthappngbapbkfaaDoor
namespace Rows

/-- THE TIED CARD OF 'printworkskeep1.PathTextBack'. -/
def pathTextBackCard : Claim7 := { stood := { row := pathTextBackRow, standIns := [], harness := (true, "e430b2195d9a0ec48b7a8df38413c772fe3bd2b9a7bfe2ab71f323812c25c128"), looks := false }, kinds := [], alts := [], laidByText := true, laidKinds := [.data, .data, .data, .data, .pinned], laidTests := true, laidLooks := .later }
def PathTextBackCardSaid : Prop := Claim7.holds Tryd.pinned (.plain (OpenSpec.ofChange pathTextBackSpec)) pathTextBackCard

/-- THE SECOND FORM's CARD OF 'printworkskeep1.PathTextBack'. -/
def pathTextBackUptoCard : Claim7 := { stood := { row := pathTextBackUptoRow, standIns := [], harness := (true, "e430b2195d9a0ec48b7a8df38413c772fe3bd2b9a7bfe2ab71f323812c25c128"), looks := false }, kinds := [], alts := [], laidByText := true, laidKinds := [.data, .data, .data, .data, .pinned], laidTests := true, laidLooks := .later }
def PathTextBackUptoCardSaid : Prop := Claim7.holds Tryd.pinned (.plain (OpenSpec.upto pathTextBackSpec)) pathTextBackUptoCard
end Rows
end Go.Proofs.YthappngbapbkfaaDoor
