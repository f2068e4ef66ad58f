/-
  DERIVED. GIVEN WITH THE SEED: THE CARDS: each row of YtbmgclpgompjmaaDoorRows.lean that lists a variable, with what it lists TIED to the program's text (the seventh form; the later family's looks); each row that meets fmt, with fmt's text TOLD by the authors' own Lean function (tested against real Go, not proved from fmt's source: count such statements apart). THE CARD IS WHAT COUNTS. Prove the row's statement (the work); the ties are given (YtbmgclpgompjmaaDoorTie.lean); close each card by the builder's one call (the guide's Derived/Test/ToyasCard.lean, 'card_holds'). Laid BY PROGRAM, IN A SANDBOX (cutbox-door.mjs). By AI agents, Wed Nov 11 2026. No macro, syntax, notation, axiom, sorry.
-/
import Derived.Test.YtbmgclpgompjmaaDoorRows
import GoSem.ClaimSeven
namespace Go.Proofs.YtbmgclpgompjmaaDoor
namespace Rows

/-- THE TIED CARD OF 'printworkskeep1.PathReverseTwice'. -/
def pathReverseTwiceCard : Claim7 := { stood := { row := pathReverseTwiceRow, standIns := [], harness := (true, "3d1a3fd6843217698885676ff7835e013bcdda68089c098faf7c971d0f920a37"), looks := false }, kinds := [], alts := [], laidByText := true, laidKinds := [.data, .data, .data], laidTests := true, laidLooks := .later }
def PathReverseTwiceCardSaid : Prop := Claim7.holds Tryd.pinned (.plain (OpenSpec.ofChange pathReverseTwiceSpec)) pathReverseTwiceCard

/-- THE TIED CARD OF 'printworkskeep1.PathMapMoves'. -/
def pathMapMovesCard : Claim7 := { stood := { row := pathMapMovesRow, standIns := [], harness := (true, "3d1a3fd6843217698885676ff7835e013bcdda68089c098faf7c971d0f920a37"), looks := false }, kinds := [], alts := [], laidByText := true, laidKinds := [.data, .data, .data], laidTests := true, laidLooks := .later }
def PathMapMovesCardSaid : Prop := Claim7.holds Tryd.pinned (.plain (OpenSpec.ofChange pathMapMovesSpec)) pathMapMovesCard

/-- THE SECOND FORM's CARD OF 'printworkskeep1.PathReverseTwice'. -/
def pathReverseTwiceUptoCard : Claim7 := { stood := { row := pathReverseTwiceUptoRow, standIns := [], harness := (true, "3d1a3fd6843217698885676ff7835e013bcdda68089c098faf7c971d0f920a37"), looks := false }, kinds := [], alts := [], laidByText := true, laidKinds := [.data, .data, .data], laidTests := true, laidLooks := .later }
def PathReverseTwiceUptoCardSaid : Prop := Claim7.holds Tryd.pinned (.plain (OpenSpec.upto pathReverseTwiceSpec)) pathReverseTwiceUptoCard

/-- THE SECOND FORM's CARD OF 'printworkskeep1.PathMapMoves'. -/
def pathMapMovesUptoCard : Claim7 := { stood := { row := pathMapMovesUptoRow, standIns := [], harness := (true, "3d1a3fd6843217698885676ff7835e013bcdda68089c098faf7c971d0f920a37"), looks := false }, kinds := [], alts := [], laidByText := true, laidKinds := [.data, .data, .data], laidTests := true, laidLooks := .later }
def PathMapMovesUptoCardSaid : Prop := Claim7.holds Tryd.pinned (.plain (OpenSpec.upto pathMapMovesSpec)) pathMapMovesUptoCard
end Rows
end Go.Proofs.YtbmgclpgompjmaaDoor
