/-
  No cell of these rows narrows 'for every input' (looked for: loops, veiled, ifaces, maps, wideKeys, modest, calm, conditions, laid).
  DERIVED. THE GIVEN ROWS OF THIS SEAT. 8 by the template 'for every input the law returns true; each argument reads behind the call as it read before'; 0 by the template 'total and deterministic' (their statements: YtfjbjbmbdadmhaaTotals.lean).
  GIVEN WITH THE SEED: the statements are not yours to turn. If you find one false, say at which input.
  Laid BY PROGRAM, IN A SANDBOX (cutbox-rows.mjs): the forced cells as the released guide's own fill.sh prints them over the translation b40bf7fe9dbbcd22… (all of the seat's roots in one cut). By AI agents, Wed Nov 11 2026. No macro, syntax, notation, axiom, sorry.
-/
import Derived.Test.YtfjbjbmbdadmhaaChecked
import GoSem.Claim
import GoSem.ClaimJoined
import GoSem.ClaimMapViews
import Derived.JoinedTies
import Derived.KernelRfl
namespace Go.Proofs.Ytfjbjbmbdadmhaa
/- THE CELL 'sum', in the pinned program and in every row, IS THE sha256 OF THE DUMP (.gsa) THAT YtfjbjbmbdadmhaaProg.lean LOADS. Nothing in Lean hashes anything: it is a label: what it is worth is what the hold of that sum in a sandbox is worth. -/
noncomputable def Try.pinned : Pinned := { name := "ytfjbjbmbdadmhaa", sum := "b40bf7fe9dbbcd222bc356ccd592793cb9a07a5b9c7b023e4754c2146c3628c1", checked := Try.checked }
namespace Rows
def none {H : Type} : Left H := { results := [], args := [] }

/-- 'printworkskeep1.ConicReversed': WHATEVER THE INPUT: true; the input reads as it did. -/
def conicReversedSpec : ChangeSpec := { name := "conicReversed", fn := fun _ => fun
  | [d] => { results := [.lit (.bool true)], args := [d] }
  | _ => none }
def conicReversedRow : OpenClaim := { program := "ytfjbjbmbdadmhaa", sum := "b40bf7fe9dbbcd222bc356ccd592793cb9a07a5b9c7b023e4754c2146c3628c1", func := "printworks/printworkskeep1.ConicReversed", spec := "conicReversed", apart := false }
def ConicReversedSaid : Prop := conicReversedRow.holds Try.pinned (OpenSpec.ofChange conicReversedSpec)

/-- ITS FALSE NEIGHBOUR: 'it returns false'. Refute it at one input. -/
def conicReversedWrong : ChangeSpec := { name := "conicReversed", fn := fun _ => fun
  | [d] => { results := [.lit (.bool false)], args := [d] }
  | _ => none }
def ConicReversedWrongFalsely : Prop := conicReversedRow.holds Try.pinned (OpenSpec.ofChange conicReversedWrong)

/-- 'printworkskeep1.RegionCellsBack': WHATEVER THE INPUT: true; the input reads as it did. -/
def regionCellsBackSpec : ChangeSpec := { name := "regionCellsBack", fn := fun _ => fun
  | [d] => { results := [.lit (.bool true)], args := [d] }
  | _ => none }
def regionCellsBackRow : OpenClaim := { program := "ytfjbjbmbdadmhaa", sum := "b40bf7fe9dbbcd222bc356ccd592793cb9a07a5b9c7b023e4754c2146c3628c1", func := "printworks/printworkskeep1.RegionCellsBack", spec := "regionCellsBack", unfollowed := true, recurses := true, apart := false }
def RegionCellsBackSaid : Prop := regionCellsBackRow.holds Try.pinned (OpenSpec.ofChange regionCellsBackSpec)

/-- ITS FALSE NEIGHBOUR: 'it returns false'. Refute it at one input. -/
def regionCellsBackWrong : ChangeSpec := { name := "regionCellsBack", fn := fun _ => fun
  | [d] => { results := [.lit (.bool false)], args := [d] }
  | _ => none }
def RegionCellsBackWrongFalsely : Prop := regionCellsBackRow.holds Try.pinned (OpenSpec.ofChange regionCellsBackWrong)

/-- 'printworkskeep1.MorphAdds': WHATEVER THE INPUT: true; the input reads as it did. -/
def morphAddsSpec : ChangeSpec := { name := "morphAdds", fn := fun _ => fun
  | [d1, d2, d3] => { results := [.lit (.bool true)], args := [d1, d2, d3] }
  | _ => none }
def morphAddsRow : OpenClaim := { program := "ytfjbjbmbdadmhaa", sum := "b40bf7fe9dbbcd222bc356ccd592793cb9a07a5b9c7b023e4754c2146c3628c1", func := "printworks/printworkskeep1.MorphAdds", spec := "morphAdds", unfollowed := true, recurses := true, apart := false }
def MorphAddsSaid : Prop := morphAddsRow.holds Try.pinned (OpenSpec.ofChange morphAddsSpec)

/-- ITS FALSE NEIGHBOUR: 'it returns false'. Refute it at one input. -/
def morphAddsWrong : ChangeSpec := { name := "morphAdds", fn := fun _ => fun
  | [d1, d2, d3] => { results := [.lit (.bool false)], args := [d1, d2, d3] }
  | _ => none }
def MorphAddsWrongFalsely : Prop := morphAddsRow.holds Try.pinned (OpenSpec.ofChange morphAddsWrong)

/-- 'printworkskeep1.MorphAdjoint': WHATEVER THE INPUT: true; the input reads as it did. -/
def morphAdjointSpec : ChangeSpec := { name := "morphAdjoint", fn := fun _ => fun
  | [d1, d2, d3] => { results := [.lit (.bool true)], args := [d1, d2, d3] }
  | _ => none }
def morphAdjointRow : OpenClaim := { program := "ytfjbjbmbdadmhaa", sum := "b40bf7fe9dbbcd222bc356ccd592793cb9a07a5b9c7b023e4754c2146c3628c1", func := "printworks/printworkskeep1.MorphAdjoint", spec := "morphAdjoint", unfollowed := true, recurses := true, apart := false }
def MorphAdjointSaid : Prop := morphAdjointRow.holds Try.pinned (OpenSpec.ofChange morphAdjointSpec)

/-- ITS FALSE NEIGHBOUR: 'it returns false'. Refute it at one input. -/
def morphAdjointWrong : ChangeSpec := { name := "morphAdjoint", fn := fun _ => fun
  | [d1, d2, d3] => { results := [.lit (.bool false)], args := [d1, d2, d3] }
  | _ => none }
def MorphAdjointWrongFalsely : Prop := morphAdjointRow.holds Try.pinned (OpenSpec.ofChange morphAdjointWrong)

/-- 'printworkskeep1.MorphOpenClose': WHATEVER THE INPUT: true; the input reads as it did. -/
def morphOpenCloseSpec : ChangeSpec := { name := "morphOpenClose", fn := fun _ => fun
  | [d1, d2] => { results := [.lit (.bool true)], args := [d1, d2] }
  | _ => none }
def morphOpenCloseRow : OpenClaim := { program := "ytfjbjbmbdadmhaa", sum := "b40bf7fe9dbbcd222bc356ccd592793cb9a07a5b9c7b023e4754c2146c3628c1", func := "printworks/printworkskeep1.MorphOpenClose", spec := "morphOpenClose", unfollowed := true, recurses := true, apart := false }
def MorphOpenCloseSaid : Prop := morphOpenCloseRow.holds Try.pinned (OpenSpec.ofChange morphOpenCloseSpec)

/-- ITS FALSE NEIGHBOUR: 'it returns false'. Refute it at one input. -/
def morphOpenCloseWrong : ChangeSpec := { name := "morphOpenClose", fn := fun _ => fun
  | [d1, d2] => { results := [.lit (.bool false)], args := [d1, d2] }
  | _ => none }
def MorphOpenCloseWrongFalsely : Prop := morphOpenCloseRow.holds Try.pinned (OpenSpec.ofChange morphOpenCloseWrong)

/-- 'printworkskeep1.StrokeNormals': WHATEVER THE INPUT: true; the input reads as it did. -/
def strokeNormalsSpec : ChangeSpec := { name := "strokeNormals", fn := fun _ => fun
  | [d1, d2, d3] => { results := [.lit (.bool true)], args := [d1, d2, d3] }
  | _ => none }
def strokeNormalsRow : OpenClaim := { program := "ytfjbjbmbdadmhaa", sum := "b40bf7fe9dbbcd222bc356ccd592793cb9a07a5b9c7b023e4754c2146c3628c1", func := "printworks/printworkskeep1.StrokeNormals", spec := "strokeNormals", unfollowed := true, recurses := true, apart := false }
def StrokeNormalsSaid : Prop := strokeNormalsRow.holds Try.pinned (OpenSpec.ofChange strokeNormalsSpec)

/-- ITS FALSE NEIGHBOUR: 'it returns false'. Refute it at one input. -/
def strokeNormalsWrong : ChangeSpec := { name := "strokeNormals", fn := fun _ => fun
  | [d1, d2, d3] => { results := [.lit (.bool false)], args := [d1, d2, d3] }
  | _ => none }
def StrokeNormalsWrongFalsely : Prop := strokeNormalsRow.holds Try.pinned (OpenSpec.ofChange strokeNormalsWrong)

/-- 'printworkskeep1.StrokeMoves': WHATEVER THE INPUT: true; the input reads as it did. -/
def strokeMovesSpec : ChangeSpec := { name := "strokeMoves", fn := fun _ => fun
  | [d1, d2, d3, d4] => { results := [.lit (.bool true)], args := [d1, d2, d3, d4] }
  | _ => none }
def strokeMovesRow : OpenClaim := { program := "ytfjbjbmbdadmhaa", sum := "b40bf7fe9dbbcd222bc356ccd592793cb9a07a5b9c7b023e4754c2146c3628c1", func := "printworks/printworkskeep1.StrokeMoves", spec := "strokeMoves", unfollowed := true, recurses := true, apart := false }
def StrokeMovesSaid : Prop := strokeMovesRow.holds Try.pinned (OpenSpec.ofChange strokeMovesSpec)

/-- ITS FALSE NEIGHBOUR: 'it returns false'. Refute it at one input. -/
def strokeMovesWrong : ChangeSpec := { name := "strokeMoves", fn := fun _ => fun
  | [d1, d2, d3, d4] => { results := [.lit (.bool false)], args := [d1, d2, d3, d4] }
  | _ => none }
def StrokeMovesWrongFalsely : Prop := strokeMovesRow.holds Try.pinned (OpenSpec.ofChange strokeMovesWrong)

/-- 'printworkskeep1.StrokeDot': WHATEVER THE INPUT: true; the input reads as it did. -/
def strokeDotSpec : ChangeSpec := { name := "strokeDot", fn := fun _ => fun
  | [d1, d2] => { results := [.lit (.bool true)], args := [d1, d2] }
  | _ => none }
def strokeDotRow : OpenClaim := { program := "ytfjbjbmbdadmhaa", sum := "b40bf7fe9dbbcd222bc356ccd592793cb9a07a5b9c7b023e4754c2146c3628c1", func := "printworks/printworkskeep1.StrokeDot", spec := "strokeDot", unfollowed := true, recurses := true, apart := false }
def StrokeDotSaid : Prop := strokeDotRow.holds Try.pinned (OpenSpec.ofChange strokeDotSpec)

/-- ITS FALSE NEIGHBOUR: 'it returns false'. Refute it at one input. -/
def strokeDotWrong : ChangeSpec := { name := "strokeDot", fn := fun _ => fun
  | [d1, d2] => { results := [.lit (.bool false)], args := [d1, d2] }
  | _ => none }
def StrokeDotWrongFalsely : Prop := strokeDotRow.holds Try.pinned (OpenSpec.ofChange strokeDotWrong)

/- THE SECOND FORM. 'bulk': how many values and letters a reading holds, each counted each time it is reached (what is shared counts as often as it is met; a slice's spare places count too). A statement '..UptoSaid' is the law's where the arguments, and the package variables that the reading takes, are together of bulk at most 1048576: NARROWER than '..Said'. Prove '..Said' where nothing that the law and all that it calls make is longer than what came in: it says more and counts as full. Else prove '..UptoSaid'. A law counts once. -/
mutual
def uptoBulk {H : Type} : DataW H → Nat
  | .lit (.string bytes) => bytes.length + 1
  | .lit _ => 1
  | .nil => 1
  | .ptr d => uptoBulk d + 1
  | .slice elems spare => uptoBulkAll elems + uptoBulkAll spare + 1
  | .agg parts => uptoBulkAll parts + 1
  | .iface _ d => uptoBulk d + 1
  | .map entries => uptoBulkEntries entries + 1
  | .held _ => 1
def uptoBulkAll {H : Type} : List (DataW H) → Nat
  | [] => 0
  | d :: r => uptoBulk d + uptoBulkAll r
def uptoBulkEntries {H : Type} : List (Lit × DataW H) → Nat
  | [] => 0
  | x :: r => uptoBulkEntry x + uptoBulkEntries r
def uptoBulkEntry {H : Type} : Lit × DataW H → Nat
  | (.string bytes, d) => bytes.length + uptoBulk d + 1
  | (_, d) => uptoBulk d + 1
 end
def uptoSmall : (H : Type) → List (DataW H) → Bool := fun _ ds => decide (uptoBulkAll ds ≤ 1048576)
def OpenSpec.upto (s : _root_.Go.ChangeSpec) : _root_.Go.OpenSpec := { _root_.Go.OpenSpec.ofChange s with cond := some uptoSmall }

/-- 'printworkskeep1.ConicReversed', WHERE WHAT IT READS IS OF BULK AT MOST 1048576: true; the input reads as it did. -/
def conicReversedUptoRow : OpenClaim := { program := "ytfjbjbmbdadmhaa", sum := "b40bf7fe9dbbcd222bc356ccd592793cb9a07a5b9c7b023e4754c2146c3628c1", func := "printworks/printworkskeep1.ConicReversed", spec := "conicReversed", apart := false, narrowed := true }
def ConicReversedUptoSaid : Prop := conicReversedUptoRow.holds Try.pinned (OpenSpec.upto conicReversedSpec)

/-- 'printworkskeep1.RegionCellsBack', WHERE WHAT IT READS IS OF BULK AT MOST 1048576: true; the input reads as it did. -/
def regionCellsBackUptoRow : OpenClaim := { program := "ytfjbjbmbdadmhaa", sum := "b40bf7fe9dbbcd222bc356ccd592793cb9a07a5b9c7b023e4754c2146c3628c1", func := "printworks/printworkskeep1.RegionCellsBack", spec := "regionCellsBack", unfollowed := true, recurses := true, apart := false, narrowed := true }
def RegionCellsBackUptoSaid : Prop := regionCellsBackUptoRow.holds Try.pinned (OpenSpec.upto regionCellsBackSpec)

/-- 'printworkskeep1.MorphAdds', WHERE WHAT IT READS IS OF BULK AT MOST 1048576: true; the input reads as it did. -/
def morphAddsUptoRow : OpenClaim := { program := "ytfjbjbmbdadmhaa", sum := "b40bf7fe9dbbcd222bc356ccd592793cb9a07a5b9c7b023e4754c2146c3628c1", func := "printworks/printworkskeep1.MorphAdds", spec := "morphAdds", unfollowed := true, recurses := true, apart := false, narrowed := true }
def MorphAddsUptoSaid : Prop := morphAddsUptoRow.holds Try.pinned (OpenSpec.upto morphAddsSpec)

/-- 'printworkskeep1.MorphAdjoint', WHERE WHAT IT READS IS OF BULK AT MOST 1048576: true; the input reads as it did. -/
def morphAdjointUptoRow : OpenClaim := { program := "ytfjbjbmbdadmhaa", sum := "b40bf7fe9dbbcd222bc356ccd592793cb9a07a5b9c7b023e4754c2146c3628c1", func := "printworks/printworkskeep1.MorphAdjoint", spec := "morphAdjoint", unfollowed := true, recurses := true, apart := false, narrowed := true }
def MorphAdjointUptoSaid : Prop := morphAdjointUptoRow.holds Try.pinned (OpenSpec.upto morphAdjointSpec)

/-- 'printworkskeep1.MorphOpenClose', WHERE WHAT IT READS IS OF BULK AT MOST 1048576: true; the input reads as it did. -/
def morphOpenCloseUptoRow : OpenClaim := { program := "ytfjbjbmbdadmhaa", sum := "b40bf7fe9dbbcd222bc356ccd592793cb9a07a5b9c7b023e4754c2146c3628c1", func := "printworks/printworkskeep1.MorphOpenClose", spec := "morphOpenClose", unfollowed := true, recurses := true, apart := false, narrowed := true }
def MorphOpenCloseUptoSaid : Prop := morphOpenCloseUptoRow.holds Try.pinned (OpenSpec.upto morphOpenCloseSpec)

/-- 'printworkskeep1.StrokeNormals', WHERE WHAT IT READS IS OF BULK AT MOST 1048576: true; the input reads as it did. -/
def strokeNormalsUptoRow : OpenClaim := { program := "ytfjbjbmbdadmhaa", sum := "b40bf7fe9dbbcd222bc356ccd592793cb9a07a5b9c7b023e4754c2146c3628c1", func := "printworks/printworkskeep1.StrokeNormals", spec := "strokeNormals", unfollowed := true, recurses := true, apart := false, narrowed := true }
def StrokeNormalsUptoSaid : Prop := strokeNormalsUptoRow.holds Try.pinned (OpenSpec.upto strokeNormalsSpec)

/-- 'printworkskeep1.StrokeMoves', WHERE WHAT IT READS IS OF BULK AT MOST 1048576: true; the input reads as it did. -/
def strokeMovesUptoRow : OpenClaim := { program := "ytfjbjbmbdadmhaa", sum := "b40bf7fe9dbbcd222bc356ccd592793cb9a07a5b9c7b023e4754c2146c3628c1", func := "printworks/printworkskeep1.StrokeMoves", spec := "strokeMoves", unfollowed := true, recurses := true, apart := false, narrowed := true }
def StrokeMovesUptoSaid : Prop := strokeMovesUptoRow.holds Try.pinned (OpenSpec.upto strokeMovesSpec)

/-- 'printworkskeep1.StrokeDot', WHERE WHAT IT READS IS OF BULK AT MOST 1048576: true; the input reads as it did. -/
def strokeDotUptoRow : OpenClaim := { program := "ytfjbjbmbdadmhaa", sum := "b40bf7fe9dbbcd222bc356ccd592793cb9a07a5b9c7b023e4754c2146c3628c1", func := "printworks/printworkskeep1.StrokeDot", spec := "strokeDot", unfollowed := true, recurses := true, apart := false, narrowed := true }
def StrokeDotUptoSaid : Prop := strokeDotUptoRow.holds Try.pinned (OpenSpec.upto strokeDotSpec)

end Rows
end Go.Proofs.Ytfjbjbmbdadmhaa
