/-
  No cell of these rows narrows 'for every input' (looked for: loops, veiled, ifaces, maps, wideKeys, modest, calm, conditions, laid).
  DERIVED. THE GIVEN ROWS OF THIS SEAT. 8 by the template 'for every input the law returns true; each argument reads behind the call as it read before'; 0 by the template 'total and deterministic' (their statements: YtppdojjhegiffaaTotals.lean).
  GIVEN WITH THE SEED: the statements are not yours to turn. If you find one false, say at which input.
  Laid BY PROGRAM, IN A SANDBOX (cutbox-rows.mjs): the forced cells as the released guide's own fill.sh prints them over the translation 52921cfc463a5929… (all of the seat's roots in one cut). By AI agents, Wed Nov 11 2026. No macro, syntax, notation, axiom, sorry.
-/
import Derived.Test.YtppdojjhegiffaaChecked
import GoSem.Claim
import GoSem.ClaimJoined
import GoSem.ClaimMapViews
import Derived.JoinedTies
import Derived.KernelRfl
namespace Go.Proofs.Ytppdojjhegiffaa
/- THE CELL 'sum', in the pinned program and in every row, IS THE sha256 OF THE DUMP (.gsa) THAT YtppdojjhegiffaaProg.lean LOADS. Nothing in Lean hashes anything: it is a label: what it is worth is what the hold of that sum in a sandbox is worth. -/
noncomputable def Try.pinned : Pinned := { name := "ytppdojjhegiffaa", sum := "52921cfc463a592925f0b782c2a3383f7535ea717adaee24e334dc286f5bd72b", checked := Try.checked }
namespace Rows
def none {H : Type} : Left H := { results := [], args := [] }

/-- 'printworkskeep1.RegionCellsBack': WHATEVER THE INPUT: true; the input reads as it did. -/
def regionCellsBackSpec : ChangeSpec := { name := "regionCellsBack", fn := fun _ => fun
  | [d] => { results := [.lit (.bool true)], args := [d] }
  | _ => none }
def regionCellsBackRow : OpenClaim := { program := "ytppdojjhegiffaa", sum := "52921cfc463a592925f0b782c2a3383f7535ea717adaee24e334dc286f5bd72b", func := "printworks/printworkskeep1.RegionCellsBack", spec := "regionCellsBack", unfollowed := true, recurses := true, apart := false }
def RegionCellsBackSaid : Prop := regionCellsBackRow.holds Try.pinned (OpenSpec.ofChange regionCellsBackSpec)

/-- ITS FALSE NEIGHBOUR: 'it returns false'. Refute it at one input. -/
def regionCellsBackWrong : ChangeSpec := { name := "regionCellsBack", fn := fun _ => fun
  | [d] => { results := [.lit (.bool false)], args := [d] }
  | _ => none }
def RegionCellsBackWrongFalsely : Prop := regionCellsBackRow.holds Try.pinned (OpenSpec.ofChange regionCellsBackWrong)

/-- 'printworkskeep1.MorphAdds': WHATEVER THE INPUT: true; the input reads as it did. -/
def morphAddsSpec : ChangeSpec := { name := "morphAdds", fn := fun _ => fun
  | [d1, d2, d3] => { results := [.lit (.bool true)], args := [d1, d2, d3] }
  | _ => none }
def morphAddsRow : OpenClaim := { program := "ytppdojjhegiffaa", sum := "52921cfc463a592925f0b782c2a3383f7535ea717adaee24e334dc286f5bd72b", func := "printworks/printworkskeep1.MorphAdds", spec := "morphAdds", unfollowed := true, recurses := true, apart := false }
def MorphAddsSaid : Prop := morphAddsRow.holds Try.pinned (OpenSpec.ofChange morphAddsSpec)

/-- ITS FALSE NEIGHBOUR: 'it returns false'. Refute it at one input. -/
def morphAddsWrong : ChangeSpec := { name := "morphAdds", fn := fun _ => fun
  | [d1, d2, d3] => { results := [.lit (.bool false)], args := [d1, d2, d3] }
  | _ => none }
def MorphAddsWrongFalsely : Prop := morphAddsRow.holds Try.pinned (OpenSpec.ofChange morphAddsWrong)

/-- 'printworkskeep1.MorphAdjoint': WHATEVER THE INPUT: true; the input reads as it did. -/
def morphAdjointSpec : ChangeSpec := { name := "morphAdjoint", fn := fun _ => fun
  | [d1, d2, d3] => { results := [.lit (.bool true)], args := [d1, d2, d3] }
  | _ => none }
def morphAdjointRow : OpenClaim := { program := "ytppdojjhegiffaa", sum := "52921cfc463a592925f0b782c2a3383f7535ea717adaee24e334dc286f5bd72b", func := "printworks/printworkskeep1.MorphAdjoint", spec := "morphAdjoint", unfollowed := true, recurses := true, apart := false }
def MorphAdjointSaid : Prop := morphAdjointRow.holds Try.pinned (OpenSpec.ofChange morphAdjointSpec)

/-- ITS FALSE NEIGHBOUR: 'it returns false'. Refute it at one input. -/
def morphAdjointWrong : ChangeSpec := { name := "morphAdjoint", fn := fun _ => fun
  | [d1, d2, d3] => { results := [.lit (.bool false)], args := [d1, d2, d3] }
  | _ => none }
def MorphAdjointWrongFalsely : Prop := morphAdjointRow.holds Try.pinned (OpenSpec.ofChange morphAdjointWrong)

/-- 'printworkskeep1.MorphOpenClose': WHATEVER THE INPUT: true; the input reads as it did. -/
def morphOpenCloseSpec : ChangeSpec := { name := "morphOpenClose", fn := fun _ => fun
  | [d1, d2] => { results := [.lit (.bool true)], args := [d1, d2] }
  | _ => none }
def morphOpenCloseRow : OpenClaim := { program := "ytppdojjhegiffaa", sum := "52921cfc463a592925f0b782c2a3383f7535ea717adaee24e334dc286f5bd72b", func := "printworks/printworkskeep1.MorphOpenClose", spec := "morphOpenClose", unfollowed := true, recurses := true, apart := false }
def MorphOpenCloseSaid : Prop := morphOpenCloseRow.holds Try.pinned (OpenSpec.ofChange morphOpenCloseSpec)

/-- ITS FALSE NEIGHBOUR: 'it returns false'. Refute it at one input. -/
def morphOpenCloseWrong : ChangeSpec := { name := "morphOpenClose", fn := fun _ => fun
  | [d1, d2] => { results := [.lit (.bool false)], args := [d1, d2] }
  | _ => none }
def MorphOpenCloseWrongFalsely : Prop := morphOpenCloseRow.holds Try.pinned (OpenSpec.ofChange morphOpenCloseWrong)

/-- 'printworkskeep1.FillReversed': WHATEVER THE INPUT: true; the input reads as it did. -/
def fillReversedSpec : ChangeSpec := { name := "fillReversed", fn := fun _ => fun
  | [d] => { results := [.lit (.bool true)], args := [d] }
  | _ => none }
def fillReversedRow : OpenClaim := { program := "ytppdojjhegiffaa", sum := "52921cfc463a592925f0b782c2a3383f7535ea717adaee24e334dc286f5bd72b", func := "printworks/printworkskeep1.FillReversed", spec := "fillReversed", unfollowed := true, recurses := true, apart := false }
def FillReversedSaid : Prop := fillReversedRow.holds Try.pinned (OpenSpec.ofChange fillReversedSpec)

/-- ITS FALSE NEIGHBOUR: 'it returns false'. Refute it at one input. -/
def fillReversedWrong : ChangeSpec := { name := "fillReversed", fn := fun _ => fun
  | [d] => { results := [.lit (.bool false)], args := [d] }
  | _ => none }
def FillReversedWrongFalsely : Prop := fillReversedRow.holds Try.pinned (OpenSpec.ofChange fillReversedWrong)

/-- 'printworkskeep1.FillAreaBound': WHATEVER THE INPUT: true; the input reads as it did. -/
def fillAreaBoundSpec : ChangeSpec := { name := "fillAreaBound", fn := fun _ => fun
  | [d] => { results := [.lit (.bool true)], args := [d] }
  | _ => none }
def fillAreaBoundRow : OpenClaim := { program := "ytppdojjhegiffaa", sum := "52921cfc463a592925f0b782c2a3383f7535ea717adaee24e334dc286f5bd72b", func := "printworks/printworkskeep1.FillAreaBound", spec := "fillAreaBound", unfollowed := true, recurses := true, apart := false }
def FillAreaBoundSaid : Prop := fillAreaBoundRow.holds Try.pinned (OpenSpec.ofChange fillAreaBoundSpec)

/-- ITS FALSE NEIGHBOUR: 'it returns false'. Refute it at one input. -/
def fillAreaBoundWrong : ChangeSpec := { name := "fillAreaBound", fn := fun _ => fun
  | [d] => { results := [.lit (.bool false)], args := [d] }
  | _ => none }
def FillAreaBoundWrongFalsely : Prop := fillAreaBoundRow.holds Try.pinned (OpenSpec.ofChange fillAreaBoundWrong)

/-- 'printworkskeep1.FillConvexArea': WHATEVER THE INPUT: true; the input reads as it did. -/
def fillConvexAreaSpec : ChangeSpec := { name := "fillConvexArea", fn := fun _ => fun
  | [d1, d2, d3] => { results := [.lit (.bool true)], args := [d1, d2, d3] }
  | _ => none }
def fillConvexAreaRow : OpenClaim := { program := "ytppdojjhegiffaa", sum := "52921cfc463a592925f0b782c2a3383f7535ea717adaee24e334dc286f5bd72b", func := "printworks/printworkskeep1.FillConvexArea", spec := "fillConvexArea", unfollowed := true, recurses := true, apart := false }
def FillConvexAreaSaid : Prop := fillConvexAreaRow.holds Try.pinned (OpenSpec.ofChange fillConvexAreaSpec)

/-- ITS FALSE NEIGHBOUR: 'it returns false'. Refute it at one input. -/
def fillConvexAreaWrong : ChangeSpec := { name := "fillConvexArea", fn := fun _ => fun
  | [d1, d2, d3] => { results := [.lit (.bool false)], args := [d1, d2, d3] }
  | _ => none }
def FillConvexAreaWrongFalsely : Prop := fillConvexAreaRow.holds Try.pinned (OpenSpec.ofChange fillConvexAreaWrong)

/-- 'printworkskeep1.FillEvenOddXor': WHATEVER THE INPUT: true; the input reads as it did. -/
def fillEvenOddXorSpec : ChangeSpec := { name := "fillEvenOddXor", fn := fun _ => fun
  | [d1, d2] => { results := [.lit (.bool true)], args := [d1, d2] }
  | _ => none }
def fillEvenOddXorRow : OpenClaim := { program := "ytppdojjhegiffaa", sum := "52921cfc463a592925f0b782c2a3383f7535ea717adaee24e334dc286f5bd72b", func := "printworks/printworkskeep1.FillEvenOddXor", spec := "fillEvenOddXor", unfollowed := true, recurses := true, apart := false }
def FillEvenOddXorSaid : Prop := fillEvenOddXorRow.holds Try.pinned (OpenSpec.ofChange fillEvenOddXorSpec)

/-- ITS FALSE NEIGHBOUR: 'it returns false'. Refute it at one input. -/
def fillEvenOddXorWrong : ChangeSpec := { name := "fillEvenOddXor", fn := fun _ => fun
  | [d1, d2] => { results := [.lit (.bool false)], args := [d1, d2] }
  | _ => none }
def FillEvenOddXorWrongFalsely : Prop := fillEvenOddXorRow.holds Try.pinned (OpenSpec.ofChange fillEvenOddXorWrong)

/- THE SECOND FORM. 'bulk': how many values and letters a reading holds, each counted each time it is reached (what is shared counts as often as it is met; a slice's spare places count too). A statement '..UptoSaid' is the law's where the arguments, and the package variables that the reading takes, are together of bulk at most 1048576: NARROWER than '..Said'. Prove '..Said' where nothing that the law and all that it calls make is longer than what came in: it says more and counts as full. Else prove '..UptoSaid'. A law counts once. -/
mutual
def uptoBulk {H : Type} : DataW H → Nat
  | .lit (.string bytes) => bytes.length + 1
  | .lit _ => 1
  | .nil => 1
  | .ptr d => uptoBulk d + 1
  | .slice elems spare => uptoBulkAll elems + uptoBulkAll spare + 1
  | .agg parts => uptoBulkAll parts + 1
  | .iface _ d => uptoBulk d + 1
  | .map entries => uptoBulkEntries entries + 1
  | .held _ => 1
def uptoBulkAll {H : Type} : List (DataW H) → Nat
  | [] => 0
  | d :: r => uptoBulk d + uptoBulkAll r
def uptoBulkEntries {H : Type} : List (Lit × DataW H) → Nat
  | [] => 0
  | x :: r => uptoBulkEntry x + uptoBulkEntries r
def uptoBulkEntry {H : Type} : Lit × DataW H → Nat
  | (.string bytes, d) => bytes.length + uptoBulk d + 1
  | (_, d) => uptoBulk d + 1
 end
def uptoSmall : (H : Type) → List (DataW H) → Bool := fun _ ds => decide (uptoBulkAll ds ≤ 1048576)
def OpenSpec.upto (s : _root_.Go.ChangeSpec) : _root_.Go.OpenSpec := { _root_.Go.OpenSpec.ofChange s with cond := some uptoSmall }

/-- 'printworkskeep1.RegionCellsBack', WHERE WHAT IT READS IS OF BULK AT MOST 1048576: true; the input reads as it did. -/
def regionCellsBackUptoRow : OpenClaim := { program := "ytppdojjhegiffaa", sum := "52921cfc463a592925f0b782c2a3383f7535ea717adaee24e334dc286f5bd72b", func := "printworks/printworkskeep1.RegionCellsBack", spec := "regionCellsBack", unfollowed := true, recurses := true, apart := false, narrowed := true }
def RegionCellsBackUptoSaid : Prop := regionCellsBackUptoRow.holds Try.pinned (OpenSpec.upto regionCellsBackSpec)

/-- 'printworkskeep1.MorphAdds', WHERE WHAT IT READS IS OF BULK AT MOST 1048576: true; the input reads as it did. -/
def morphAddsUptoRow : OpenClaim := { program := "ytppdojjhegiffaa", sum := "52921cfc463a592925f0b782c2a3383f7535ea717adaee24e334dc286f5bd72b", func := "printworks/printworkskeep1.MorphAdds", spec := "morphAdds", unfollowed := true, recurses := true, apart := false, narrowed := true }
def MorphAddsUptoSaid : Prop := morphAddsUptoRow.holds Try.pinned (OpenSpec.upto morphAddsSpec)

/-- 'printworkskeep1.MorphAdjoint', WHERE WHAT IT READS IS OF BULK AT MOST 1048576: true; the input reads as it did. -/
def morphAdjointUptoRow : OpenClaim := { program := "ytppdojjhegiffaa", sum := "52921cfc463a592925f0b782c2a3383f7535ea717adaee24e334dc286f5bd72b", func := "printworks/printworkskeep1.MorphAdjoint", spec := "morphAdjoint", unfollowed := true, recurses := true, apart := false, narrowed := true }
def MorphAdjointUptoSaid : Prop := morphAdjointUptoRow.holds Try.pinned (OpenSpec.upto morphAdjointSpec)

/-- 'printworkskeep1.MorphOpenClose', WHERE WHAT IT READS IS OF BULK AT MOST 1048576: true; the input reads as it did. -/
def morphOpenCloseUptoRow : OpenClaim := { program := "ytppdojjhegiffaa", sum := "52921cfc463a592925f0b782c2a3383f7535ea717adaee24e334dc286f5bd72b", func := "printworks/printworkskeep1.MorphOpenClose", spec := "morphOpenClose", unfollowed := true, recurses := true, apart := false, narrowed := true }
def MorphOpenCloseUptoSaid : Prop := morphOpenCloseUptoRow.holds Try.pinned (OpenSpec.upto morphOpenCloseSpec)

/-- 'printworkskeep1.FillReversed', WHERE WHAT IT READS IS OF BULK AT MOST 1048576: true; the input reads as it did. -/
def fillReversedUptoRow : OpenClaim := { program := "ytppdojjhegiffaa", sum := "52921cfc463a592925f0b782c2a3383f7535ea717adaee24e334dc286f5bd72b", func := "printworks/printworkskeep1.FillReversed", spec := "fillReversed", unfollowed := true, recurses := true, apart := false, narrowed := true }
def FillReversedUptoSaid : Prop := fillReversedUptoRow.holds Try.pinned (OpenSpec.upto fillReversedSpec)

/-- 'printworkskeep1.FillAreaBound', WHERE WHAT IT READS IS OF BULK AT MOST 1048576: true; the input reads as it did. -/
def fillAreaBoundUptoRow : OpenClaim := { program := "ytppdojjhegiffaa", sum := "52921cfc463a592925f0b782c2a3383f7535ea717adaee24e334dc286f5bd72b", func := "printworks/printworkskeep1.FillAreaBound", spec := "fillAreaBound", unfollowed := true, recurses := true, apart := false, narrowed := true }
def FillAreaBoundUptoSaid : Prop := fillAreaBoundUptoRow.holds Try.pinned (OpenSpec.upto fillAreaBoundSpec)

/-- 'printworkskeep1.FillConvexArea', WHERE WHAT IT READS IS OF BULK AT MOST 1048576: true; the input reads as it did. -/
def fillConvexAreaUptoRow : OpenClaim := { program := "ytppdojjhegiffaa", sum := "52921cfc463a592925f0b782c2a3383f7535ea717adaee24e334dc286f5bd72b", func := "printworks/printworkskeep1.FillConvexArea", spec := "fillConvexArea", unfollowed := true, recurses := true, apart := false, narrowed := true }
def FillConvexAreaUptoSaid : Prop := fillConvexAreaUptoRow.holds Try.pinned (OpenSpec.upto fillConvexAreaSpec)

/-- 'printworkskeep1.FillEvenOddXor', WHERE WHAT IT READS IS OF BULK AT MOST 1048576: true; the input reads as it did. -/
def fillEvenOddXorUptoRow : OpenClaim := { program := "ytppdojjhegiffaa", sum := "52921cfc463a592925f0b782c2a3383f7535ea717adaee24e334dc286f5bd72b", func := "printworks/printworkskeep1.FillEvenOddXor", spec := "fillEvenOddXor", unfollowed := true, recurses := true, apart := false, narrowed := true }
def FillEvenOddXorUptoSaid : Prop := fillEvenOddXorUptoRow.holds Try.pinned (OpenSpec.upto fillEvenOddXorSpec)

end Rows
end Go.Proofs.Ytppdojjhegiffaa
