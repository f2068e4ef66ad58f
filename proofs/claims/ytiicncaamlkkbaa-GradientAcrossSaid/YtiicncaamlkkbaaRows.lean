/-
  No cell of these rows narrows 'for every input' (looked for: loops, veiled, ifaces, maps, wideKeys, modest, calm, conditions, laid).
  DERIVED. THE GIVEN ROWS OF THIS SEAT. 11 by the template 'for every input the law returns true; each argument reads behind the call as it read before'; 0 by the template 'total and deterministic' (their statements: YtiicncaamlkkbaaTotals.lean).
  GIVEN WITH THE SEED: the statements are not yours to turn. If you find one false, say at which input.
  Laid BY PROGRAM, IN A SANDBOX (cutbox-rows.mjs): the forced cells as the released guide's own fill.sh prints them over the translation 08c75cf6c71a2ae9… (all of the seat's roots in one cut). By AI agents, Wed Nov 11 2026. No macro, syntax, notation, axiom, sorry.
-/
import Derived.Test.YtiicncaamlkkbaaChecked
import GoSem.Claim
import GoSem.ClaimJoined
import GoSem.ClaimMapViews
import Derived.JoinedTies
import Derived.KernelRfl
namespace Go.Proofs.Ytiicncaamlkkbaa
/- THE CELL 'sum', in the pinned program and in every row, IS THE sha256 OF THE DUMP (.gsa) THAT YtiicncaamlkkbaaProg.lean LOADS. Nothing in Lean hashes anything: it is a label: what it is worth is what the hold of that sum in a sandbox is worth. -/
noncomputable def Try.pinned : Pinned := { name := "ytiicncaamlkkbaa", sum := "08c75cf6c71a2ae9241f01852765b21ea50df8b7bfda44e395e38f6ba2a7bb62", checked := Try.checked }
namespace Rows
def none {H : Type} : Left H := { results := [], args := [] }

/-- 'printworkskeep1.NumMixBetween': WHATEVER THE INPUT: true; the input reads as it did. -/
def numMixBetweenSpec : ChangeSpec := { name := "numMixBetween", fn := fun _ => fun
  | [d1, d2, d3] => { results := [.lit (.bool true)], args := [d1, d2, d3] }
  | _ => none }
def numMixBetweenRow : OpenClaim := { program := "ytiicncaamlkkbaa", sum := "08c75cf6c71a2ae9241f01852765b21ea50df8b7bfda44e395e38f6ba2a7bb62", func := "printworks/printworkskeep1.NumMixBetween", spec := "numMixBetween", apart := false }
def NumMixBetweenSaid : Prop := numMixBetweenRow.holds Try.pinned (OpenSpec.ofChange numMixBetweenSpec)

/-- ITS FALSE NEIGHBOUR: 'it returns false'. Refute it at one input. -/
def numMixBetweenWrong : ChangeSpec := { name := "numMixBetween", fn := fun _ => fun
  | [d1, d2, d3] => { results := [.lit (.bool false)], args := [d1, d2, d3] }
  | _ => none }
def NumMixBetweenWrongFalsely : Prop := numMixBetweenRow.holds Try.pinned (OpenSpec.ofChange numMixBetweenWrong)

/-- 'printworkskeep1.NumGcdDivides': WHATEVER THE INPUT: true; the input reads as it did. -/
def numGcdDividesSpec : ChangeSpec := { name := "numGcdDivides", fn := fun _ => fun
  | [d1, d2] => { results := [.lit (.bool true)], args := [d1, d2] }
  | _ => none }
def numGcdDividesRow : OpenClaim := { program := "ytiicncaamlkkbaa", sum := "08c75cf6c71a2ae9241f01852765b21ea50df8b7bfda44e395e38f6ba2a7bb62", func := "printworks/printworkskeep1.NumGcdDivides", spec := "numGcdDivides", apart := false }
def NumGcdDividesSaid : Prop := numGcdDividesRow.holds Try.pinned (OpenSpec.ofChange numGcdDividesSpec)

/-- ITS FALSE NEIGHBOUR: 'it returns false'. Refute it at one input. -/
def numGcdDividesWrong : ChangeSpec := { name := "numGcdDivides", fn := fun _ => fun
  | [d1, d2] => { results := [.lit (.bool false)], args := [d1, d2] }
  | _ => none }
def NumGcdDividesWrongFalsely : Prop := numGcdDividesRow.holds Try.pinned (OpenSpec.ofChange numGcdDividesWrong)

/-- 'printworkskeep1.NumDivisionHolds': WHATEVER THE INPUT: true; the input reads as it did. -/
def numDivisionHoldsSpec : ChangeSpec := { name := "numDivisionHolds", fn := fun _ => fun
  | [d1, d2] => { results := [.lit (.bool true)], args := [d1, d2] }
  | _ => none }
def numDivisionHoldsRow : OpenClaim := { program := "ytiicncaamlkkbaa", sum := "08c75cf6c71a2ae9241f01852765b21ea50df8b7bfda44e395e38f6ba2a7bb62", func := "printworks/printworkskeep1.NumDivisionHolds", spec := "numDivisionHolds", apart := false }
def NumDivisionHoldsSaid : Prop := numDivisionHoldsRow.holds Try.pinned (OpenSpec.ofChange numDivisionHoldsSpec)

/-- ITS FALSE NEIGHBOUR: 'it returns false'. Refute it at one input. -/
def numDivisionHoldsWrong : ChangeSpec := { name := "numDivisionHolds", fn := fun _ => fun
  | [d1, d2] => { results := [.lit (.bool false)], args := [d1, d2] }
  | _ => none }
def NumDivisionHoldsWrongFalsely : Prop := numDivisionHoldsRow.holds Try.pinned (OpenSpec.ofChange numDivisionHoldsWrong)

/-- 'printworkskeep1.NumRootHolds': WHATEVER THE INPUT: true; the input reads as it did. -/
def numRootHoldsSpec : ChangeSpec := { name := "numRootHolds", fn := fun _ => fun
  | [d] => { results := [.lit (.bool true)], args := [d] }
  | _ => none }
def numRootHoldsRow : OpenClaim := { program := "ytiicncaamlkkbaa", sum := "08c75cf6c71a2ae9241f01852765b21ea50df8b7bfda44e395e38f6ba2a7bb62", func := "printworks/printworkskeep1.NumRootHolds", spec := "numRootHolds", apart := false }
def NumRootHoldsSaid : Prop := numRootHoldsRow.holds Try.pinned (OpenSpec.ofChange numRootHoldsSpec)

/-- ITS FALSE NEIGHBOUR: 'it returns false'. Refute it at one input. -/
def numRootHoldsWrong : ChangeSpec := { name := "numRootHolds", fn := fun _ => fun
  | [d] => { results := [.lit (.bool false)], args := [d] }
  | _ => none }
def NumRootHoldsWrongFalsely : Prop := numRootHoldsRow.holds Try.pinned (OpenSpec.ofChange numRootHoldsWrong)

/-- 'printworkskeep1.NumMulDivHolds': WHATEVER THE INPUT: true; the input reads as it did. -/
def numMulDivHoldsSpec : ChangeSpec := { name := "numMulDivHolds", fn := fun _ => fun
  | [d1, d2, d3] => { results := [.lit (.bool true)], args := [d1, d2, d3] }
  | _ => none }
def numMulDivHoldsRow : OpenClaim := { program := "ytiicncaamlkkbaa", sum := "08c75cf6c71a2ae9241f01852765b21ea50df8b7bfda44e395e38f6ba2a7bb62", func := "printworks/printworkskeep1.NumMulDivHolds", spec := "numMulDivHolds", named := ["math/bits.divideError", "math/bits.overflowError"], apart := false }
def NumMulDivHoldsSaid : Prop := numMulDivHoldsRow.holds Try.pinned (OpenSpec.ofChange numMulDivHoldsSpec)

/-- ITS FALSE NEIGHBOUR: 'it returns false'. Refute it at one input. -/
def numMulDivHoldsWrong : ChangeSpec := { name := "numMulDivHolds", fn := fun _ => fun
  | [d1, d2, d3] => { results := [.lit (.bool false)], args := [d1, d2, d3] }
  | _ => none }
def NumMulDivHoldsWrongFalsely : Prop := numMulDivHoldsRow.holds Try.pinned (OpenSpec.ofChange numMulDivHoldsWrong)

/-- 'printworkskeep1.GradientBetween': WHATEVER THE INPUT: true; the input reads as it did. -/
def gradientBetweenSpec : ChangeSpec := { name := "gradientBetween", fn := fun _ => fun
  | [d1, d2, d3, d4, d5, d6] => { results := [.lit (.bool true)], args := [d1, d2, d3, d4, d5, d6] }
  | _ => none }
def gradientBetweenRow : OpenClaim := { program := "ytiicncaamlkkbaa", sum := "08c75cf6c71a2ae9241f01852765b21ea50df8b7bfda44e395e38f6ba2a7bb62", func := "printworks/printworkskeep1.GradientBetween", spec := "gradientBetween", apart := false }
def GradientBetweenSaid : Prop := gradientBetweenRow.holds Try.pinned (OpenSpec.ofChange gradientBetweenSpec)

/-- ITS FALSE NEIGHBOUR: 'it returns false'. Refute it at one input. -/
def gradientBetweenWrong : ChangeSpec := { name := "gradientBetween", fn := fun _ => fun
  | [d1, d2, d3, d4, d5, d6] => { results := [.lit (.bool false)], args := [d1, d2, d3, d4, d5, d6] }
  | _ => none }
def GradientBetweenWrongFalsely : Prop := gradientBetweenRow.holds Try.pinned (OpenSpec.ofChange gradientBetweenWrong)

/-- 'printworkskeep1.GradientAcross': WHATEVER THE INPUT: true; the input reads as it did. -/
def gradientAcrossSpec : ChangeSpec := { name := "gradientAcross", fn := fun _ => fun
  | [d1, d2, d3, d4, d5, d6, d7] => { results := [.lit (.bool true)], args := [d1, d2, d3, d4, d5, d6, d7] }
  | _ => none }
def gradientAcrossRow : OpenClaim := { program := "ytiicncaamlkkbaa", sum := "08c75cf6c71a2ae9241f01852765b21ea50df8b7bfda44e395e38f6ba2a7bb62", func := "printworks/printworkskeep1.GradientAcross", spec := "gradientAcross", apart := false }
def GradientAcrossSaid : Prop := gradientAcrossRow.holds Try.pinned (OpenSpec.ofChange gradientAcrossSpec)

/-- ITS FALSE NEIGHBOUR: 'it returns false'. Refute it at one input. -/
def gradientAcrossWrong : ChangeSpec := { name := "gradientAcross", fn := fun _ => fun
  | [d1, d2, d3, d4, d5, d6, d7] => { results := [.lit (.bool false)], args := [d1, d2, d3, d4, d5, d6, d7] }
  | _ => none }
def GradientAcrossWrongFalsely : Prop := gradientAcrossRow.holds Try.pinned (OpenSpec.ofChange gradientAcrossWrong)

/-- 'printworkskeep1.BlendCommutes': WHATEVER THE INPUT: true; the input reads as it did. -/
def blendCommutesSpec : ChangeSpec := { name := "blendCommutes", fn := fun _ => fun
  | [d1, d2, d3] => { results := [.lit (.bool true)], args := [d1, d2, d3] }
  | _ => none }
def blendCommutesRow : OpenClaim := { program := "ytiicncaamlkkbaa", sum := "08c75cf6c71a2ae9241f01852765b21ea50df8b7bfda44e395e38f6ba2a7bb62", func := "printworks/printworkskeep1.BlendCommutes", spec := "blendCommutes", unfollowed := true, recurses := true, apart := false }
def BlendCommutesSaid : Prop := blendCommutesRow.holds Try.pinned (OpenSpec.ofChange blendCommutesSpec)

/-- ITS FALSE NEIGHBOUR: 'it returns false'. Refute it at one input. -/
def blendCommutesWrong : ChangeSpec := { name := "blendCommutes", fn := fun _ => fun
  | [d1, d2, d3] => { results := [.lit (.bool false)], args := [d1, d2, d3] }
  | _ => none }
def BlendCommutesWrongFalsely : Prop := blendCommutesRow.holds Try.pinned (OpenSpec.ofChange blendCommutesWrong)

/-- 'printworkskeep1.BlendDuals': WHATEVER THE INPUT: true; the input reads as it did. -/
def blendDualsSpec : ChangeSpec := { name := "blendDuals", fn := fun _ => fun
  | [d1, d2] => { results := [.lit (.bool true)], args := [d1, d2] }
  | _ => none }
def blendDualsRow : OpenClaim := { program := "ytiicncaamlkkbaa", sum := "08c75cf6c71a2ae9241f01852765b21ea50df8b7bfda44e395e38f6ba2a7bb62", func := "printworks/printworkskeep1.BlendDuals", spec := "blendDuals", unfollowed := true, recurses := true, apart := false }
def BlendDualsSaid : Prop := blendDualsRow.holds Try.pinned (OpenSpec.ofChange blendDualsSpec)

/-- ITS FALSE NEIGHBOUR: 'it returns false'. Refute it at one input. -/
def blendDualsWrong : ChangeSpec := { name := "blendDuals", fn := fun _ => fun
  | [d1, d2] => { results := [.lit (.bool false)], args := [d1, d2] }
  | _ => none }
def BlendDualsWrongFalsely : Prop := blendDualsRow.holds Try.pinned (OpenSpec.ofChange blendDualsWrong)

/-- 'printworkskeep1.BlendNeutral': WHATEVER THE INPUT: true; the input reads as it did. -/
def blendNeutralSpec : ChangeSpec := { name := "blendNeutral", fn := fun _ => fun
  | [d] => { results := [.lit (.bool true)], args := [d] }
  | _ => none }
def blendNeutralRow : OpenClaim := { program := "ytiicncaamlkkbaa", sum := "08c75cf6c71a2ae9241f01852765b21ea50df8b7bfda44e395e38f6ba2a7bb62", func := "printworks/printworkskeep1.BlendNeutral", spec := "blendNeutral", unfollowed := true, recurses := true, apart := false }
def BlendNeutralSaid : Prop := blendNeutralRow.holds Try.pinned (OpenSpec.ofChange blendNeutralSpec)

/-- ITS FALSE NEIGHBOUR: 'it returns false'. Refute it at one input. -/
def blendNeutralWrong : ChangeSpec := { name := "blendNeutral", fn := fun _ => fun
  | [d] => { results := [.lit (.bool false)], args := [d] }
  | _ => none }
def BlendNeutralWrongFalsely : Prop := blendNeutralRow.holds Try.pinned (OpenSpec.ofChange blendNeutralWrong)

/-- 'printworkskeep1.TallyAddsUp': WHATEVER THE INPUT: true; the input reads as it did. -/
def tallyAddsUpSpec : ChangeSpec := { name := "tallyAddsUp", fn := fun _ => fun
  | [d1, d2, d3, d4, d5] => { results := [.lit (.bool true)], args := [d1, d2, d3, d4, d5] }
  | _ => none }
def tallyAddsUpRow : OpenClaim := { program := "ytiicncaamlkkbaa", sum := "08c75cf6c71a2ae9241f01852765b21ea50df8b7bfda44e395e38f6ba2a7bb62", func := "printworks/printworkskeep1.TallyAddsUp", spec := "tallyAddsUp", unfollowed := true, recurses := true, apart := false }
def TallyAddsUpSaid : Prop := tallyAddsUpRow.holds Try.pinned (OpenSpec.ofChange tallyAddsUpSpec)

/-- ITS FALSE NEIGHBOUR: 'it returns false'. Refute it at one input. -/
def tallyAddsUpWrong : ChangeSpec := { name := "tallyAddsUp", fn := fun _ => fun
  | [d1, d2, d3, d4, d5] => { results := [.lit (.bool false)], args := [d1, d2, d3, d4, d5] }
  | _ => none }
def TallyAddsUpWrongFalsely : Prop := tallyAddsUpRow.holds Try.pinned (OpenSpec.ofChange tallyAddsUpWrong)

/- THE SECOND FORM. 'bulk': how many values and letters a reading holds, each counted each time it is reached (what is shared counts as often as it is met; a slice's spare places count too). A statement '..UptoSaid' is the law's where the arguments, and the package variables that the reading takes, are together of bulk at most 1048576: NARROWER than '..Said'. Prove '..Said' where nothing that the law and all that it calls make is longer than what came in: it says more and counts as full. Else prove '..UptoSaid'. A law counts once. -/
mutual
def uptoBulk {H : Type} : DataW H → Nat
  | .lit (.string bytes) => bytes.length + 1
  | .lit _ => 1
  | .nil => 1
  | .ptr d => uptoBulk d + 1
  | .slice elems spare => uptoBulkAll elems + uptoBulkAll spare + 1
  | .agg parts => uptoBulkAll parts + 1
  | .iface _ d => uptoBulk d + 1
  | .map entries => uptoBulkEntries entries + 1
  | .held _ => 1
def uptoBulkAll {H : Type} : List (DataW H) → Nat
  | [] => 0
  | d :: r => uptoBulk d + uptoBulkAll r
def uptoBulkEntries {H : Type} : List (Lit × DataW H) → Nat
  | [] => 0
  | x :: r => uptoBulkEntry x + uptoBulkEntries r
def uptoBulkEntry {H : Type} : Lit × DataW H → Nat
  | (.string bytes, d) => bytes.length + uptoBulk d + 1
  | (_, d) => uptoBulk d + 1
 end
def uptoSmall : (H : Type) → List (DataW H) → Bool := fun _ ds => decide (uptoBulkAll ds ≤ 1048576)
def OpenSpec.upto (s : _root_.Go.ChangeSpec) : _root_.Go.OpenSpec := { _root_.Go.OpenSpec.ofChange s with cond := some uptoSmall }

/-- 'printworkskeep1.NumMixBetween', WHERE WHAT IT READS IS OF BULK AT MOST 1048576: true; the input reads as it did. -/
def numMixBetweenUptoRow : OpenClaim := { program := "ytiicncaamlkkbaa", sum := "08c75cf6c71a2ae9241f01852765b21ea50df8b7bfda44e395e38f6ba2a7bb62", func := "printworks/printworkskeep1.NumMixBetween", spec := "numMixBetween", apart := false, narrowed := true }
def NumMixBetweenUptoSaid : Prop := numMixBetweenUptoRow.holds Try.pinned (OpenSpec.upto numMixBetweenSpec)

/-- 'printworkskeep1.NumGcdDivides', WHERE WHAT IT READS IS OF BULK AT MOST 1048576: true; the input reads as it did. -/
def numGcdDividesUptoRow : OpenClaim := { program := "ytiicncaamlkkbaa", sum := "08c75cf6c71a2ae9241f01852765b21ea50df8b7bfda44e395e38f6ba2a7bb62", func := "printworks/printworkskeep1.NumGcdDivides", spec := "numGcdDivides", apart := false, narrowed := true }
def NumGcdDividesUptoSaid : Prop := numGcdDividesUptoRow.holds Try.pinned (OpenSpec.upto numGcdDividesSpec)

/-- 'printworkskeep1.NumDivisionHolds', WHERE WHAT IT READS IS OF BULK AT MOST 1048576: true; the input reads as it did. -/
def numDivisionHoldsUptoRow : OpenClaim := { program := "ytiicncaamlkkbaa", sum := "08c75cf6c71a2ae9241f01852765b21ea50df8b7bfda44e395e38f6ba2a7bb62", func := "printworks/printworkskeep1.NumDivisionHolds", spec := "numDivisionHolds", apart := false, narrowed := true }
def NumDivisionHoldsUptoSaid : Prop := numDivisionHoldsUptoRow.holds Try.pinned (OpenSpec.upto numDivisionHoldsSpec)

/-- 'printworkskeep1.NumRootHolds', WHERE WHAT IT READS IS OF BULK AT MOST 1048576: true; the input reads as it did. -/
def numRootHoldsUptoRow : OpenClaim := { program := "ytiicncaamlkkbaa", sum := "08c75cf6c71a2ae9241f01852765b21ea50df8b7bfda44e395e38f6ba2a7bb62", func := "printworks/printworkskeep1.NumRootHolds", spec := "numRootHolds", apart := false, narrowed := true }
def NumRootHoldsUptoSaid : Prop := numRootHoldsUptoRow.holds Try.pinned (OpenSpec.upto numRootHoldsSpec)

/-- 'printworkskeep1.NumMulDivHolds', WHERE WHAT IT READS IS OF BULK AT MOST 1048576: true; the input reads as it did. -/
def numMulDivHoldsUptoRow : OpenClaim := { program := "ytiicncaamlkkbaa", sum := "08c75cf6c71a2ae9241f01852765b21ea50df8b7bfda44e395e38f6ba2a7bb62", func := "printworks/printworkskeep1.NumMulDivHolds", spec := "numMulDivHolds", named := ["math/bits.divideError", "math/bits.overflowError"], apart := false, narrowed := true }
def NumMulDivHoldsUptoSaid : Prop := numMulDivHoldsUptoRow.holds Try.pinned (OpenSpec.upto numMulDivHoldsSpec)

/-- 'printworkskeep1.GradientBetween', WHERE WHAT IT READS IS OF BULK AT MOST 1048576: true; the input reads as it did. -/
def gradientBetweenUptoRow : OpenClaim := { program := "ytiicncaamlkkbaa", sum := "08c75cf6c71a2ae9241f01852765b21ea50df8b7bfda44e395e38f6ba2a7bb62", func := "printworks/printworkskeep1.GradientBetween", spec := "gradientBetween", apart := false, narrowed := true }
def GradientBetweenUptoSaid : Prop := gradientBetweenUptoRow.holds Try.pinned (OpenSpec.upto gradientBetweenSpec)

/-- 'printworkskeep1.GradientAcross', WHERE WHAT IT READS IS OF BULK AT MOST 1048576: true; the input reads as it did. -/
def gradientAcrossUptoRow : OpenClaim := { program := "ytiicncaamlkkbaa", sum := "08c75cf6c71a2ae9241f01852765b21ea50df8b7bfda44e395e38f6ba2a7bb62", func := "printworks/printworkskeep1.GradientAcross", spec := "gradientAcross", apart := false, narrowed := true }
def GradientAcrossUptoSaid : Prop := gradientAcrossUptoRow.holds Try.pinned (OpenSpec.upto gradientAcrossSpec)

/-- 'printworkskeep1.BlendCommutes', WHERE WHAT IT READS IS OF BULK AT MOST 1048576: true; the input reads as it did. -/
def blendCommutesUptoRow : OpenClaim := { program := "ytiicncaamlkkbaa", sum := "08c75cf6c71a2ae9241f01852765b21ea50df8b7bfda44e395e38f6ba2a7bb62", func := "printworks/printworkskeep1.BlendCommutes", spec := "blendCommutes", unfollowed := true, recurses := true, apart := false, narrowed := true }
def BlendCommutesUptoSaid : Prop := blendCommutesUptoRow.holds Try.pinned (OpenSpec.upto blendCommutesSpec)

/-- 'printworkskeep1.BlendDuals', WHERE WHAT IT READS IS OF BULK AT MOST 1048576: true; the input reads as it did. -/
def blendDualsUptoRow : OpenClaim := { program := "ytiicncaamlkkbaa", sum := "08c75cf6c71a2ae9241f01852765b21ea50df8b7bfda44e395e38f6ba2a7bb62", func := "printworks/printworkskeep1.BlendDuals", spec := "blendDuals", unfollowed := true, recurses := true, apart := false, narrowed := true }
def BlendDualsUptoSaid : Prop := blendDualsUptoRow.holds Try.pinned (OpenSpec.upto blendDualsSpec)

/-- 'printworkskeep1.BlendNeutral', WHERE WHAT IT READS IS OF BULK AT MOST 1048576: true; the input reads as it did. -/
def blendNeutralUptoRow : OpenClaim := { program := "ytiicncaamlkkbaa", sum := "08c75cf6c71a2ae9241f01852765b21ea50df8b7bfda44e395e38f6ba2a7bb62", func := "printworks/printworkskeep1.BlendNeutral", spec := "blendNeutral", unfollowed := true, recurses := true, apart := false, narrowed := true }
def BlendNeutralUptoSaid : Prop := blendNeutralUptoRow.holds Try.pinned (OpenSpec.upto blendNeutralSpec)

/-- 'printworkskeep1.TallyAddsUp', WHERE WHAT IT READS IS OF BULK AT MOST 1048576: true; the input reads as it did. -/
def tallyAddsUpUptoRow : OpenClaim := { program := "ytiicncaamlkkbaa", sum := "08c75cf6c71a2ae9241f01852765b21ea50df8b7bfda44e395e38f6ba2a7bb62", func := "printworks/printworkskeep1.TallyAddsUp", spec := "tallyAddsUp", unfollowed := true, recurses := true, apart := false, narrowed := true }
def TallyAddsUpUptoSaid : Prop := tallyAddsUpUptoRow.holds Try.pinned (OpenSpec.upto tallyAddsUpSpec)

end Rows
end Go.Proofs.Ytiicncaamlkkbaa
