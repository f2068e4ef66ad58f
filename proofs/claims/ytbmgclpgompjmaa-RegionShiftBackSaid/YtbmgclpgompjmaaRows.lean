/-
  No cell of these rows narrows 'for every input' (looked for: loops, veiled, ifaces, maps, wideKeys, modest, calm, conditions, laid).
  DERIVED. THE GIVEN ROWS OF THIS SEAT. 12 by the template 'for every input the law returns true; each argument reads behind the call as it read before'; 0 by the template 'total and deterministic' (their statements: YtbmgclpgompjmaaTotals.lean).
  GIVEN WITH THE SEED: the statements are not yours to turn. If you find one false, say at which input.
  Laid BY PROGRAM, IN A SANDBOX (cutbox-rows.mjs): the forced cells as the released guide's own fill.sh prints them over the translation eaf18d7d0f0d0824… (all of the seat's roots in one cut). By AI agents, Wed Nov 11 2026. No macro, syntax, notation, axiom, sorry.
-/
import Derived.Test.YtbmgclpgompjmaaChecked
import GoSem.Claim
import GoSem.ClaimJoined
import GoSem.ClaimMapViews
import Derived.JoinedTies
import Derived.KernelRfl
namespace Go.Proofs.Ytbmgclpgompjmaa
/- THE CELL 'sum', in the pinned program and in every row, IS THE sha256 OF THE DUMP (.gsa) THAT YtbmgclpgompjmaaProg.lean LOADS. Nothing in Lean hashes anything: it is a label: what it is worth is what the hold of that sum in a sandbox is worth. -/
noncomputable def Try.pinned : Pinned := { name := "ytbmgclpgompjmaa", sum := "eaf18d7d0f0d08246118c885418adec4d252aca667be02681392b03b567f9e76", checked := Try.checked }
namespace Rows
def none {H : Type} : Left H := { results := [], args := [] }

/-- 'printworkskeep1.ImageBoxSamples': WHATEVER THE INPUT: true; the input reads as it did. -/
def imageBoxSamplesSpec : ChangeSpec := { name := "imageBoxSamples", fn := fun _ => fun
  | [d1, d2, d3, d4, d5, d6, d7, d8] => { results := [.lit (.bool true)], args := [d1, d2, d3, d4, d5, d6, d7, d8] }
  | _ => none }
def imageBoxSamplesRow : OpenClaim := { program := "ytbmgclpgompjmaa", sum := "eaf18d7d0f0d08246118c885418adec4d252aca667be02681392b03b567f9e76", func := "printworks/printworkskeep1.ImageBoxSamples", spec := "imageBoxSamples", unfollowed := true, recurses := true, apart := false }
def ImageBoxSamplesSaid : Prop := imageBoxSamplesRow.holds Try.pinned (OpenSpec.ofChange imageBoxSamplesSpec)

/-- ITS FALSE NEIGHBOUR: 'it returns false'. Refute it at one input. -/
def imageBoxSamplesWrong : ChangeSpec := { name := "imageBoxSamples", fn := fun _ => fun
  | [d1, d2, d3, d4, d5, d6, d7, d8] => { results := [.lit (.bool false)], args := [d1, d2, d3, d4, d5, d6, d7, d8] }
  | _ => none }
def ImageBoxSamplesWrongFalsely : Prop := imageBoxSamplesRow.holds Try.pinned (OpenSpec.ofChange imageBoxSamplesWrong)

/-- 'printworkskeep1.ImageSmoothBetween': WHATEVER THE INPUT: true; the input reads as it did. -/
def imageSmoothBetweenSpec : ChangeSpec := { name := "imageSmoothBetween", fn := fun _ => fun
  | [d1, d2, d3, d4, d5, d6] => { results := [.lit (.bool true)], args := [d1, d2, d3, d4, d5, d6] }
  | _ => none }
def imageSmoothBetweenRow : OpenClaim := { program := "ytbmgclpgompjmaa", sum := "eaf18d7d0f0d08246118c885418adec4d252aca667be02681392b03b567f9e76", func := "printworks/printworkskeep1.ImageSmoothBetween", spec := "imageSmoothBetween", unfollowed := true, recurses := true, apart := false }
def ImageSmoothBetweenSaid : Prop := imageSmoothBetweenRow.holds Try.pinned (OpenSpec.ofChange imageSmoothBetweenSpec)

/-- ITS FALSE NEIGHBOUR: 'it returns false'. Refute it at one input. -/
def imageSmoothBetweenWrong : ChangeSpec := { name := "imageSmoothBetween", fn := fun _ => fun
  | [d1, d2, d3, d4, d5, d6] => { results := [.lit (.bool false)], args := [d1, d2, d3, d4, d5, d6] }
  | _ => none }
def ImageSmoothBetweenWrongFalsely : Prop := imageSmoothBetweenRow.holds Try.pinned (OpenSpec.ofChange imageSmoothBetweenWrong)

/-- 'printworkskeep1.TallyAddsUp': WHATEVER THE INPUT: true; the input reads as it did. -/
def tallyAddsUpSpec : ChangeSpec := { name := "tallyAddsUp", fn := fun _ => fun
  | [d1, d2, d3, d4, d5] => { results := [.lit (.bool true)], args := [d1, d2, d3, d4, d5] }
  | _ => none }
def tallyAddsUpRow : OpenClaim := { program := "ytbmgclpgompjmaa", sum := "eaf18d7d0f0d08246118c885418adec4d252aca667be02681392b03b567f9e76", func := "printworks/printworkskeep1.TallyAddsUp", spec := "tallyAddsUp", unfollowed := true, recurses := true, apart := false }
def TallyAddsUpSaid : Prop := tallyAddsUpRow.holds Try.pinned (OpenSpec.ofChange tallyAddsUpSpec)

/-- ITS FALSE NEIGHBOUR: 'it returns false'. Refute it at one input. -/
def tallyAddsUpWrong : ChangeSpec := { name := "tallyAddsUp", fn := fun _ => fun
  | [d1, d2, d3, d4, d5] => { results := [.lit (.bool false)], args := [d1, d2, d3, d4, d5] }
  | _ => none }
def TallyAddsUpWrongFalsely : Prop := tallyAddsUpRow.holds Try.pinned (OpenSpec.ofChange tallyAddsUpWrong)

/-- 'printworkskeep1.NumMulDivHolds': WHATEVER THE INPUT: true; the input reads as it did. -/
def numMulDivHoldsSpec : ChangeSpec := { name := "numMulDivHolds", fn := fun _ => fun
  | [d1, d2, d3] => { results := [.lit (.bool true)], args := [d1, d2, d3] }
  | _ => none }
def numMulDivHoldsRow : OpenClaim := { program := "ytbmgclpgompjmaa", sum := "eaf18d7d0f0d08246118c885418adec4d252aca667be02681392b03b567f9e76", func := "printworks/printworkskeep1.NumMulDivHolds", spec := "numMulDivHolds", named := ["math/bits.divideError", "math/bits.overflowError"], apart := false }
def NumMulDivHoldsSaid : Prop := numMulDivHoldsRow.holds Try.pinned (OpenSpec.ofChange numMulDivHoldsSpec)

/-- ITS FALSE NEIGHBOUR: 'it returns false'. Refute it at one input. -/
def numMulDivHoldsWrong : ChangeSpec := { name := "numMulDivHolds", fn := fun _ => fun
  | [d1, d2, d3] => { results := [.lit (.bool false)], args := [d1, d2, d3] }
  | _ => none }
def NumMulDivHoldsWrongFalsely : Prop := numMulDivHoldsRow.holds Try.pinned (OpenSpec.ofChange numMulDivHoldsWrong)

/-- 'printworkskeep1.DashComplement': WHATEVER THE INPUT: true; the input reads as it did. -/
def dashComplementSpec : ChangeSpec := { name := "dashComplement", fn := fun _ => fun
  | [d1, d2, d3] => { results := [.lit (.bool true)], args := [d1, d2, d3] }
  | _ => none }
def dashComplementRow : OpenClaim := { program := "ytbmgclpgompjmaa", sum := "eaf18d7d0f0d08246118c885418adec4d252aca667be02681392b03b567f9e76", func := "printworks/printworkskeep1.DashComplement", spec := "dashComplement", unfollowed := true, recurses := true, apart := false }
def DashComplementSaid : Prop := dashComplementRow.holds Try.pinned (OpenSpec.ofChange dashComplementSpec)

/-- ITS FALSE NEIGHBOUR: 'it returns false'. Refute it at one input. -/
def dashComplementWrong : ChangeSpec := { name := "dashComplement", fn := fun _ => fun
  | [d1, d2, d3] => { results := [.lit (.bool false)], args := [d1, d2, d3] }
  | _ => none }
def DashComplementWrongFalsely : Prop := dashComplementRow.holds Try.pinned (OpenSpec.ofChange dashComplementWrong)

/-- 'printworkskeep1.DashPeriod': WHATEVER THE INPUT: true; the input reads as it did. -/
def dashPeriodSpec : ChangeSpec := { name := "dashPeriod", fn := fun _ => fun
  | [d1, d2, d3] => { results := [.lit (.bool true)], args := [d1, d2, d3] }
  | _ => none }
def dashPeriodRow : OpenClaim := { program := "ytbmgclpgompjmaa", sum := "eaf18d7d0f0d08246118c885418adec4d252aca667be02681392b03b567f9e76", func := "printworks/printworkskeep1.DashPeriod", spec := "dashPeriod", unfollowed := true, recurses := true, apart := false }
def DashPeriodSaid : Prop := dashPeriodRow.holds Try.pinned (OpenSpec.ofChange dashPeriodSpec)

/-- ITS FALSE NEIGHBOUR: 'it returns false'. Refute it at one input. -/
def dashPeriodWrong : ChangeSpec := { name := "dashPeriod", fn := fun _ => fun
  | [d1, d2, d3] => { results := [.lit (.bool false)], args := [d1, d2, d3] }
  | _ => none }
def DashPeriodWrongFalsely : Prop := dashPeriodRow.holds Try.pinned (OpenSpec.ofChange dashPeriodWrong)

/-- 'printworkskeep1.ConicReversed': WHATEVER THE INPUT: true; the input reads as it did. -/
def conicReversedSpec : ChangeSpec := { name := "conicReversed", fn := fun _ => fun
  | [d] => { results := [.lit (.bool true)], args := [d] }
  | _ => none }
def conicReversedRow : OpenClaim := { program := "ytbmgclpgompjmaa", sum := "eaf18d7d0f0d08246118c885418adec4d252aca667be02681392b03b567f9e76", func := "printworks/printworkskeep1.ConicReversed", spec := "conicReversed", apart := false }
def ConicReversedSaid : Prop := conicReversedRow.holds Try.pinned (OpenSpec.ofChange conicReversedSpec)

/-- ITS FALSE NEIGHBOUR: 'it returns false'. Refute it at one input. -/
def conicReversedWrong : ChangeSpec := { name := "conicReversed", fn := fun _ => fun
  | [d] => { results := [.lit (.bool false)], args := [d] }
  | _ => none }
def ConicReversedWrongFalsely : Prop := conicReversedRow.holds Try.pinned (OpenSpec.ofChange conicReversedWrong)

/-- 'printworkskeep1.ConicMoves': WHATEVER THE INPUT: true; the input reads as it did. -/
def conicMovesSpec : ChangeSpec := { name := "conicMoves", fn := fun _ => fun
  | [d1, d2, d3] => { results := [.lit (.bool true)], args := [d1, d2, d3] }
  | _ => none }
def conicMovesRow : OpenClaim := { program := "ytbmgclpgompjmaa", sum := "eaf18d7d0f0d08246118c885418adec4d252aca667be02681392b03b567f9e76", func := "printworks/printworkskeep1.ConicMoves", spec := "conicMoves", apart := false }
def ConicMovesSaid : Prop := conicMovesRow.holds Try.pinned (OpenSpec.ofChange conicMovesSpec)

/-- ITS FALSE NEIGHBOUR: 'it returns false'. Refute it at one input. -/
def conicMovesWrong : ChangeSpec := { name := "conicMoves", fn := fun _ => fun
  | [d1, d2, d3] => { results := [.lit (.bool false)], args := [d1, d2, d3] }
  | _ => none }
def ConicMovesWrongFalsely : Prop := conicMovesRow.holds Try.pinned (OpenSpec.ofChange conicMovesWrong)

/-- 'printworkskeep1.RegionAlgebra': WHATEVER THE INPUT: true; the input reads as it did. -/
def regionAlgebraSpec : ChangeSpec := { name := "regionAlgebra", fn := fun _ => fun
  | [d1, d2, d3] => { results := [.lit (.bool true)], args := [d1, d2, d3] }
  | _ => none }
def regionAlgebraRow : OpenClaim := { program := "ytbmgclpgompjmaa", sum := "eaf18d7d0f0d08246118c885418adec4d252aca667be02681392b03b567f9e76", func := "printworks/printworkskeep1.RegionAlgebra", spec := "regionAlgebra", unfollowed := true, recurses := true, apart := false }
def RegionAlgebraSaid : Prop := regionAlgebraRow.holds Try.pinned (OpenSpec.ofChange regionAlgebraSpec)

/-- ITS FALSE NEIGHBOUR: 'it returns false'. Refute it at one input. -/
def regionAlgebraWrong : ChangeSpec := { name := "regionAlgebra", fn := fun _ => fun
  | [d1, d2, d3] => { results := [.lit (.bool false)], args := [d1, d2, d3] }
  | _ => none }
def RegionAlgebraWrongFalsely : Prop := regionAlgebraRow.holds Try.pinned (OpenSpec.ofChange regionAlgebraWrong)

/-- 'printworkskeep1.RegionAreas': WHATEVER THE INPUT: true; the input reads as it did. -/
def regionAreasSpec : ChangeSpec := { name := "regionAreas", fn := fun _ => fun
  | [d1, d2] => { results := [.lit (.bool true)], args := [d1, d2] }
  | _ => none }
def regionAreasRow : OpenClaim := { program := "ytbmgclpgompjmaa", sum := "eaf18d7d0f0d08246118c885418adec4d252aca667be02681392b03b567f9e76", func := "printworks/printworkskeep1.RegionAreas", spec := "regionAreas", unfollowed := true, recurses := true, apart := false }
def RegionAreasSaid : Prop := regionAreasRow.holds Try.pinned (OpenSpec.ofChange regionAreasSpec)

/-- ITS FALSE NEIGHBOUR: 'it returns false'. Refute it at one input. -/
def regionAreasWrong : ChangeSpec := { name := "regionAreas", fn := fun _ => fun
  | [d1, d2] => { results := [.lit (.bool false)], args := [d1, d2] }
  | _ => none }
def RegionAreasWrongFalsely : Prop := regionAreasRow.holds Try.pinned (OpenSpec.ofChange regionAreasWrong)

/-- 'printworkskeep1.RegionCellsBack': WHATEVER THE INPUT: true; the input reads as it did. -/
def regionCellsBackSpec : ChangeSpec := { name := "regionCellsBack", fn := fun _ => fun
  | [d] => { results := [.lit (.bool true)], args := [d] }
  | _ => none }
def regionCellsBackRow : OpenClaim := { program := "ytbmgclpgompjmaa", sum := "eaf18d7d0f0d08246118c885418adec4d252aca667be02681392b03b567f9e76", func := "printworks/printworkskeep1.RegionCellsBack", spec := "regionCellsBack", unfollowed := true, recurses := true, apart := false }
def RegionCellsBackSaid : Prop := regionCellsBackRow.holds Try.pinned (OpenSpec.ofChange regionCellsBackSpec)

/-- ITS FALSE NEIGHBOUR: 'it returns false'. Refute it at one input. -/
def regionCellsBackWrong : ChangeSpec := { name := "regionCellsBack", fn := fun _ => fun
  | [d] => { results := [.lit (.bool false)], args := [d] }
  | _ => none }
def RegionCellsBackWrongFalsely : Prop := regionCellsBackRow.holds Try.pinned (OpenSpec.ofChange regionCellsBackWrong)

/-- 'printworkskeep1.RegionShiftBack': WHATEVER THE INPUT: true; the input reads as it did. -/
def regionShiftBackSpec : ChangeSpec := { name := "regionShiftBack", fn := fun _ => fun
  | [d1, d2, d3] => { results := [.lit (.bool true)], args := [d1, d2, d3] }
  | _ => none }
def regionShiftBackRow : OpenClaim := { program := "ytbmgclpgompjmaa", sum := "eaf18d7d0f0d08246118c885418adec4d252aca667be02681392b03b567f9e76", func := "printworks/printworkskeep1.RegionShiftBack", spec := "regionShiftBack", unfollowed := true, recurses := true, apart := false }
def RegionShiftBackSaid : Prop := regionShiftBackRow.holds Try.pinned (OpenSpec.ofChange regionShiftBackSpec)

/-- ITS FALSE NEIGHBOUR: 'it returns false'. Refute it at one input. -/
def regionShiftBackWrong : ChangeSpec := { name := "regionShiftBack", fn := fun _ => fun
  | [d1, d2, d3] => { results := [.lit (.bool false)], args := [d1, d2, d3] }
  | _ => none }
def RegionShiftBackWrongFalsely : Prop := regionShiftBackRow.holds Try.pinned (OpenSpec.ofChange regionShiftBackWrong)

/- THE SECOND FORM. 'bulk': how many values and letters a reading holds, each counted each time it is reached (what is shared counts as often as it is met; a slice's spare places count too). A statement '..UptoSaid' is the law's where the arguments, and the package variables that the reading takes, are together of bulk at most 1048576: NARROWER than '..Said'. Prove '..Said' where nothing that the law and all that it calls make is longer than what came in: it says more and counts as full. Else prove '..UptoSaid'. A law counts once. -/
mutual
def uptoBulk {H : Type} : DataW H → Nat
  | .lit (.string bytes) => bytes.length + 1
  | .lit _ => 1
  | .nil => 1
  | .ptr d => uptoBulk d + 1
  | .slice elems spare => uptoBulkAll elems + uptoBulkAll spare + 1
  | .agg parts => uptoBulkAll parts + 1
  | .iface _ d => uptoBulk d + 1
  | .map entries => uptoBulkEntries entries + 1
  | .held _ => 1
def uptoBulkAll {H : Type} : List (DataW H) → Nat
  | [] => 0
  | d :: r => uptoBulk d + uptoBulkAll r
def uptoBulkEntries {H : Type} : List (Lit × DataW H) → Nat
  | [] => 0
  | x :: r => uptoBulkEntry x + uptoBulkEntries r
def uptoBulkEntry {H : Type} : Lit × DataW H → Nat
  | (.string bytes, d) => bytes.length + uptoBulk d + 1
  | (_, d) => uptoBulk d + 1
 end
def uptoSmall : (H : Type) → List (DataW H) → Bool := fun _ ds => decide (uptoBulkAll ds ≤ 1048576)
def OpenSpec.upto (s : _root_.Go.ChangeSpec) : _root_.Go.OpenSpec := { _root_.Go.OpenSpec.ofChange s with cond := some uptoSmall }

/-- 'printworkskeep1.ImageBoxSamples', WHERE WHAT IT READS IS OF BULK AT MOST 1048576: true; the input reads as it did. -/
def imageBoxSamplesUptoRow : OpenClaim := { program := "ytbmgclpgompjmaa", sum := "eaf18d7d0f0d08246118c885418adec4d252aca667be02681392b03b567f9e76", func := "printworks/printworkskeep1.ImageBoxSamples", spec := "imageBoxSamples", unfollowed := true, recurses := true, apart := false, narrowed := true }
def ImageBoxSamplesUptoSaid : Prop := imageBoxSamplesUptoRow.holds Try.pinned (OpenSpec.upto imageBoxSamplesSpec)

/-- 'printworkskeep1.ImageSmoothBetween', WHERE WHAT IT READS IS OF BULK AT MOST 1048576: true; the input reads as it did. -/
def imageSmoothBetweenUptoRow : OpenClaim := { program := "ytbmgclpgompjmaa", sum := "eaf18d7d0f0d08246118c885418adec4d252aca667be02681392b03b567f9e76", func := "printworks/printworkskeep1.ImageSmoothBetween", spec := "imageSmoothBetween", unfollowed := true, recurses := true, apart := false, narrowed := true }
def ImageSmoothBetweenUptoSaid : Prop := imageSmoothBetweenUptoRow.holds Try.pinned (OpenSpec.upto imageSmoothBetweenSpec)

/-- 'printworkskeep1.TallyAddsUp', WHERE WHAT IT READS IS OF BULK AT MOST 1048576: true; the input reads as it did. -/
def tallyAddsUpUptoRow : OpenClaim := { program := "ytbmgclpgompjmaa", sum := "eaf18d7d0f0d08246118c885418adec4d252aca667be02681392b03b567f9e76", func := "printworks/printworkskeep1.TallyAddsUp", spec := "tallyAddsUp", unfollowed := true, recurses := true, apart := false, narrowed := true }
def TallyAddsUpUptoSaid : Prop := tallyAddsUpUptoRow.holds Try.pinned (OpenSpec.upto tallyAddsUpSpec)

/-- 'printworkskeep1.NumMulDivHolds', WHERE WHAT IT READS IS OF BULK AT MOST 1048576: true; the input reads as it did. -/
def numMulDivHoldsUptoRow : OpenClaim := { program := "ytbmgclpgompjmaa", sum := "eaf18d7d0f0d08246118c885418adec4d252aca667be02681392b03b567f9e76", func := "printworks/printworkskeep1.NumMulDivHolds", spec := "numMulDivHolds", named := ["math/bits.divideError", "math/bits.overflowError"], apart := false, narrowed := true }
def NumMulDivHoldsUptoSaid : Prop := numMulDivHoldsUptoRow.holds Try.pinned (OpenSpec.upto numMulDivHoldsSpec)

/-- 'printworkskeep1.DashComplement', WHERE WHAT IT READS IS OF BULK AT MOST 1048576: true; the input reads as it did. -/
def dashComplementUptoRow : OpenClaim := { program := "ytbmgclpgompjmaa", sum := "eaf18d7d0f0d08246118c885418adec4d252aca667be02681392b03b567f9e76", func := "printworks/printworkskeep1.DashComplement", spec := "dashComplement", unfollowed := true, recurses := true, apart := false, narrowed := true }
def DashComplementUptoSaid : Prop := dashComplementUptoRow.holds Try.pinned (OpenSpec.upto dashComplementSpec)

/-- 'printworkskeep1.DashPeriod', WHERE WHAT IT READS IS OF BULK AT MOST 1048576: true; the input reads as it did. -/
def dashPeriodUptoRow : OpenClaim := { program := "ytbmgclpgompjmaa", sum := "eaf18d7d0f0d08246118c885418adec4d252aca667be02681392b03b567f9e76", func := "printworks/printworkskeep1.DashPeriod", spec := "dashPeriod", unfollowed := true, recurses := true, apart := false, narrowed := true }
def DashPeriodUptoSaid : Prop := dashPeriodUptoRow.holds Try.pinned (OpenSpec.upto dashPeriodSpec)

/-- 'printworkskeep1.ConicReversed', WHERE WHAT IT READS IS OF BULK AT MOST 1048576: true; the input reads as it did. -/
def conicReversedUptoRow : OpenClaim := { program := "ytbmgclpgompjmaa", sum := "eaf18d7d0f0d08246118c885418adec4d252aca667be02681392b03b567f9e76", func := "printworks/printworkskeep1.ConicReversed", spec := "conicReversed", apart := false, narrowed := true }
def ConicReversedUptoSaid : Prop := conicReversedUptoRow.holds Try.pinned (OpenSpec.upto conicReversedSpec)

/-- 'printworkskeep1.ConicMoves', WHERE WHAT IT READS IS OF BULK AT MOST 1048576: true; the input reads as it did. -/
def conicMovesUptoRow : OpenClaim := { program := "ytbmgclpgompjmaa", sum := "eaf18d7d0f0d08246118c885418adec4d252aca667be02681392b03b567f9e76", func := "printworks/printworkskeep1.ConicMoves", spec := "conicMoves", apart := false, narrowed := true }
def ConicMovesUptoSaid : Prop := conicMovesUptoRow.holds Try.pinned (OpenSpec.upto conicMovesSpec)

/-- 'printworkskeep1.RegionAlgebra', WHERE WHAT IT READS IS OF BULK AT MOST 1048576: true; the input reads as it did. -/
def regionAlgebraUptoRow : OpenClaim := { program := "ytbmgclpgompjmaa", sum := "eaf18d7d0f0d08246118c885418adec4d252aca667be02681392b03b567f9e76", func := "printworks/printworkskeep1.RegionAlgebra", spec := "regionAlgebra", unfollowed := true, recurses := true, apart := false, narrowed := true }
def RegionAlgebraUptoSaid : Prop := regionAlgebraUptoRow.holds Try.pinned (OpenSpec.upto regionAlgebraSpec)

/-- 'printworkskeep1.RegionAreas', WHERE WHAT IT READS IS OF BULK AT MOST 1048576: true; the input reads as it did. -/
def regionAreasUptoRow : OpenClaim := { program := "ytbmgclpgompjmaa", sum := "eaf18d7d0f0d08246118c885418adec4d252aca667be02681392b03b567f9e76", func := "printworks/printworkskeep1.RegionAreas", spec := "regionAreas", unfollowed := true, recurses := true, apart := false, narrowed := true }
def RegionAreasUptoSaid : Prop := regionAreasUptoRow.holds Try.pinned (OpenSpec.upto regionAreasSpec)

/-- 'printworkskeep1.RegionCellsBack', WHERE WHAT IT READS IS OF BULK AT MOST 1048576: true; the input reads as it did. -/
def regionCellsBackUptoRow : OpenClaim := { program := "ytbmgclpgompjmaa", sum := "eaf18d7d0f0d08246118c885418adec4d252aca667be02681392b03b567f9e76", func := "printworks/printworkskeep1.RegionCellsBack", spec := "regionCellsBack", unfollowed := true, recurses := true, apart := false, narrowed := true }
def RegionCellsBackUptoSaid : Prop := regionCellsBackUptoRow.holds Try.pinned (OpenSpec.upto regionCellsBackSpec)

/-- 'printworkskeep1.RegionShiftBack', WHERE WHAT IT READS IS OF BULK AT MOST 1048576: true; the input reads as it did. -/
def regionShiftBackUptoRow : OpenClaim := { program := "ytbmgclpgompjmaa", sum := "eaf18d7d0f0d08246118c885418adec4d252aca667be02681392b03b567f9e76", func := "printworks/printworkskeep1.RegionShiftBack", spec := "regionShiftBack", unfollowed := true, recurses := true, apart := false, narrowed := true }
def RegionShiftBackUptoSaid : Prop := regionShiftBackUptoRow.holds Try.pinned (OpenSpec.upto regionShiftBackSpec)

end Rows
end Go.Proofs.Ytbmgclpgompjmaa
