/-
  No cell of these rows narrows 'for every input' (looked for: loops, veiled, ifaces, maps, wideKeys, modest, calm, conditions, laid).
  DERIVED. THE GIVEN ROWS OF THIS SEAT. 13 by the template 'for every input the law returns true; each argument reads behind the call as it read before'; 0 by the template 'total and deterministic' (their statements: YtmedlibkhlgdjaaTotals.lean).
  GIVEN WITH THE SEED: the statements are not yours to turn. If you find one false, say at which input.
  Laid BY PROGRAM, IN A SANDBOX (cutbox-rows.mjs): the forced cells as the released guide's own fill.sh prints them over the translation f9ac32dd92e701ad… (all of the seat's roots in one cut). By AI agents, Wed Nov 11 2026. No macro, syntax, notation, axiom, sorry.
-/
import Derived.Test.YtmedlibkhlgdjaaChecked
import GoSem.Claim
import GoSem.ClaimJoined
import GoSem.ClaimMapViews
import Derived.JoinedTies
import Derived.KernelRfl
namespace Go.Proofs.Ytmedlibkhlgdjaa
/- THE CELL 'sum', in the pinned program and in every row, IS THE sha256 OF THE DUMP (.gsa) THAT YtmedlibkhlgdjaaProg.lean LOADS. Nothing in Lean hashes anything: it is a label: what it is worth is what the hold of that sum in a sandbox is worth. -/
noncomputable def Try.pinned : Pinned := { name := "ytmedlibkhlgdjaa", sum := "f9ac32dd92e701ad7e48cc5205096d4aa71787e300d641df314947e2255f0cda", checked := Try.checked }
namespace Rows
def none {H : Type} : Left H := { results := [], args := [] }

/-- 'printworkskeep1.RasterTurnsAdd': WHATEVER THE INPUT: true; the input reads as it did. -/
def rasterTurnsAddSpec : ChangeSpec := { name := "rasterTurnsAdd", fn := fun _ => fun
  | [d1, d2, d3, d4, d5] => { results := [.lit (.bool true)], args := [d1, d2, d3, d4, d5] }
  | _ => none }
def rasterTurnsAddRow : OpenClaim := { program := "ytmedlibkhlgdjaa", sum := "f9ac32dd92e701ad7e48cc5205096d4aa71787e300d641df314947e2255f0cda", func := "printworks/printworkskeep1.RasterTurnsAdd", spec := "rasterTurnsAdd", unfollowed := true, recurses := true, apart := false }
def RasterTurnsAddSaid : Prop := rasterTurnsAddRow.holds Try.pinned (OpenSpec.ofChange rasterTurnsAddSpec)

/-- ITS FALSE NEIGHBOUR: 'it returns false'. Refute it at one input. -/
def rasterTurnsAddWrong : ChangeSpec := { name := "rasterTurnsAdd", fn := fun _ => fun
  | [d1, d2, d3, d4, d5] => { results := [.lit (.bool false)], args := [d1, d2, d3, d4, d5] }
  | _ => none }
def RasterTurnsAddWrongFalsely : Prop := rasterTurnsAddRow.holds Try.pinned (OpenSpec.ofChange rasterTurnsAddWrong)

/-- 'printworkskeep1.RasterMapCommutes': WHATEVER THE INPUT: true; the input reads as it did. -/
def rasterMapCommutesSpec : ChangeSpec := { name := "rasterMapCommutes", fn := fun _ => fun
  | [d1, d2, d3, d4, d5] => { results := [.lit (.bool true)], args := [d1, d2, d3, d4, d5] }
  | _ => none }
def rasterMapCommutesRow : OpenClaim := { program := "ytmedlibkhlgdjaa", sum := "f9ac32dd92e701ad7e48cc5205096d4aa71787e300d641df314947e2255f0cda", func := "printworks/printworkskeep1.RasterMapCommutes", spec := "rasterMapCommutes", unfollowed := true, recurses := true, apart := false }
def RasterMapCommutesSaid : Prop := rasterMapCommutesRow.holds Try.pinned (OpenSpec.ofChange rasterMapCommutesSpec)

/-- ITS FALSE NEIGHBOUR: 'it returns false'. Refute it at one input. -/
def rasterMapCommutesWrong : ChangeSpec := { name := "rasterMapCommutes", fn := fun _ => fun
  | [d1, d2, d3, d4, d5] => { results := [.lit (.bool false)], args := [d1, d2, d3, d4, d5] }
  | _ => none }
def RasterMapCommutesWrongFalsely : Prop := rasterMapCommutesRow.holds Try.pinned (OpenSpec.ofChange rasterMapCommutesWrong)

/-- 'printworkskeep1.RasterCropPaste': WHATEVER THE INPUT: true; the input reads as it did. -/
def rasterCropPasteSpec : ChangeSpec := { name := "rasterCropPaste", fn := fun _ => fun
  | [d1, d2, d3, d4, d5, d6, d7, d8] => { results := [.lit (.bool true)], args := [d1, d2, d3, d4, d5, d6, d7, d8] }
  | _ => none }
def rasterCropPasteRow : OpenClaim := { program := "ytmedlibkhlgdjaa", sum := "f9ac32dd92e701ad7e48cc5205096d4aa71787e300d641df314947e2255f0cda", func := "printworks/printworkskeep1.RasterCropPaste", spec := "rasterCropPaste", unfollowed := true, recurses := true, apart := false }
def RasterCropPasteSaid : Prop := rasterCropPasteRow.holds Try.pinned (OpenSpec.ofChange rasterCropPasteSpec)

/-- ITS FALSE NEIGHBOUR: 'it returns false'. Refute it at one input. -/
def rasterCropPasteWrong : ChangeSpec := { name := "rasterCropPaste", fn := fun _ => fun
  | [d1, d2, d3, d4, d5, d6, d7, d8] => { results := [.lit (.bool false)], args := [d1, d2, d3, d4, d5, d6, d7, d8] }
  | _ => none }
def RasterCropPasteWrongFalsely : Prop := rasterCropPasteRow.holds Try.pinned (OpenSpec.ofChange rasterCropPasteWrong)

/-- 'printworkskeep1.AffineThenBound': WHATEVER THE INPUT: true; the input reads as it did. -/
def affineThenBoundSpec : ChangeSpec := { name := "affineThenBound", fn := fun _ => fun
  | [d1, d2, d3] => { results := [.lit (.bool true)], args := [d1, d2, d3] }
  | _ => none }
def affineThenBoundRow : OpenClaim := { program := "ytmedlibkhlgdjaa", sum := "f9ac32dd92e701ad7e48cc5205096d4aa71787e300d641df314947e2255f0cda", func := "printworks/printworkskeep1.AffineThenBound", spec := "affineThenBound", unfollowed := true, recurses := true, apart := false }
def AffineThenBoundSaid : Prop := affineThenBoundRow.holds Try.pinned (OpenSpec.ofChange affineThenBoundSpec)

/-- ITS FALSE NEIGHBOUR: 'it returns false'. Refute it at one input. -/
def affineThenBoundWrong : ChangeSpec := { name := "affineThenBound", fn := fun _ => fun
  | [d1, d2, d3] => { results := [.lit (.bool false)], args := [d1, d2, d3] }
  | _ => none }
def AffineThenBoundWrongFalsely : Prop := affineThenBoundRow.holds Try.pinned (OpenSpec.ofChange affineThenBoundWrong)

/-- 'printworkskeep1.AffineInverseBack': WHATEVER THE INPUT: true; the input reads as it did. -/
def affineInverseBackSpec : ChangeSpec := { name := "affineInverseBack", fn := fun _ => fun
  | [d1, d2] => { results := [.lit (.bool true)], args := [d1, d2] }
  | _ => none }
def affineInverseBackRow : OpenClaim := { program := "ytmedlibkhlgdjaa", sum := "f9ac32dd92e701ad7e48cc5205096d4aa71787e300d641df314947e2255f0cda", func := "printworks/printworkskeep1.AffineInverseBack", spec := "affineInverseBack", unfollowed := true, recurses := true, apart := false }
def AffineInverseBackSaid : Prop := affineInverseBackRow.holds Try.pinned (OpenSpec.ofChange affineInverseBackSpec)

/-- ITS FALSE NEIGHBOUR: 'it returns false'. Refute it at one input. -/
def affineInverseBackWrong : ChangeSpec := { name := "affineInverseBack", fn := fun _ => fun
  | [d1, d2] => { results := [.lit (.bool false)], args := [d1, d2] }
  | _ => none }
def AffineInverseBackWrongFalsely : Prop := affineInverseBackRow.holds Try.pinned (OpenSpec.ofChange affineInverseBackWrong)

/-- 'printworkskeep1.AffineQuarters': WHATEVER THE INPUT: true; the input reads as it did. -/
def affineQuartersSpec : ChangeSpec := { name := "affineQuarters", fn := fun _ => fun
  | [d1, d2, d3, d4] => { results := [.lit (.bool true)], args := [d1, d2, d3, d4] }
  | _ => none }
def affineQuartersRow : OpenClaim := { program := "ytmedlibkhlgdjaa", sum := "f9ac32dd92e701ad7e48cc5205096d4aa71787e300d641df314947e2255f0cda", func := "printworks/printworkskeep1.AffineQuarters", spec := "affineQuarters", unfollowed := true, recurses := true, apart := false }
def AffineQuartersSaid : Prop := affineQuartersRow.holds Try.pinned (OpenSpec.ofChange affineQuartersSpec)

/-- ITS FALSE NEIGHBOUR: 'it returns false'. Refute it at one input. -/
def affineQuartersWrong : ChangeSpec := { name := "affineQuarters", fn := fun _ => fun
  | [d1, d2, d3, d4] => { results := [.lit (.bool false)], args := [d1, d2, d3, d4] }
  | _ => none }
def AffineQuartersWrongFalsely : Prop := affineQuartersRow.holds Try.pinned (OpenSpec.ofChange affineQuartersWrong)

/-- 'printworkskeep1.ConicWithinHull': WHATEVER THE INPUT: true; the input reads as it did. -/
def conicWithinHullSpec : ChangeSpec := { name := "conicWithinHull", fn := fun _ => fun
  | [d1, d2] => { results := [.lit (.bool true)], args := [d1, d2] }
  | _ => none }
def conicWithinHullRow : OpenClaim := { program := "ytmedlibkhlgdjaa", sum := "f9ac32dd92e701ad7e48cc5205096d4aa71787e300d641df314947e2255f0cda", func := "printworks/printworkskeep1.ConicWithinHull", spec := "conicWithinHull", apart := false }
def ConicWithinHullSaid : Prop := conicWithinHullRow.holds Try.pinned (OpenSpec.ofChange conicWithinHullSpec)

/-- ITS FALSE NEIGHBOUR: 'it returns false'. Refute it at one input. -/
def conicWithinHullWrong : ChangeSpec := { name := "conicWithinHull", fn := fun _ => fun
  | [d1, d2] => { results := [.lit (.bool false)], args := [d1, d2] }
  | _ => none }
def ConicWithinHullWrongFalsely : Prop := conicWithinHullRow.holds Try.pinned (OpenSpec.ofChange conicWithinHullWrong)

/-- 'printworkskeep1.ConicCircle': WHATEVER THE INPUT: true; the input reads as it did. -/
def conicCircleSpec : ChangeSpec := { name := "conicCircle", fn := fun _ => fun
  | [d] => { results := [.lit (.bool true)], args := [d] }
  | _ => none }
def conicCircleRow : OpenClaim := { program := "ytmedlibkhlgdjaa", sum := "f9ac32dd92e701ad7e48cc5205096d4aa71787e300d641df314947e2255f0cda", func := "printworks/printworkskeep1.ConicCircle", spec := "conicCircle", apart := false }
def ConicCircleSaid : Prop := conicCircleRow.holds Try.pinned (OpenSpec.ofChange conicCircleSpec)

/-- ITS FALSE NEIGHBOUR: 'it returns false'. Refute it at one input. -/
def conicCircleWrong : ChangeSpec := { name := "conicCircle", fn := fun _ => fun
  | [d] => { results := [.lit (.bool false)], args := [d] }
  | _ => none }
def ConicCircleWrongFalsely : Prop := conicCircleRow.holds Try.pinned (OpenSpec.ofChange conicCircleWrong)

/-- 'printworkskeep1.ComposeBetween': WHATEVER THE INPUT: true; the input reads as it did. -/
def composeBetweenSpec : ChangeSpec := { name := "composeBetween", fn := fun _ => fun
  | [d1, d2, d3] => { results := [.lit (.bool true)], args := [d1, d2, d3] }
  | _ => none }
def composeBetweenRow : OpenClaim := { program := "ytmedlibkhlgdjaa", sum := "f9ac32dd92e701ad7e48cc5205096d4aa71787e300d641df314947e2255f0cda", func := "printworks/printworkskeep1.ComposeBetween", spec := "composeBetween", unfollowed := true, recurses := true, apart := false }
def ComposeBetweenSaid : Prop := composeBetweenRow.holds Try.pinned (OpenSpec.ofChange composeBetweenSpec)

/-- ITS FALSE NEIGHBOUR: 'it returns false'. Refute it at one input. -/
def composeBetweenWrong : ChangeSpec := { name := "composeBetween", fn := fun _ => fun
  | [d1, d2, d3] => { results := [.lit (.bool false)], args := [d1, d2, d3] }
  | _ => none }
def ComposeBetweenWrongFalsely : Prop := composeBetweenRow.holds Try.pinned (OpenSpec.ofChange composeBetweenWrong)

/-- 'printworkskeep1.ComposeOverprint': WHATEVER THE INPUT: true; the input reads as it did. -/
def composeOverprintSpec : ChangeSpec := { name := "composeOverprint", fn := fun _ => fun
  | [d1, d2, d3, d4] => { results := [.lit (.bool true)], args := [d1, d2, d3, d4] }
  | _ => none }
def composeOverprintRow : OpenClaim := { program := "ytmedlibkhlgdjaa", sum := "f9ac32dd92e701ad7e48cc5205096d4aa71787e300d641df314947e2255f0cda", func := "printworks/printworkskeep1.ComposeOverprint", spec := "composeOverprint", unfollowed := true, recurses := true, apart := false }
def ComposeOverprintSaid : Prop := composeOverprintRow.holds Try.pinned (OpenSpec.ofChange composeOverprintSpec)

/-- ITS FALSE NEIGHBOUR: 'it returns false'. Refute it at one input. -/
def composeOverprintWrong : ChangeSpec := { name := "composeOverprint", fn := fun _ => fun
  | [d1, d2, d3, d4] => { results := [.lit (.bool false)], args := [d1, d2, d3, d4] }
  | _ => none }
def ComposeOverprintWrongFalsely : Prop := composeOverprintRow.holds Try.pinned (OpenSpec.ofChange composeOverprintWrong)

/-- 'printworkskeep1.ComposeIdentities': WHATEVER THE INPUT: true; the input reads as it did. -/
def composeIdentitiesSpec : ChangeSpec := { name := "composeIdentities", fn := fun _ => fun
  | [d1, d2, d3, d4, d5] => { results := [.lit (.bool true)], args := [d1, d2, d3, d4, d5] }
  | _ => none }
def composeIdentitiesRow : OpenClaim := { program := "ytmedlibkhlgdjaa", sum := "f9ac32dd92e701ad7e48cc5205096d4aa71787e300d641df314947e2255f0cda", func := "printworks/printworkskeep1.ComposeIdentities", spec := "composeIdentities", unfollowed := true, recurses := true, apart := false }
def ComposeIdentitiesSaid : Prop := composeIdentitiesRow.holds Try.pinned (OpenSpec.ofChange composeIdentitiesSpec)

/-- ITS FALSE NEIGHBOUR: 'it returns false'. Refute it at one input. -/
def composeIdentitiesWrong : ChangeSpec := { name := "composeIdentities", fn := fun _ => fun
  | [d1, d2, d3, d4, d5] => { results := [.lit (.bool false)], args := [d1, d2, d3, d4, d5] }
  | _ => none }
def ComposeIdentitiesWrongFalsely : Prop := composeIdentitiesRow.holds Try.pinned (OpenSpec.ofChange composeIdentitiesWrong)

/-- 'printworkskeep1.ImageBoxSamples': WHATEVER THE INPUT: true; the input reads as it did. -/
def imageBoxSamplesSpec : ChangeSpec := { name := "imageBoxSamples", fn := fun _ => fun
  | [d1, d2, d3, d4, d5, d6, d7, d8] => { results := [.lit (.bool true)], args := [d1, d2, d3, d4, d5, d6, d7, d8] }
  | _ => none }
def imageBoxSamplesRow : OpenClaim := { program := "ytmedlibkhlgdjaa", sum := "f9ac32dd92e701ad7e48cc5205096d4aa71787e300d641df314947e2255f0cda", func := "printworks/printworkskeep1.ImageBoxSamples", spec := "imageBoxSamples", unfollowed := true, recurses := true, apart := false }
def ImageBoxSamplesSaid : Prop := imageBoxSamplesRow.holds Try.pinned (OpenSpec.ofChange imageBoxSamplesSpec)

/-- ITS FALSE NEIGHBOUR: 'it returns false'. Refute it at one input. -/
def imageBoxSamplesWrong : ChangeSpec := { name := "imageBoxSamples", fn := fun _ => fun
  | [d1, d2, d3, d4, d5, d6, d7, d8] => { results := [.lit (.bool false)], args := [d1, d2, d3, d4, d5, d6, d7, d8] }
  | _ => none }
def ImageBoxSamplesWrongFalsely : Prop := imageBoxSamplesRow.holds Try.pinned (OpenSpec.ofChange imageBoxSamplesWrong)

/-- 'printworkskeep1.ImageSmoothBetween': WHATEVER THE INPUT: true; the input reads as it did. -/
def imageSmoothBetweenSpec : ChangeSpec := { name := "imageSmoothBetween", fn := fun _ => fun
  | [d1, d2, d3, d4, d5, d6] => { results := [.lit (.bool true)], args := [d1, d2, d3, d4, d5, d6] }
  | _ => none }
def imageSmoothBetweenRow : OpenClaim := { program := "ytmedlibkhlgdjaa", sum := "f9ac32dd92e701ad7e48cc5205096d4aa71787e300d641df314947e2255f0cda", func := "printworks/printworkskeep1.ImageSmoothBetween", spec := "imageSmoothBetween", unfollowed := true, recurses := true, apart := false }
def ImageSmoothBetweenSaid : Prop := imageSmoothBetweenRow.holds Try.pinned (OpenSpec.ofChange imageSmoothBetweenSpec)

/-- ITS FALSE NEIGHBOUR: 'it returns false'. Refute it at one input. -/
def imageSmoothBetweenWrong : ChangeSpec := { name := "imageSmoothBetween", fn := fun _ => fun
  | [d1, d2, d3, d4, d5, d6] => { results := [.lit (.bool false)], args := [d1, d2, d3, d4, d5, d6] }
  | _ => none }
def ImageSmoothBetweenWrongFalsely : Prop := imageSmoothBetweenRow.holds Try.pinned (OpenSpec.ofChange imageSmoothBetweenWrong)

/- THE SECOND FORM. 'bulk': how many values and letters a reading holds, each counted each time it is reached (what is shared counts as often as it is met; a slice's spare places count too). A statement '..UptoSaid' is the law's where the arguments, and the package variables that the reading takes, are together of bulk at most 1048576: NARROWER than '..Said'. Prove '..Said' where nothing that the law and all that it calls make is longer than what came in: it says more and counts as full. Else prove '..UptoSaid'. A law counts once. -/
mutual
def uptoBulk {H : Type} : DataW H → Nat
  | .lit (.string bytes) => bytes.length + 1
  | .lit _ => 1
  | .nil => 1
  | .ptr d => uptoBulk d + 1
  | .slice elems spare => uptoBulkAll elems + uptoBulkAll spare + 1
  | .agg parts => uptoBulkAll parts + 1
  | .iface _ d => uptoBulk d + 1
  | .map entries => uptoBulkEntries entries + 1
  | .held _ => 1
def uptoBulkAll {H : Type} : List (DataW H) → Nat
  | [] => 0
  | d :: r => uptoBulk d + uptoBulkAll r
def uptoBulkEntries {H : Type} : List (Lit × DataW H) → Nat
  | [] => 0
  | x :: r => uptoBulkEntry x + uptoBulkEntries r
def uptoBulkEntry {H : Type} : Lit × DataW H → Nat
  | (.string bytes, d) => bytes.length + uptoBulk d + 1
  | (_, d) => uptoBulk d + 1
 end
def uptoSmall : (H : Type) → List (DataW H) → Bool := fun _ ds => decide (uptoBulkAll ds ≤ 1048576)
def OpenSpec.upto (s : _root_.Go.ChangeSpec) : _root_.Go.OpenSpec := { _root_.Go.OpenSpec.ofChange s with cond := some uptoSmall }

/-- 'printworkskeep1.RasterTurnsAdd', WHERE WHAT IT READS IS OF BULK AT MOST 1048576: true; the input reads as it did. -/
def rasterTurnsAddUptoRow : OpenClaim := { program := "ytmedlibkhlgdjaa", sum := "f9ac32dd92e701ad7e48cc5205096d4aa71787e300d641df314947e2255f0cda", func := "printworks/printworkskeep1.RasterTurnsAdd", spec := "rasterTurnsAdd", unfollowed := true, recurses := true, apart := false, narrowed := true }
def RasterTurnsAddUptoSaid : Prop := rasterTurnsAddUptoRow.holds Try.pinned (OpenSpec.upto rasterTurnsAddSpec)

/-- 'printworkskeep1.RasterMapCommutes', WHERE WHAT IT READS IS OF BULK AT MOST 1048576: true; the input reads as it did. -/
def rasterMapCommutesUptoRow : OpenClaim := { program := "ytmedlibkhlgdjaa", sum := "f9ac32dd92e701ad7e48cc5205096d4aa71787e300d641df314947e2255f0cda", func := "printworks/printworkskeep1.RasterMapCommutes", spec := "rasterMapCommutes", unfollowed := true, recurses := true, apart := false, narrowed := true }
def RasterMapCommutesUptoSaid : Prop := rasterMapCommutesUptoRow.holds Try.pinned (OpenSpec.upto rasterMapCommutesSpec)

/-- 'printworkskeep1.RasterCropPaste', WHERE WHAT IT READS IS OF BULK AT MOST 1048576: true; the input reads as it did. -/
def rasterCropPasteUptoRow : OpenClaim := { program := "ytmedlibkhlgdjaa", sum := "f9ac32dd92e701ad7e48cc5205096d4aa71787e300d641df314947e2255f0cda", func := "printworks/printworkskeep1.RasterCropPaste", spec := "rasterCropPaste", unfollowed := true, recurses := true, apart := false, narrowed := true }
def RasterCropPasteUptoSaid : Prop := rasterCropPasteUptoRow.holds Try.pinned (OpenSpec.upto rasterCropPasteSpec)

/-- 'printworkskeep1.AffineThenBound', WHERE WHAT IT READS IS OF BULK AT MOST 1048576: true; the input reads as it did. -/
def affineThenBoundUptoRow : OpenClaim := { program := "ytmedlibkhlgdjaa", sum := "f9ac32dd92e701ad7e48cc5205096d4aa71787e300d641df314947e2255f0cda", func := "printworks/printworkskeep1.AffineThenBound", spec := "affineThenBound", unfollowed := true, recurses := true, apart := false, narrowed := true }
def AffineThenBoundUptoSaid : Prop := affineThenBoundUptoRow.holds Try.pinned (OpenSpec.upto affineThenBoundSpec)

/-- 'printworkskeep1.AffineInverseBack', WHERE WHAT IT READS IS OF BULK AT MOST 1048576: true; the input reads as it did. -/
def affineInverseBackUptoRow : OpenClaim := { program := "ytmedlibkhlgdjaa", sum := "f9ac32dd92e701ad7e48cc5205096d4aa71787e300d641df314947e2255f0cda", func := "printworks/printworkskeep1.AffineInverseBack", spec := "affineInverseBack", unfollowed := true, recurses := true, apart := false, narrowed := true }
def AffineInverseBackUptoSaid : Prop := affineInverseBackUptoRow.holds Try.pinned (OpenSpec.upto affineInverseBackSpec)

/-- 'printworkskeep1.AffineQuarters', WHERE WHAT IT READS IS OF BULK AT MOST 1048576: true; the input reads as it did. -/
def affineQuartersUptoRow : OpenClaim := { program := "ytmedlibkhlgdjaa", sum := "f9ac32dd92e701ad7e48cc5205096d4aa71787e300d641df314947e2255f0cda", func := "printworks/printworkskeep1.AffineQuarters", spec := "affineQuarters", unfollowed := true, recurses := true, apart := false, narrowed := true }
def AffineQuartersUptoSaid : Prop := affineQuartersUptoRow.holds Try.pinned (OpenSpec.upto affineQuartersSpec)

/-- 'printworkskeep1.ConicWithinHull', WHERE WHAT IT READS IS OF BULK AT MOST 1048576: true; the input reads as it did. -/
def conicWithinHullUptoRow : OpenClaim := { program := "ytmedlibkhlgdjaa", sum := "f9ac32dd92e701ad7e48cc5205096d4aa71787e300d641df314947e2255f0cda", func := "printworks/printworkskeep1.ConicWithinHull", spec := "conicWithinHull", apart := false, narrowed := true }
def ConicWithinHullUptoSaid : Prop := conicWithinHullUptoRow.holds Try.pinned (OpenSpec.upto conicWithinHullSpec)

/-- 'printworkskeep1.ConicCircle', WHERE WHAT IT READS IS OF BULK AT MOST 1048576: true; the input reads as it did. -/
def conicCircleUptoRow : OpenClaim := { program := "ytmedlibkhlgdjaa", sum := "f9ac32dd92e701ad7e48cc5205096d4aa71787e300d641df314947e2255f0cda", func := "printworks/printworkskeep1.ConicCircle", spec := "conicCircle", apart := false, narrowed := true }
def ConicCircleUptoSaid : Prop := conicCircleUptoRow.holds Try.pinned (OpenSpec.upto conicCircleSpec)

/-- 'printworkskeep1.ComposeBetween', WHERE WHAT IT READS IS OF BULK AT MOST 1048576: true; the input reads as it did. -/
def composeBetweenUptoRow : OpenClaim := { program := "ytmedlibkhlgdjaa", sum := "f9ac32dd92e701ad7e48cc5205096d4aa71787e300d641df314947e2255f0cda", func := "printworks/printworkskeep1.ComposeBetween", spec := "composeBetween", unfollowed := true, recurses := true, apart := false, narrowed := true }
def ComposeBetweenUptoSaid : Prop := composeBetweenUptoRow.holds Try.pinned (OpenSpec.upto composeBetweenSpec)

/-- 'printworkskeep1.ComposeOverprint', WHERE WHAT IT READS IS OF BULK AT MOST 1048576: true; the input reads as it did. -/
def composeOverprintUptoRow : OpenClaim := { program := "ytmedlibkhlgdjaa", sum := "f9ac32dd92e701ad7e48cc5205096d4aa71787e300d641df314947e2255f0cda", func := "printworks/printworkskeep1.ComposeOverprint", spec := "composeOverprint", unfollowed := true, recurses := true, apart := false, narrowed := true }
def ComposeOverprintUptoSaid : Prop := composeOverprintUptoRow.holds Try.pinned (OpenSpec.upto composeOverprintSpec)

/-- 'printworkskeep1.ComposeIdentities', WHERE WHAT IT READS IS OF BULK AT MOST 1048576: true; the input reads as it did. -/
def composeIdentitiesUptoRow : OpenClaim := { program := "ytmedlibkhlgdjaa", sum := "f9ac32dd92e701ad7e48cc5205096d4aa71787e300d641df314947e2255f0cda", func := "printworks/printworkskeep1.ComposeIdentities", spec := "composeIdentities", unfollowed := true, recurses := true, apart := false, narrowed := true }
def ComposeIdentitiesUptoSaid : Prop := composeIdentitiesUptoRow.holds Try.pinned (OpenSpec.upto composeIdentitiesSpec)

/-- 'printworkskeep1.ImageBoxSamples', WHERE WHAT IT READS IS OF BULK AT MOST 1048576: true; the input reads as it did. -/
def imageBoxSamplesUptoRow : OpenClaim := { program := "ytmedlibkhlgdjaa", sum := "f9ac32dd92e701ad7e48cc5205096d4aa71787e300d641df314947e2255f0cda", func := "printworks/printworkskeep1.ImageBoxSamples", spec := "imageBoxSamples", unfollowed := true, recurses := true, apart := false, narrowed := true }
def ImageBoxSamplesUptoSaid : Prop := imageBoxSamplesUptoRow.holds Try.pinned (OpenSpec.upto imageBoxSamplesSpec)

/-- 'printworkskeep1.ImageSmoothBetween', WHERE WHAT IT READS IS OF BULK AT MOST 1048576: true; the input reads as it did. -/
def imageSmoothBetweenUptoRow : OpenClaim := { program := "ytmedlibkhlgdjaa", sum := "f9ac32dd92e701ad7e48cc5205096d4aa71787e300d641df314947e2255f0cda", func := "printworks/printworkskeep1.ImageSmoothBetween", spec := "imageSmoothBetween", unfollowed := true, recurses := true, apart := false, narrowed := true }
def ImageSmoothBetweenUptoSaid : Prop := imageSmoothBetweenUptoRow.holds Try.pinned (OpenSpec.upto imageSmoothBetweenSpec)

end Rows
end Go.Proofs.Ytmedlibkhlgdjaa
