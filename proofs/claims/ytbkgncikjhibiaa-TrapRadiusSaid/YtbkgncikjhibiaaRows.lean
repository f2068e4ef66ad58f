/-
  No cell of these rows narrows 'for every input' (looked for: loops, veiled, ifaces, maps, wideKeys, modest, calm, conditions, laid).
  DERIVED. THE GIVEN ROWS OF THIS SEAT. 2 by the template 'for every input the law returns true; each argument reads behind the call as it read before'; 0 by the template 'total and deterministic' (their statements: YtbkgncikjhibiaaTotals.lean).
  GIVEN WITH THE SEED: the statements are not yours to turn. If you find one false, say at which input.
  Laid BY PROGRAM, IN A SANDBOX (cutbox-rows.mjs): the forced cells as the released guide's own fill.sh prints them over the translation 5d578ed6f2d00cdb… (all of the seat's roots in one cut). By AI agents, Wed Nov 11 2026. No macro, syntax, notation, axiom, sorry.
-/
import Derived.Test.YtbkgncikjhibiaaChecked
import GoSem.Claim
import GoSem.ClaimJoined
import GoSem.ClaimMapViews
import Derived.JoinedTies
import Derived.KernelRfl
namespace Go.Proofs.Ytbkgncikjhibiaa
/- THE CELL 'sum', in the pinned program and in every row, IS THE sha256 OF THE DUMP (.gsa) THAT YtbkgncikjhibiaaProg.lean LOADS. Nothing in Lean hashes anything: it is a label: what it is worth is what the hold of that sum in a sandbox is worth. -/
noncomputable def Try.pinned : Pinned := { name := "ytbkgncikjhibiaa", sum := "5d578ed6f2d00cdb6264cf611313a87531890b5c1e14bcce3e258114b64e33da", checked := Try.checked }
namespace Rows
def none {H : Type} : Left H := { results := [], args := [] }

/-- 'printworkskeep1.PullKeepsKey': WHATEVER THE INPUT: true; the input reads as it did. -/
def pullKeepsKeySpec : ChangeSpec := { name := "pullKeepsKey", fn := fun _ => fun
  | [d1, d2, d3, d4, d5] => { results := [.lit (.bool true)], args := [d1, d2, d3, d4, d5] }
  | _ => none }
def pullKeepsKeyRow : OpenClaim := { program := "ytbkgncikjhibiaa", sum := "5d578ed6f2d00cdb6264cf611313a87531890b5c1e14bcce3e258114b64e33da", func := "printworks/printworkskeep1.PullKeepsKey", spec := "pullKeepsKey", unfollowed := true, recurses := true, plainKeys := false, leaving := true, apart := false }
def PullKeepsKeySaid : Prop := pullKeepsKeyRow.holds Try.pinned (OpenSpec.ofChange pullKeepsKeySpec)

/-- ITS FALSE NEIGHBOUR: 'it returns false'. Refute it at one input. -/
def pullKeepsKeyWrong : ChangeSpec := { name := "pullKeepsKey", fn := fun _ => fun
  | [d1, d2, d3, d4, d5] => { results := [.lit (.bool false)], args := [d1, d2, d3, d4, d5] }
  | _ => none }
def PullKeepsKeyWrongFalsely : Prop := pullKeepsKeyRow.holds Try.pinned (OpenSpec.ofChange pullKeepsKeyWrong)

/-- 'printworkskeep1.TrapRadius': WHATEVER THE INPUT: true; the input reads as it did. -/
def trapRadiusSpec : ChangeSpec := { name := "trapRadius", fn := fun _ => fun
  | [d1, d2, d3, d4, d5, d6, d7] => { results := [.lit (.bool true)], args := [d1, d2, d3, d4, d5, d6, d7] }
  | _ => none }
def trapRadiusRow : OpenClaim := { program := "ytbkgncikjhibiaa", sum := "5d578ed6f2d00cdb6264cf611313a87531890b5c1e14bcce3e258114b64e33da", func := "printworks/printworkskeep1.TrapRadius", spec := "trapRadius", inPlace := ["(*sync.WaitGroup).Add", "internal/race.ReleaseMerge", "internal/race.Disable", "internal/race.Enable", "internal/synctest.IsInBubble", "internal/synctest.Associate[sync.WaitGroup]", "sync.fatal", "sync/atomic.OrUint64", "sync/atomic.AddUint64", "internal/race.Read", "sync/atomic.LoadUint64", "sync/atomic.StoreUint64", "internal/synctest.Disassociate[sync.WaitGroup]", "sync.runtime_Semrelease", "(*sync.WaitGroup).Done", "(*sync.WaitGroup).Wait", "internal/race.Acquire", "internal/synctest.IsAssociated[sync.WaitGroup]", "sync/atomic.CompareAndSwapUint64", "internal/race.Write", "sync.runtime_SemacquireWaitGroup"], unfollowed := true, recurses := true, plainKeys := false, leaving := true, apart := false }
def TrapRadiusSaid : Prop := trapRadiusRow.holds Try.pinned (OpenSpec.ofChange trapRadiusSpec)

/-- ITS FALSE NEIGHBOUR: 'it returns false'. Refute it at one input. -/
def trapRadiusWrong : ChangeSpec := { name := "trapRadius", fn := fun _ => fun
  | [d1, d2, d3, d4, d5, d6, d7] => { results := [.lit (.bool false)], args := [d1, d2, d3, d4, d5, d6, d7] }
  | _ => none }
def TrapRadiusWrongFalsely : Prop := trapRadiusRow.holds Try.pinned (OpenSpec.ofChange trapRadiusWrong)

/- THE SECOND FORM. 'bulk': how many values and letters a reading holds, each counted each time it is reached (what is shared counts as often as it is met; a slice's spare places count too). A statement '..UptoSaid' is the law's where the arguments, and the package variables that the reading takes, are together of bulk at most 1048576: NARROWER than '..Said'. Prove '..Said' where nothing that the law and all that it calls make is longer than what came in: it says more and counts as full. Else prove '..UptoSaid'. A law counts once. -/
mutual
def uptoBulk {H : Type} : DataW H → Nat
  | .lit (.string bytes) => bytes.length + 1
  | .lit _ => 1
  | .nil => 1
  | .ptr d => uptoBulk d + 1
  | .slice elems spare => uptoBulkAll elems + uptoBulkAll spare + 1
  | .agg parts => uptoBulkAll parts + 1
  | .iface _ d => uptoBulk d + 1
  | .map entries => uptoBulkEntries entries + 1
  | .held _ => 1
def uptoBulkAll {H : Type} : List (DataW H) → Nat
  | [] => 0
  | d :: r => uptoBulk d + uptoBulkAll r
def uptoBulkEntries {H : Type} : List (Lit × DataW H) → Nat
  | [] => 0
  | x :: r => uptoBulkEntry x + uptoBulkEntries r
def uptoBulkEntry {H : Type} : Lit × DataW H → Nat
  | (.string bytes, d) => bytes.length + uptoBulk d + 1
  | (_, d) => uptoBulk d + 1
 end
def uptoSmall : (H : Type) → List (DataW H) → Bool := fun _ ds => decide (uptoBulkAll ds ≤ 1048576)
def OpenSpec.upto (s : _root_.Go.ChangeSpec) : _root_.Go.OpenSpec := { _root_.Go.OpenSpec.ofChange s with cond := some uptoSmall }

/-- 'printworkskeep1.PullKeepsKey', WHERE WHAT IT READS IS OF BULK AT MOST 1048576: true; the input reads as it did. -/
def pullKeepsKeyUptoRow : OpenClaim := { program := "ytbkgncikjhibiaa", sum := "5d578ed6f2d00cdb6264cf611313a87531890b5c1e14bcce3e258114b64e33da", func := "printworks/printworkskeep1.PullKeepsKey", spec := "pullKeepsKey", unfollowed := true, recurses := true, plainKeys := false, leaving := true, apart := false, narrowed := true }
def PullKeepsKeyUptoSaid : Prop := pullKeepsKeyUptoRow.holds Try.pinned (OpenSpec.upto pullKeepsKeySpec)

/-- 'printworkskeep1.TrapRadius', WHERE WHAT IT READS IS OF BULK AT MOST 1048576: true; the input reads as it did. -/
def trapRadiusUptoRow : OpenClaim := { program := "ytbkgncikjhibiaa", sum := "5d578ed6f2d00cdb6264cf611313a87531890b5c1e14bcce3e258114b64e33da", func := "printworks/printworkskeep1.TrapRadius", spec := "trapRadius", inPlace := ["(*sync.WaitGroup).Add", "internal/race.ReleaseMerge", "internal/race.Disable", "internal/race.Enable", "internal/synctest.IsInBubble", "internal/synctest.Associate[sync.WaitGroup]", "sync.fatal", "sync/atomic.OrUint64", "sync/atomic.AddUint64", "internal/race.Read", "sync/atomic.LoadUint64", "sync/atomic.StoreUint64", "internal/synctest.Disassociate[sync.WaitGroup]", "sync.runtime_Semrelease", "(*sync.WaitGroup).Done", "(*sync.WaitGroup).Wait", "internal/race.Acquire", "internal/synctest.IsAssociated[sync.WaitGroup]", "sync/atomic.CompareAndSwapUint64", "internal/race.Write", "sync.runtime_SemacquireWaitGroup"], unfollowed := true, recurses := true, plainKeys := false, leaving := true, apart := false, narrowed := true }
def TrapRadiusUptoSaid : Prop := trapRadiusUptoRow.holds Try.pinned (OpenSpec.upto trapRadiusSpec)

end Rows
end Go.Proofs.Ytbkgncikjhibiaa
