/-
  No cell of these rows narrows 'for every input' (looked for: loops, veiled, ifaces, maps, wideKeys, modest, calm, conditions, laid).
  DERIVED. THE GIVEN ROWS OF THIS SEAT. 26 by the template 'for every input the law returns true; each argument reads behind the call as it read before'; 0 by the template 'total and deterministic' (their statements: YthneebbmodkjiaaTotals.lean).
  GIVEN WITH THE SEED: the statements are not yours to turn. If you find one false, say at which input.
  Laid BY PROGRAM, IN A SANDBOX (cutbox-rows.mjs): the forced cells as the released guide's own fill.sh prints them over the translation 0ab86a863de5aea1… (all of the seat's roots in one cut). By AI agents, Wed Nov 11 2026. No macro, syntax, notation, axiom, sorry.
-/
import Derived.Test.YthneebbmodkjiaaChecked
import GoSem.Claim
import GoSem.ClaimJoined
import GoSem.ClaimMapViews
import Derived.JoinedTies
import Derived.KernelRfl
namespace Go.Proofs.Ythneebbmodkjiaa
/- THE CELL 'sum', in the pinned program and in every row, IS THE sha256 OF THE DUMP (.gsa) THAT YthneebbmodkjiaaProg.lean LOADS. Nothing in Lean hashes anything: it is a label: what it is worth is what the hold of that sum in a sandbox is worth. -/
noncomputable def Try.pinned : Pinned := { name := "ythneebbmodkjiaa", sum := "0ab86a863de5aea1755e57d97a4007e715fbb4482daf363931d28a55a7aab3c6", checked := Try.checked }
namespace Rows
def none {H : Type} : Left H := { results := [], args := [] }

/-- 'tarnlaw9.DiskPieces': WHATEVER THE INPUT: true; the input reads as it did. -/
def diskPiecesSpec : ChangeSpec := { name := "diskPieces", fn := fun _ => fun
  | [d] => { results := [.lit (.bool true)], args := [d] }
  | _ => none }
def diskPiecesRow : OpenClaim := { program := "ythneebbmodkjiaa", sum := "0ab86a863de5aea1755e57d97a4007e715fbb4482daf363931d28a55a7aab3c6", func := "tarn/tarnlaw9.DiskPieces", spec := "diskPieces", unfollowed := true, recurses := true, apart := false }
def DiskPiecesSaid : Prop := diskPiecesRow.holds Try.pinned (OpenSpec.ofChange diskPiecesSpec)

/-- ITS FALSE NEIGHBOUR: 'it returns false'. Refute it at one input. -/
def diskPiecesWrong : ChangeSpec := { name := "diskPieces", fn := fun _ => fun
  | [d] => { results := [.lit (.bool false)], args := [d] }
  | _ => none }
def DiskPiecesWrongFalsely : Prop := diskPiecesRow.holds Try.pinned (OpenSpec.ofChange diskPiecesWrong)

/-- 'tarnlaw9.DiskSafe': WHATEVER THE INPUT: true; the input reads as it did. -/
def diskSafeSpec : ChangeSpec := { name := "diskSafe", fn := fun _ => fun
  | [d] => { results := [.lit (.bool true)], args := [d] }
  | _ => none }
def diskSafeRow : OpenClaim := { program := "ythneebbmodkjiaa", sum := "0ab86a863de5aea1755e57d97a4007e715fbb4482daf363931d28a55a7aab3c6", func := "tarn/tarnlaw9.DiskSafe", spec := "diskSafe", unfollowed := true, recurses := true, apart := false }
def DiskSafeSaid : Prop := diskSafeRow.holds Try.pinned (OpenSpec.ofChange diskSafeSpec)

/-- ITS FALSE NEIGHBOUR: 'it returns false'. Refute it at one input. -/
def diskSafeWrong : ChangeSpec := { name := "diskSafe", fn := fun _ => fun
  | [d] => { results := [.lit (.bool false)], args := [d] }
  | _ => none }
def DiskSafeWrongFalsely : Prop := diskSafeRow.holds Try.pinned (OpenSpec.ofChange diskSafeWrong)

/-- 'tarnlaw9.DiskHoles': WHATEVER THE INPUT: true; the input reads as it did. -/
def diskHolesSpec : ChangeSpec := { name := "diskHoles", fn := fun _ => fun
  | [d] => { results := [.lit (.bool true)], args := [d] }
  | _ => none }
def diskHolesRow : OpenClaim := { program := "ythneebbmodkjiaa", sum := "0ab86a863de5aea1755e57d97a4007e715fbb4482daf363931d28a55a7aab3c6", func := "tarn/tarnlaw9.DiskHoles", spec := "diskHoles", unfollowed := true, recurses := true, apart := false }
def DiskHolesSaid : Prop := diskHolesRow.holds Try.pinned (OpenSpec.ofChange diskHolesSpec)

/-- ITS FALSE NEIGHBOUR: 'it returns false'. Refute it at one input. -/
def diskHolesWrong : ChangeSpec := { name := "diskHoles", fn := fun _ => fun
  | [d] => { results := [.lit (.bool false)], args := [d] }
  | _ => none }
def DiskHolesWrongFalsely : Prop := diskHolesRow.holds Try.pinned (OpenSpec.ofChange diskHolesWrong)

/-- 'tarnlaw9.DiskFails': WHATEVER THE INPUT: true; the input reads as it did. -/
def diskFailsSpec : ChangeSpec := { name := "diskFails", fn := fun _ => fun
  | [d] => { results := [.lit (.bool true)], args := [d] }
  | _ => none }
def diskFailsRow : OpenClaim := { program := "ythneebbmodkjiaa", sum := "0ab86a863de5aea1755e57d97a4007e715fbb4482daf363931d28a55a7aab3c6", func := "tarn/tarnlaw9.DiskFails", spec := "diskFails", unfollowed := true, recurses := true, apart := false }
def DiskFailsSaid : Prop := diskFailsRow.holds Try.pinned (OpenSpec.ofChange diskFailsSpec)

/-- ITS FALSE NEIGHBOUR: 'it returns false'. Refute it at one input. -/
def diskFailsWrong : ChangeSpec := { name := "diskFails", fn := fun _ => fun
  | [d] => { results := [.lit (.bool false)], args := [d] }
  | _ => none }
def DiskFailsWrongFalsely : Prop := diskFailsRow.holds Try.pinned (OpenSpec.ofChange diskFailsWrong)

/-- 'tarnlaw9.DiskExact': WHATEVER THE INPUT: true; the input reads as it did. -/
def diskExactSpec : ChangeSpec := { name := "diskExact", fn := fun _ => fun
  | [d] => { results := [.lit (.bool true)], args := [d] }
  | _ => none }
def diskExactRow : OpenClaim := { program := "ythneebbmodkjiaa", sum := "0ab86a863de5aea1755e57d97a4007e715fbb4482daf363931d28a55a7aab3c6", func := "tarn/tarnlaw9.DiskExact", spec := "diskExact", unfollowed := true, recurses := true, apart := false }
def DiskExactSaid : Prop := diskExactRow.holds Try.pinned (OpenSpec.ofChange diskExactSpec)

/-- ITS FALSE NEIGHBOUR: 'it returns false'. Refute it at one input. -/
def diskExactWrong : ChangeSpec := { name := "diskExact", fn := fun _ => fun
  | [d] => { results := [.lit (.bool false)], args := [d] }
  | _ => none }
def DiskExactWrongFalsely : Prop := diskExactRow.holds Try.pinned (OpenSpec.ofChange diskExactWrong)

/-- 'tarnlaw9.DiskReads': WHATEVER THE INPUT: true; the input reads as it did. -/
def diskReadsSpec : ChangeSpec := { name := "diskReads", fn := fun _ => fun
  | [d] => { results := [.lit (.bool true)], args := [d] }
  | _ => none }
def diskReadsRow : OpenClaim := { program := "ythneebbmodkjiaa", sum := "0ab86a863de5aea1755e57d97a4007e715fbb4482daf363931d28a55a7aab3c6", func := "tarn/tarnlaw9.DiskReads", spec := "diskReads", unfollowed := true, recurses := true, apart := false }
def DiskReadsSaid : Prop := diskReadsRow.holds Try.pinned (OpenSpec.ofChange diskReadsSpec)

/-- ITS FALSE NEIGHBOUR: 'it returns false'. Refute it at one input. -/
def diskReadsWrong : ChangeSpec := { name := "diskReads", fn := fun _ => fun
  | [d] => { results := [.lit (.bool false)], args := [d] }
  | _ => none }
def DiskReadsWrongFalsely : Prop := diskReadsRow.holds Try.pinned (OpenSpec.ofChange diskReadsWrong)

/-- 'tarnlaw9.DiskCuts': WHATEVER THE INPUT: true; the input reads as it did. -/
def diskCutsSpec : ChangeSpec := { name := "diskCuts", fn := fun _ => fun
  | [d] => { results := [.lit (.bool true)], args := [d] }
  | _ => none }
def diskCutsRow : OpenClaim := { program := "ythneebbmodkjiaa", sum := "0ab86a863de5aea1755e57d97a4007e715fbb4482daf363931d28a55a7aab3c6", func := "tarn/tarnlaw9.DiskCuts", spec := "diskCuts", unfollowed := true, recurses := true, apart := false }
def DiskCutsSaid : Prop := diskCutsRow.holds Try.pinned (OpenSpec.ofChange diskCutsSpec)

/-- ITS FALSE NEIGHBOUR: 'it returns false'. Refute it at one input. -/
def diskCutsWrong : ChangeSpec := { name := "diskCuts", fn := fun _ => fun
  | [d] => { results := [.lit (.bool false)], args := [d] }
  | _ => none }
def DiskCutsWrongFalsely : Prop := diskCutsRow.holds Try.pinned (OpenSpec.ofChange diskCutsWrong)

/-- 'tarnlaw9.DiskSyncs': WHATEVER THE INPUT: true; the input reads as it did. -/
def diskSyncsSpec : ChangeSpec := { name := "diskSyncs", fn := fun _ => fun
  | [d] => { results := [.lit (.bool true)], args := [d] }
  | _ => none }
def diskSyncsRow : OpenClaim := { program := "ythneebbmodkjiaa", sum := "0ab86a863de5aea1755e57d97a4007e715fbb4482daf363931d28a55a7aab3c6", func := "tarn/tarnlaw9.DiskSyncs", spec := "diskSyncs", unfollowed := true, recurses := true, apart := false }
def DiskSyncsSaid : Prop := diskSyncsRow.holds Try.pinned (OpenSpec.ofChange diskSyncsSpec)

/-- ITS FALSE NEIGHBOUR: 'it returns false'. Refute it at one input. -/
def diskSyncsWrong : ChangeSpec := { name := "diskSyncs", fn := fun _ => fun
  | [d] => { results := [.lit (.bool false)], args := [d] }
  | _ => none }
def DiskSyncsWrongFalsely : Prop := diskSyncsRow.holds Try.pinned (OpenSpec.ofChange diskSyncsWrong)

/-- 'tarnlaw9.DiskOffs': WHATEVER THE INPUT: true; the input reads as it did. -/
def diskOffsSpec : ChangeSpec := { name := "diskOffs", fn := fun _ => fun
  | [d] => { results := [.lit (.bool true)], args := [d] }
  | _ => none }
def diskOffsRow : OpenClaim := { program := "ythneebbmodkjiaa", sum := "0ab86a863de5aea1755e57d97a4007e715fbb4482daf363931d28a55a7aab3c6", func := "tarn/tarnlaw9.DiskOffs", spec := "diskOffs", unfollowed := true, recurses := true, apart := false }
def DiskOffsSaid : Prop := diskOffsRow.holds Try.pinned (OpenSpec.ofChange diskOffsSpec)

/-- ITS FALSE NEIGHBOUR: 'it returns false'. Refute it at one input. -/
def diskOffsWrong : ChangeSpec := { name := "diskOffs", fn := fun _ => fun
  | [d] => { results := [.lit (.bool false)], args := [d] }
  | _ => none }
def DiskOffsWrongFalsely : Prop := diskOffsRow.holds Try.pinned (OpenSpec.ofChange diskOffsWrong)

/-- 'tarnlaw9.DiskCrashes': WHATEVER THE INPUT: true; the input reads as it did. -/
def diskCrashesSpec : ChangeSpec := { name := "diskCrashes", fn := fun _ => fun
  | [d] => { results := [.lit (.bool true)], args := [d] }
  | _ => none }
def diskCrashesRow : OpenClaim := { program := "ythneebbmodkjiaa", sum := "0ab86a863de5aea1755e57d97a4007e715fbb4482daf363931d28a55a7aab3c6", func := "tarn/tarnlaw9.DiskCrashes", spec := "diskCrashes", unfollowed := true, recurses := true, apart := false }
def DiskCrashesSaid : Prop := diskCrashesRow.holds Try.pinned (OpenSpec.ofChange diskCrashesSpec)

/-- ITS FALSE NEIGHBOUR: 'it returns false'. Refute it at one input. -/
def diskCrashesWrong : ChangeSpec := { name := "diskCrashes", fn := fun _ => fun
  | [d] => { results := [.lit (.bool false)], args := [d] }
  | _ => none }
def DiskCrashesWrongFalsely : Prop := diskCrashesRow.holds Try.pinned (OpenSpec.ofChange diskCrashesWrong)

/-- 'tarnlaw10.ShelfTwo': WHATEVER THE INPUT: true; the input reads as it did. -/
def shelfTwoSpec : ChangeSpec := { name := "shelfTwo", fn := fun _ => fun
  | [d] => { results := [.lit (.bool true)], args := [d] }
  | _ => none }
def shelfTwoRow : OpenClaim := { program := "ythneebbmodkjiaa", sum := "0ab86a863de5aea1755e57d97a4007e715fbb4482daf363931d28a55a7aab3c6", func := "tarn/tarnlaw10.ShelfTwo", spec := "shelfTwo", unfollowed := true, recurses := true, apart := false }
def ShelfTwoSaid : Prop := shelfTwoRow.holds Try.pinned (OpenSpec.ofChange shelfTwoSpec)

/-- ITS FALSE NEIGHBOUR: 'it returns false'. Refute it at one input. -/
def shelfTwoWrong : ChangeSpec := { name := "shelfTwo", fn := fun _ => fun
  | [d] => { results := [.lit (.bool false)], args := [d] }
  | _ => none }
def ShelfTwoWrongFalsely : Prop := shelfTwoRow.holds Try.pinned (OpenSpec.ofChange shelfTwoWrong)

/-- 'tarnlaw10.ShelfFull': WHATEVER THE INPUT: true; the input reads as it did. -/
def shelfFullSpec : ChangeSpec := { name := "shelfFull", fn := fun _ => fun
  | [d] => { results := [.lit (.bool true)], args := [d] }
  | _ => none }
def shelfFullRow : OpenClaim := { program := "ythneebbmodkjiaa", sum := "0ab86a863de5aea1755e57d97a4007e715fbb4482daf363931d28a55a7aab3c6", func := "tarn/tarnlaw10.ShelfFull", spec := "shelfFull", unfollowed := true, recurses := true, apart := false }
def ShelfFullSaid : Prop := shelfFullRow.holds Try.pinned (OpenSpec.ofChange shelfFullSpec)

/-- ITS FALSE NEIGHBOUR: 'it returns false'. Refute it at one input. -/
def shelfFullWrong : ChangeSpec := { name := "shelfFull", fn := fun _ => fun
  | [d] => { results := [.lit (.bool false)], args := [d] }
  | _ => none }
def ShelfFullWrongFalsely : Prop := shelfFullRow.holds Try.pinned (OpenSpec.ofChange shelfFullWrong)

/-- 'tarnlaw10.ShelfModel': WHATEVER THE INPUT: true; the input reads as it did. -/
def shelfModelSpec : ChangeSpec := { name := "shelfModel", fn := fun _ => fun
  | [d] => { results := [.lit (.bool true)], args := [d] }
  | _ => none }
def shelfModelRow : OpenClaim := { program := "ythneebbmodkjiaa", sum := "0ab86a863de5aea1755e57d97a4007e715fbb4482daf363931d28a55a7aab3c6", func := "tarn/tarnlaw10.ShelfModel", spec := "shelfModel", unfollowed := true, recurses := true, apart := false }
def ShelfModelSaid : Prop := shelfModelRow.holds Try.pinned (OpenSpec.ofChange shelfModelSpec)

/-- ITS FALSE NEIGHBOUR: 'it returns false'. Refute it at one input. -/
def shelfModelWrong : ChangeSpec := { name := "shelfModel", fn := fun _ => fun
  | [d] => { results := [.lit (.bool false)], args := [d] }
  | _ => none }
def ShelfModelWrongFalsely : Prop := shelfModelRow.holds Try.pinned (OpenSpec.ofChange shelfModelWrong)

/-- 'tarnlaw10.ShelfPuts': WHATEVER THE INPUT: true; the input reads as it did. -/
def shelfPutsSpec : ChangeSpec := { name := "shelfPuts", fn := fun _ => fun
  | [d] => { results := [.lit (.bool true)], args := [d] }
  | _ => none }
def shelfPutsRow : OpenClaim := { program := "ythneebbmodkjiaa", sum := "0ab86a863de5aea1755e57d97a4007e715fbb4482daf363931d28a55a7aab3c6", func := "tarn/tarnlaw10.ShelfPuts", spec := "shelfPuts", unfollowed := true, recurses := true, apart := false }
def ShelfPutsSaid : Prop := shelfPutsRow.holds Try.pinned (OpenSpec.ofChange shelfPutsSpec)

/-- ITS FALSE NEIGHBOUR: 'it returns false'. Refute it at one input. -/
def shelfPutsWrong : ChangeSpec := { name := "shelfPuts", fn := fun _ => fun
  | [d] => { results := [.lit (.bool false)], args := [d] }
  | _ => none }
def ShelfPutsWrongFalsely : Prop := shelfPutsRow.holds Try.pinned (OpenSpec.ofChange shelfPutsWrong)

/-- 'tarnlaw10.ShelfDels': WHATEVER THE INPUT: true; the input reads as it did. -/
def shelfDelsSpec : ChangeSpec := { name := "shelfDels", fn := fun _ => fun
  | [d] => { results := [.lit (.bool true)], args := [d] }
  | _ => none }
def shelfDelsRow : OpenClaim := { program := "ythneebbmodkjiaa", sum := "0ab86a863de5aea1755e57d97a4007e715fbb4482daf363931d28a55a7aab3c6", func := "tarn/tarnlaw10.ShelfDels", spec := "shelfDels", unfollowed := true, recurses := true, apart := false }
def ShelfDelsSaid : Prop := shelfDelsRow.holds Try.pinned (OpenSpec.ofChange shelfDelsSpec)

/-- ITS FALSE NEIGHBOUR: 'it returns false'. Refute it at one input. -/
def shelfDelsWrong : ChangeSpec := { name := "shelfDels", fn := fun _ => fun
  | [d] => { results := [.lit (.bool false)], args := [d] }
  | _ => none }
def ShelfDelsWrongFalsely : Prop := shelfDelsRow.holds Try.pinned (OpenSpec.ofChange shelfDelsWrong)

/-- 'tarnlaw10.ShelfGets': WHATEVER THE INPUT: true; the input reads as it did. -/
def shelfGetsSpec : ChangeSpec := { name := "shelfGets", fn := fun _ => fun
  | [d] => { results := [.lit (.bool true)], args := [d] }
  | _ => none }
def shelfGetsRow : OpenClaim := { program := "ythneebbmodkjiaa", sum := "0ab86a863de5aea1755e57d97a4007e715fbb4482daf363931d28a55a7aab3c6", func := "tarn/tarnlaw10.ShelfGets", spec := "shelfGets", unfollowed := true, recurses := true, apart := false }
def ShelfGetsSaid : Prop := shelfGetsRow.holds Try.pinned (OpenSpec.ofChange shelfGetsSpec)

/-- ITS FALSE NEIGHBOUR: 'it returns false'. Refute it at one input. -/
def shelfGetsWrong : ChangeSpec := { name := "shelfGets", fn := fun _ => fun
  | [d] => { results := [.lit (.bool false)], args := [d] }
  | _ => none }
def ShelfGetsWrongFalsely : Prop := shelfGetsRow.holds Try.pinned (OpenSpec.ofChange shelfGetsWrong)

/-- 'tarnlaw10.ShelfOpens': WHATEVER THE INPUT: true; the input reads as it did. -/
def shelfOpensSpec : ChangeSpec := { name := "shelfOpens", fn := fun _ => fun
  | [d] => { results := [.lit (.bool true)], args := [d] }
  | _ => none }
def shelfOpensRow : OpenClaim := { program := "ythneebbmodkjiaa", sum := "0ab86a863de5aea1755e57d97a4007e715fbb4482daf363931d28a55a7aab3c6", func := "tarn/tarnlaw10.ShelfOpens", spec := "shelfOpens", unfollowed := true, recurses := true, apart := false }
def ShelfOpensSaid : Prop := shelfOpensRow.holds Try.pinned (OpenSpec.ofChange shelfOpensSpec)

/-- ITS FALSE NEIGHBOUR: 'it returns false'. Refute it at one input. -/
def shelfOpensWrong : ChangeSpec := { name := "shelfOpens", fn := fun _ => fun
  | [d] => { results := [.lit (.bool false)], args := [d] }
  | _ => none }
def ShelfOpensWrongFalsely : Prop := shelfOpensRow.holds Try.pinned (OpenSpec.ofChange shelfOpensWrong)

/-- 'tarnlaw10.ShelfFails': WHATEVER THE INPUT: true; the input reads as it did. -/
def shelfFailsSpec : ChangeSpec := { name := "shelfFails", fn := fun _ => fun
  | [d] => { results := [.lit (.bool true)], args := [d] }
  | _ => none }
def shelfFailsRow : OpenClaim := { program := "ythneebbmodkjiaa", sum := "0ab86a863de5aea1755e57d97a4007e715fbb4482daf363931d28a55a7aab3c6", func := "tarn/tarnlaw10.ShelfFails", spec := "shelfFails", unfollowed := true, recurses := true, apart := false }
def ShelfFailsSaid : Prop := shelfFailsRow.holds Try.pinned (OpenSpec.ofChange shelfFailsSpec)

/-- ITS FALSE NEIGHBOUR: 'it returns false'. Refute it at one input. -/
def shelfFailsWrong : ChangeSpec := { name := "shelfFails", fn := fun _ => fun
  | [d] => { results := [.lit (.bool false)], args := [d] }
  | _ => none }
def ShelfFailsWrongFalsely : Prop := shelfFailsRow.holds Try.pinned (OpenSpec.ofChange shelfFailsWrong)

/-- 'tarnlaw10.ShelfCrashes': WHATEVER THE INPUT: true; the input reads as it did. -/
def shelfCrashesSpec : ChangeSpec := { name := "shelfCrashes", fn := fun _ => fun
  | [d] => { results := [.lit (.bool true)], args := [d] }
  | _ => none }
def shelfCrashesRow : OpenClaim := { program := "ythneebbmodkjiaa", sum := "0ab86a863de5aea1755e57d97a4007e715fbb4482daf363931d28a55a7aab3c6", func := "tarn/tarnlaw10.ShelfCrashes", spec := "shelfCrashes", unfollowed := true, recurses := true, apart := false }
def ShelfCrashesSaid : Prop := shelfCrashesRow.holds Try.pinned (OpenSpec.ofChange shelfCrashesSpec)

/-- ITS FALSE NEIGHBOUR: 'it returns false'. Refute it at one input. -/
def shelfCrashesWrong : ChangeSpec := { name := "shelfCrashes", fn := fun _ => fun
  | [d] => { results := [.lit (.bool false)], args := [d] }
  | _ => none }
def ShelfCrashesWrongFalsely : Prop := shelfCrashesRow.holds Try.pinned (OpenSpec.ofChange shelfCrashesWrong)

/-- 'tarnlaw11.RackWrongs': WHATEVER THE INPUT: true; the input reads as it did. -/
def rackWrongsSpec : ChangeSpec := { name := "rackWrongs", fn := fun _ => fun
  | [d] => { results := [.lit (.bool true)], args := [d] }
  | _ => none }
def rackWrongsRow : OpenClaim := { program := "ythneebbmodkjiaa", sum := "0ab86a863de5aea1755e57d97a4007e715fbb4482daf363931d28a55a7aab3c6", func := "tarn/tarnlaw11.RackWrongs", spec := "rackWrongs", unfollowed := true, recurses := true, apart := false }
def RackWrongsSaid : Prop := rackWrongsRow.holds Try.pinned (OpenSpec.ofChange rackWrongsSpec)

/-- ITS FALSE NEIGHBOUR: 'it returns false'. Refute it at one input. -/
def rackWrongsWrong : ChangeSpec := { name := "rackWrongs", fn := fun _ => fun
  | [d] => { results := [.lit (.bool false)], args := [d] }
  | _ => none }
def RackWrongsWrongFalsely : Prop := rackWrongsRow.holds Try.pinned (OpenSpec.ofChange rackWrongsWrong)

/-- 'tarnlaw11.RackSmall': WHATEVER THE INPUT: true; the input reads as it did. -/
def rackSmallSpec : ChangeSpec := { name := "rackSmall", fn := fun _ => fun
  | [d] => { results := [.lit (.bool true)], args := [d] }
  | _ => none }
def rackSmallRow : OpenClaim := { program := "ythneebbmodkjiaa", sum := "0ab86a863de5aea1755e57d97a4007e715fbb4482daf363931d28a55a7aab3c6", func := "tarn/tarnlaw11.RackSmall", spec := "rackSmall", unfollowed := true, recurses := true, apart := false }
def RackSmallSaid : Prop := rackSmallRow.holds Try.pinned (OpenSpec.ofChange rackSmallSpec)

/-- ITS FALSE NEIGHBOUR: 'it returns false'. Refute it at one input. -/
def rackSmallWrong : ChangeSpec := { name := "rackSmall", fn := fun _ => fun
  | [d] => { results := [.lit (.bool false)], args := [d] }
  | _ => none }
def RackSmallWrongFalsely : Prop := rackSmallRow.holds Try.pinned (OpenSpec.ofChange rackSmallWrong)

/-- 'tarnlaw11.RackSecond': WHATEVER THE INPUT: true; the input reads as it did. -/
def rackSecondSpec : ChangeSpec := { name := "rackSecond", fn := fun _ => fun
  | [d] => { results := [.lit (.bool true)], args := [d] }
  | _ => none }
def rackSecondRow : OpenClaim := { program := "ythneebbmodkjiaa", sum := "0ab86a863de5aea1755e57d97a4007e715fbb4482daf363931d28a55a7aab3c6", func := "tarn/tarnlaw11.RackSecond", spec := "rackSecond", unfollowed := true, recurses := true, apart := false }
def RackSecondSaid : Prop := rackSecondRow.holds Try.pinned (OpenSpec.ofChange rackSecondSpec)

/-- ITS FALSE NEIGHBOUR: 'it returns false'. Refute it at one input. -/
def rackSecondWrong : ChangeSpec := { name := "rackSecond", fn := fun _ => fun
  | [d] => { results := [.lit (.bool false)], args := [d] }
  | _ => none }
def RackSecondWrongFalsely : Prop := rackSecondRow.holds Try.pinned (OpenSpec.ofChange rackSecondWrong)

/-- 'tarnlaw11.RackThird': WHATEVER THE INPUT: true; the input reads as it did. -/
def rackThirdSpec : ChangeSpec := { name := "rackThird", fn := fun _ => fun
  | [d] => { results := [.lit (.bool true)], args := [d] }
  | _ => none }
def rackThirdRow : OpenClaim := { program := "ythneebbmodkjiaa", sum := "0ab86a863de5aea1755e57d97a4007e715fbb4482daf363931d28a55a7aab3c6", func := "tarn/tarnlaw11.RackThird", spec := "rackThird", unfollowed := true, recurses := true, apart := false }
def RackThirdSaid : Prop := rackThirdRow.holds Try.pinned (OpenSpec.ofChange rackThirdSpec)

/-- ITS FALSE NEIGHBOUR: 'it returns false'. Refute it at one input. -/
def rackThirdWrong : ChangeSpec := { name := "rackThird", fn := fun _ => fun
  | [d] => { results := [.lit (.bool false)], args := [d] }
  | _ => none }
def RackThirdWrongFalsely : Prop := rackThirdRow.holds Try.pinned (OpenSpec.ofChange rackThirdWrong)

/-- 'tarnlaw11.RackGreat': WHATEVER THE INPUT: true; the input reads as it did. -/
def rackGreatSpec : ChangeSpec := { name := "rackGreat", fn := fun _ => fun
  | [d] => { results := [.lit (.bool true)], args := [d] }
  | _ => none }
def rackGreatRow : OpenClaim := { program := "ythneebbmodkjiaa", sum := "0ab86a863de5aea1755e57d97a4007e715fbb4482daf363931d28a55a7aab3c6", func := "tarn/tarnlaw11.RackGreat", spec := "rackGreat", unfollowed := true, recurses := true, apart := false }
def RackGreatSaid : Prop := rackGreatRow.holds Try.pinned (OpenSpec.ofChange rackGreatSpec)

/-- ITS FALSE NEIGHBOUR: 'it returns false'. Refute it at one input. -/
def rackGreatWrong : ChangeSpec := { name := "rackGreat", fn := fun _ => fun
  | [d] => { results := [.lit (.bool false)], args := [d] }
  | _ => none }
def RackGreatWrongFalsely : Prop := rackGreatRow.holds Try.pinned (OpenSpec.ofChange rackGreatWrong)

/-- 'tarnlaw11.RackFails': WHATEVER THE INPUT: true; the input reads as it did. -/
def rackFailsSpec : ChangeSpec := { name := "rackFails", fn := fun _ => fun
  | [d] => { results := [.lit (.bool true)], args := [d] }
  | _ => none }
def rackFailsRow : OpenClaim := { program := "ythneebbmodkjiaa", sum := "0ab86a863de5aea1755e57d97a4007e715fbb4482daf363931d28a55a7aab3c6", func := "tarn/tarnlaw11.RackFails", spec := "rackFails", unfollowed := true, recurses := true, apart := false }
def RackFailsSaid : Prop := rackFailsRow.holds Try.pinned (OpenSpec.ofChange rackFailsSpec)

/-- ITS FALSE NEIGHBOUR: 'it returns false'. Refute it at one input. -/
def rackFailsWrong : ChangeSpec := { name := "rackFails", fn := fun _ => fun
  | [d] => { results := [.lit (.bool false)], args := [d] }
  | _ => none }
def RackFailsWrongFalsely : Prop := rackFailsRow.holds Try.pinned (OpenSpec.ofChange rackFailsWrong)

/-- 'tarnlaw11.RackModel': WHATEVER THE INPUT: true; the input reads as it did. -/
def rackModelSpec : ChangeSpec := { name := "rackModel", fn := fun _ => fun
  | [d] => { results := [.lit (.bool true)], args := [d] }
  | _ => none }
def rackModelRow : OpenClaim := { program := "ythneebbmodkjiaa", sum := "0ab86a863de5aea1755e57d97a4007e715fbb4482daf363931d28a55a7aab3c6", func := "tarn/tarnlaw11.RackModel", spec := "rackModel", unfollowed := true, recurses := true, apart := false }
def RackModelSaid : Prop := rackModelRow.holds Try.pinned (OpenSpec.ofChange rackModelSpec)

/-- ITS FALSE NEIGHBOUR: 'it returns false'. Refute it at one input. -/
def rackModelWrong : ChangeSpec := { name := "rackModel", fn := fun _ => fun
  | [d] => { results := [.lit (.bool false)], args := [d] }
  | _ => none }
def RackModelWrongFalsely : Prop := rackModelRow.holds Try.pinned (OpenSpec.ofChange rackModelWrong)

/- THE SECOND FORM. 'bulk': how many values and letters a reading holds, each counted each time it is reached (what is shared counts as often as it is met; a slice's spare places count too). A statement '..UptoSaid' is the law's where the arguments, and the package variables that the reading takes, are together of bulk at most 1048576: NARROWER than '..Said'. Prove '..Said' where nothing that the law and all that it calls make is longer than what came in: it says more and counts as full. Else prove '..UptoSaid'. A law counts once. -/
mutual
def uptoBulk {H : Type} : DataW H → Nat
  | .lit (.string bytes) => bytes.length + 1
  | .lit _ => 1
  | .nil => 1
  | .ptr d => uptoBulk d + 1
  | .slice elems spare => uptoBulkAll elems + uptoBulkAll spare + 1
  | .agg parts => uptoBulkAll parts + 1
  | .iface _ d => uptoBulk d + 1
  | .map entries => uptoBulkEntries entries + 1
  | .held _ => 1
def uptoBulkAll {H : Type} : List (DataW H) → Nat
  | [] => 0
  | d :: r => uptoBulk d + uptoBulkAll r
def uptoBulkEntries {H : Type} : List (Lit × DataW H) → Nat
  | [] => 0
  | x :: r => uptoBulkEntry x + uptoBulkEntries r
def uptoBulkEntry {H : Type} : Lit × DataW H → Nat
  | (.string bytes, d) => bytes.length + uptoBulk d + 1
  | (_, d) => uptoBulk d + 1
 end
def uptoSmall : (H : Type) → List (DataW H) → Bool := fun _ ds => decide (uptoBulkAll ds ≤ 1048576)
def OpenSpec.upto (s : _root_.Go.ChangeSpec) : _root_.Go.OpenSpec := { _root_.Go.OpenSpec.ofChange s with cond := some uptoSmall }

/-- 'tarnlaw9.DiskPieces', WHERE WHAT IT READS IS OF BULK AT MOST 1048576: true; the input reads as it did. -/
def diskPiecesUptoRow : OpenClaim := { program := "ythneebbmodkjiaa", sum := "0ab86a863de5aea1755e57d97a4007e715fbb4482daf363931d28a55a7aab3c6", func := "tarn/tarnlaw9.DiskPieces", spec := "diskPieces", unfollowed := true, recurses := true, apart := false, narrowed := true }
def DiskPiecesUptoSaid : Prop := diskPiecesUptoRow.holds Try.pinned (OpenSpec.upto diskPiecesSpec)

/-- 'tarnlaw9.DiskSafe', WHERE WHAT IT READS IS OF BULK AT MOST 1048576: true; the input reads as it did. -/
def diskSafeUptoRow : OpenClaim := { program := "ythneebbmodkjiaa", sum := "0ab86a863de5aea1755e57d97a4007e715fbb4482daf363931d28a55a7aab3c6", func := "tarn/tarnlaw9.DiskSafe", spec := "diskSafe", unfollowed := true, recurses := true, apart := false, narrowed := true }
def DiskSafeUptoSaid : Prop := diskSafeUptoRow.holds Try.pinned (OpenSpec.upto diskSafeSpec)

/-- 'tarnlaw9.DiskHoles', WHERE WHAT IT READS IS OF BULK AT MOST 1048576: true; the input reads as it did. -/
def diskHolesUptoRow : OpenClaim := { program := "ythneebbmodkjiaa", sum := "0ab86a863de5aea1755e57d97a4007e715fbb4482daf363931d28a55a7aab3c6", func := "tarn/tarnlaw9.DiskHoles", spec := "diskHoles", unfollowed := true, recurses := true, apart := false, narrowed := true }
def DiskHolesUptoSaid : Prop := diskHolesUptoRow.holds Try.pinned (OpenSpec.upto diskHolesSpec)

/-- 'tarnlaw9.DiskFails', WHERE WHAT IT READS IS OF BULK AT MOST 1048576: true; the input reads as it did. -/
def diskFailsUptoRow : OpenClaim := { program := "ythneebbmodkjiaa", sum := "0ab86a863de5aea1755e57d97a4007e715fbb4482daf363931d28a55a7aab3c6", func := "tarn/tarnlaw9.DiskFails", spec := "diskFails", unfollowed := true, recurses := true, apart := false, narrowed := true }
def DiskFailsUptoSaid : Prop := diskFailsUptoRow.holds Try.pinned (OpenSpec.upto diskFailsSpec)

/-- 'tarnlaw9.DiskExact', WHERE WHAT IT READS IS OF BULK AT MOST 1048576: true; the input reads as it did. -/
def diskExactUptoRow : OpenClaim := { program := "ythneebbmodkjiaa", sum := "0ab86a863de5aea1755e57d97a4007e715fbb4482daf363931d28a55a7aab3c6", func := "tarn/tarnlaw9.DiskExact", spec := "diskExact", unfollowed := true, recurses := true, apart := false, narrowed := true }
def DiskExactUptoSaid : Prop := diskExactUptoRow.holds Try.pinned (OpenSpec.upto diskExactSpec)

/-- 'tarnlaw9.DiskReads', WHERE WHAT IT READS IS OF BULK AT MOST 1048576: true; the input reads as it did. -/
def diskReadsUptoRow : OpenClaim := { program := "ythneebbmodkjiaa", sum := "0ab86a863de5aea1755e57d97a4007e715fbb4482daf363931d28a55a7aab3c6", func := "tarn/tarnlaw9.DiskReads", spec := "diskReads", unfollowed := true, recurses := true, apart := false, narrowed := true }
def DiskReadsUptoSaid : Prop := diskReadsUptoRow.holds Try.pinned (OpenSpec.upto diskReadsSpec)

/-- 'tarnlaw9.DiskCuts', WHERE WHAT IT READS IS OF BULK AT MOST 1048576: true; the input reads as it did. -/
def diskCutsUptoRow : OpenClaim := { program := "ythneebbmodkjiaa", sum := "0ab86a863de5aea1755e57d97a4007e715fbb4482daf363931d28a55a7aab3c6", func := "tarn/tarnlaw9.DiskCuts", spec := "diskCuts", unfollowed := true, recurses := true, apart := false, narrowed := true }
def DiskCutsUptoSaid : Prop := diskCutsUptoRow.holds Try.pinned (OpenSpec.upto diskCutsSpec)

/-- 'tarnlaw9.DiskSyncs', WHERE WHAT IT READS IS OF BULK AT MOST 1048576: true; the input reads as it did. -/
def diskSyncsUptoRow : OpenClaim := { program := "ythneebbmodkjiaa", sum := "0ab86a863de5aea1755e57d97a4007e715fbb4482daf363931d28a55a7aab3c6", func := "tarn/tarnlaw9.DiskSyncs", spec := "diskSyncs", unfollowed := true, recurses := true, apart := false, narrowed := true }
def DiskSyncsUptoSaid : Prop := diskSyncsUptoRow.holds Try.pinned (OpenSpec.upto diskSyncsSpec)

/-- 'tarnlaw9.DiskOffs', WHERE WHAT IT READS IS OF BULK AT MOST 1048576: true; the input reads as it did. -/
def diskOffsUptoRow : OpenClaim := { program := "ythneebbmodkjiaa", sum := "0ab86a863de5aea1755e57d97a4007e715fbb4482daf363931d28a55a7aab3c6", func := "tarn/tarnlaw9.DiskOffs", spec := "diskOffs", unfollowed := true, recurses := true, apart := false, narrowed := true }
def DiskOffsUptoSaid : Prop := diskOffsUptoRow.holds Try.pinned (OpenSpec.upto diskOffsSpec)

/-- 'tarnlaw9.DiskCrashes', WHERE WHAT IT READS IS OF BULK AT MOST 1048576: true; the input reads as it did. -/
def diskCrashesUptoRow : OpenClaim := { program := "ythneebbmodkjiaa", sum := "0ab86a863de5aea1755e57d97a4007e715fbb4482daf363931d28a55a7aab3c6", func := "tarn/tarnlaw9.DiskCrashes", spec := "diskCrashes", unfollowed := true, recurses := true, apart := false, narrowed := true }
def DiskCrashesUptoSaid : Prop := diskCrashesUptoRow.holds Try.pinned (OpenSpec.upto diskCrashesSpec)

/-- 'tarnlaw10.ShelfTwo', WHERE WHAT IT READS IS OF BULK AT MOST 1048576: true; the input reads as it did. -/
def shelfTwoUptoRow : OpenClaim := { program := "ythneebbmodkjiaa", sum := "0ab86a863de5aea1755e57d97a4007e715fbb4482daf363931d28a55a7aab3c6", func := "tarn/tarnlaw10.ShelfTwo", spec := "shelfTwo", unfollowed := true, recurses := true, apart := false, narrowed := true }
def ShelfTwoUptoSaid : Prop := shelfTwoUptoRow.holds Try.pinned (OpenSpec.upto shelfTwoSpec)

/-- 'tarnlaw10.ShelfFull', WHERE WHAT IT READS IS OF BULK AT MOST 1048576: true; the input reads as it did. -/
def shelfFullUptoRow : OpenClaim := { program := "ythneebbmodkjiaa", sum := "0ab86a863de5aea1755e57d97a4007e715fbb4482daf363931d28a55a7aab3c6", func := "tarn/tarnlaw10.ShelfFull", spec := "shelfFull", unfollowed := true, recurses := true, apart := false, narrowed := true }
def ShelfFullUptoSaid : Prop := shelfFullUptoRow.holds Try.pinned (OpenSpec.upto shelfFullSpec)

/-- 'tarnlaw10.ShelfModel', WHERE WHAT IT READS IS OF BULK AT MOST 1048576: true; the input reads as it did. -/
def shelfModelUptoRow : OpenClaim := { program := "ythneebbmodkjiaa", sum := "0ab86a863de5aea1755e57d97a4007e715fbb4482daf363931d28a55a7aab3c6", func := "tarn/tarnlaw10.ShelfModel", spec := "shelfModel", unfollowed := true, recurses := true, apart := false, narrowed := true }
def ShelfModelUptoSaid : Prop := shelfModelUptoRow.holds Try.pinned (OpenSpec.upto shelfModelSpec)

/-- 'tarnlaw10.ShelfPuts', WHERE WHAT IT READS IS OF BULK AT MOST 1048576: true; the input reads as it did. -/
def shelfPutsUptoRow : OpenClaim := { program := "ythneebbmodkjiaa", sum := "0ab86a863de5aea1755e57d97a4007e715fbb4482daf363931d28a55a7aab3c6", func := "tarn/tarnlaw10.ShelfPuts", spec := "shelfPuts", unfollowed := true, recurses := true, apart := false, narrowed := true }
def ShelfPutsUptoSaid : Prop := shelfPutsUptoRow.holds Try.pinned (OpenSpec.upto shelfPutsSpec)

/-- 'tarnlaw10.ShelfDels', WHERE WHAT IT READS IS OF BULK AT MOST 1048576: true; the input reads as it did. -/
def shelfDelsUptoRow : OpenClaim := { program := "ythneebbmodkjiaa", sum := "0ab86a863de5aea1755e57d97a4007e715fbb4482daf363931d28a55a7aab3c6", func := "tarn/tarnlaw10.ShelfDels", spec := "shelfDels", unfollowed := true, recurses := true, apart := false, narrowed := true }
def ShelfDelsUptoSaid : Prop := shelfDelsUptoRow.holds Try.pinned (OpenSpec.upto shelfDelsSpec)

/-- 'tarnlaw10.ShelfGets', WHERE WHAT IT READS IS OF BULK AT MOST 1048576: true; the input reads as it did. -/
def shelfGetsUptoRow : OpenClaim := { program := "ythneebbmodkjiaa", sum := "0ab86a863de5aea1755e57d97a4007e715fbb4482daf363931d28a55a7aab3c6", func := "tarn/tarnlaw10.ShelfGets", spec := "shelfGets", unfollowed := true, recurses := true, apart := false, narrowed := true }
def ShelfGetsUptoSaid : Prop := shelfGetsUptoRow.holds Try.pinned (OpenSpec.upto shelfGetsSpec)

/-- 'tarnlaw10.ShelfOpens', WHERE WHAT IT READS IS OF BULK AT MOST 1048576: true; the input reads as it did. -/
def shelfOpensUptoRow : OpenClaim := { program := "ythneebbmodkjiaa", sum := "0ab86a863de5aea1755e57d97a4007e715fbb4482daf363931d28a55a7aab3c6", func := "tarn/tarnlaw10.ShelfOpens", spec := "shelfOpens", unfollowed := true, recurses := true, apart := false, narrowed := true }
def ShelfOpensUptoSaid : Prop := shelfOpensUptoRow.holds Try.pinned (OpenSpec.upto shelfOpensSpec)

/-- 'tarnlaw10.ShelfFails', WHERE WHAT IT READS IS OF BULK AT MOST 1048576: true; the input reads as it did. -/
def shelfFailsUptoRow : OpenClaim := { program := "ythneebbmodkjiaa", sum := "0ab86a863de5aea1755e57d97a4007e715fbb4482daf363931d28a55a7aab3c6", func := "tarn/tarnlaw10.ShelfFails", spec := "shelfFails", unfollowed := true, recurses := true, apart := false, narrowed := true }
def ShelfFailsUptoSaid : Prop := shelfFailsUptoRow.holds Try.pinned (OpenSpec.upto shelfFailsSpec)

/-- 'tarnlaw10.ShelfCrashes', WHERE WHAT IT READS IS OF BULK AT MOST 1048576: true; the input reads as it did. -/
def shelfCrashesUptoRow : OpenClaim := { program := "ythneebbmodkjiaa", sum := "0ab86a863de5aea1755e57d97a4007e715fbb4482daf363931d28a55a7aab3c6", func := "tarn/tarnlaw10.ShelfCrashes", spec := "shelfCrashes", unfollowed := true, recurses := true, apart := false, narrowed := true }
def ShelfCrashesUptoSaid : Prop := shelfCrashesUptoRow.holds Try.pinned (OpenSpec.upto shelfCrashesSpec)

/-- 'tarnlaw11.RackWrongs', WHERE WHAT IT READS IS OF BULK AT MOST 1048576: true; the input reads as it did. -/
def rackWrongsUptoRow : OpenClaim := { program := "ythneebbmodkjiaa", sum := "0ab86a863de5aea1755e57d97a4007e715fbb4482daf363931d28a55a7aab3c6", func := "tarn/tarnlaw11.RackWrongs", spec := "rackWrongs", unfollowed := true, recurses := true, apart := false, narrowed := true }
def RackWrongsUptoSaid : Prop := rackWrongsUptoRow.holds Try.pinned (OpenSpec.upto rackWrongsSpec)

/-- 'tarnlaw11.RackSmall', WHERE WHAT IT READS IS OF BULK AT MOST 1048576: true; the input reads as it did. -/
def rackSmallUptoRow : OpenClaim := { program := "ythneebbmodkjiaa", sum := "0ab86a863de5aea1755e57d97a4007e715fbb4482daf363931d28a55a7aab3c6", func := "tarn/tarnlaw11.RackSmall", spec := "rackSmall", unfollowed := true, recurses := true, apart := false, narrowed := true }
def RackSmallUptoSaid : Prop := rackSmallUptoRow.holds Try.pinned (OpenSpec.upto rackSmallSpec)

/-- 'tarnlaw11.RackSecond', WHERE WHAT IT READS IS OF BULK AT MOST 1048576: true; the input reads as it did. -/
def rackSecondUptoRow : OpenClaim := { program := "ythneebbmodkjiaa", sum := "0ab86a863de5aea1755e57d97a4007e715fbb4482daf363931d28a55a7aab3c6", func := "tarn/tarnlaw11.RackSecond", spec := "rackSecond", unfollowed := true, recurses := true, apart := false, narrowed := true }
def RackSecondUptoSaid : Prop := rackSecondUptoRow.holds Try.pinned (OpenSpec.upto rackSecondSpec)

/-- 'tarnlaw11.RackThird', WHERE WHAT IT READS IS OF BULK AT MOST 1048576: true; the input reads as it did. -/
def rackThirdUptoRow : OpenClaim := { program := "ythneebbmodkjiaa", sum := "0ab86a863de5aea1755e57d97a4007e715fbb4482daf363931d28a55a7aab3c6", func := "tarn/tarnlaw11.RackThird", spec := "rackThird", unfollowed := true, recurses := true, apart := false, narrowed := true }
def RackThirdUptoSaid : Prop := rackThirdUptoRow.holds Try.pinned (OpenSpec.upto rackThirdSpec)

/-- 'tarnlaw11.RackGreat', WHERE WHAT IT READS IS OF BULK AT MOST 1048576: true; the input reads as it did. -/
def rackGreatUptoRow : OpenClaim := { program := "ythneebbmodkjiaa", sum := "0ab86a863de5aea1755e57d97a4007e715fbb4482daf363931d28a55a7aab3c6", func := "tarn/tarnlaw11.RackGreat", spec := "rackGreat", unfollowed := true, recurses := true, apart := false, narrowed := true }
def RackGreatUptoSaid : Prop := rackGreatUptoRow.holds Try.pinned (OpenSpec.upto rackGreatSpec)

/-- 'tarnlaw11.RackFails', WHERE WHAT IT READS IS OF BULK AT MOST 1048576: true; the input reads as it did. -/
def rackFailsUptoRow : OpenClaim := { program := "ythneebbmodkjiaa", sum := "0ab86a863de5aea1755e57d97a4007e715fbb4482daf363931d28a55a7aab3c6", func := "tarn/tarnlaw11.RackFails", spec := "rackFails", unfollowed := true, recurses := true, apart := false, narrowed := true }
def RackFailsUptoSaid : Prop := rackFailsUptoRow.holds Try.pinned (OpenSpec.upto rackFailsSpec)

/-- 'tarnlaw11.RackModel', WHERE WHAT IT READS IS OF BULK AT MOST 1048576: true; the input reads as it did. -/
def rackModelUptoRow : OpenClaim := { program := "ythneebbmodkjiaa", sum := "0ab86a863de5aea1755e57d97a4007e715fbb4482daf363931d28a55a7aab3c6", func := "tarn/tarnlaw11.RackModel", spec := "rackModel", unfollowed := true, recurses := true, apart := false, narrowed := true }
def RackModelUptoSaid : Prop := rackModelUptoRow.holds Try.pinned (OpenSpec.upto rackModelSpec)

end Rows
end Go.Proofs.Ythneebbmodkjiaa
