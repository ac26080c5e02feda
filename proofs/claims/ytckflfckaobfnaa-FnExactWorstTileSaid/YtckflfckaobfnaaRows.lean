/-
  No cell of these rows narrows 'for every input' (looked for: loops, veiled, ifaces, maps, wideKeys, modest, calm, conditions, laid).
  DERIVED. THE GIVEN ROWS OF THIS SEAT. 5 by the template 'for every input the law returns true; each argument reads behind the call as it read before'; 0 by the template 'total and deterministic' (their statements: YtckflfckaobfnaaTotals.lean).
  GIVEN WITH THE SEED: the statements are not yours to turn. If you find one false, say at which input.
  Laid BY PROGRAM, IN A SANDBOX (cutbox-rows.mjs): the forced cells as the released guide's own fill.sh prints them over the translation 2bfce0a546924d71… (all of the seat's roots in one cut). By AI agents, Wed Nov 11 2026. No macro, syntax, notation, axiom, sorry.
-/
import Derived.Test.YtckflfckaobfnaaChecked
import GoSem.Claim
import GoSem.ClaimJoined
import GoSem.ClaimMapViews
import Derived.JoinedTies
import Derived.KernelRfl
namespace Go.Proofs.Ytckflfckaobfnaa
/- THE CELL 'sum', in the pinned program and in every row, IS THE sha256 OF THE DUMP (.gsa) THAT YtckflfckaobfnaaProg.lean LOADS. Nothing in Lean hashes anything: it is a label: what it is worth is what the hold of that sum in a sandbox is worth. -/
noncomputable def Try.pinned : Pinned := { name := "ytckflfckaobfnaa", sum := "2bfce0a546924d7183016d6b438a8287253a57e6c852120262b61e40074c1ea9", checked := Try.checked }
namespace Rows
def none {H : Type} : Left H := { results := [], args := [] }

/-- 'laws.FnExactNewScan': WHATEVER THE INPUT: true; the input reads as it did. -/
def fnExactNewScanSpec : ChangeSpec := { name := "fnExactNewScan", fn := fun _ => fun
  | [d] => { results := [.lit (.bool true)], args := [d] }
  | _ => none }
def fnExactNewScanRow : OpenClaim := { program := "ytckflfckaobfnaa", sum := "2bfce0a546924d7183016d6b438a8287253a57e6c852120262b61e40074c1ea9", func := "loop.example/g01060/laws.FnExactNewScan", spec := "fnExactNewScan", apart := false }
def FnExactNewScanSaid : Prop := fnExactNewScanRow.holds Try.pinned (OpenSpec.ofChange fnExactNewScanSpec)

/-- ITS FALSE NEIGHBOUR: 'it returns false'. Refute it at one input. -/
def fnExactNewScanWrong : ChangeSpec := { name := "fnExactNewScan", fn := fun _ => fun
  | [d] => { results := [.lit (.bool false)], args := [d] }
  | _ => none }
def FnExactNewScanWrongFalsely : Prop := fnExactNewScanRow.holds Try.pinned (OpenSpec.ofChange fnExactNewScanWrong)

/-- 'laws.FnExactIsScanJob': WHATEVER THE INPUT: true; the input reads as it did. -/
def fnExactIsScanJobSpec : ChangeSpec := { name := "fnExactIsScanJob", fn := fun _ => fun
  | [d] => { results := [.lit (.bool true)], args := [d] }
  | _ => none }
def fnExactIsScanJobRow : OpenClaim := { program := "ytckflfckaobfnaa", sum := "2bfce0a546924d7183016d6b438a8287253a57e6c852120262b61e40074c1ea9", func := "loop.example/g01060/laws.FnExactIsScanJob", spec := "fnExactIsScanJob", unfollowed := true, recurses := true, apart := false }
def FnExactIsScanJobSaid : Prop := fnExactIsScanJobRow.holds Try.pinned (OpenSpec.ofChange fnExactIsScanJobSpec)

/-- ITS FALSE NEIGHBOUR: 'it returns false'. Refute it at one input. -/
def fnExactIsScanJobWrong : ChangeSpec := { name := "fnExactIsScanJob", fn := fun _ => fun
  | [d] => { results := [.lit (.bool false)], args := [d] }
  | _ => none }
def FnExactIsScanJobWrongFalsely : Prop := fnExactIsScanJobRow.holds Try.pinned (OpenSpec.ofChange fnExactIsScanJobWrong)

/-- 'laws.FnExactTilesLeft': WHATEVER THE INPUT: true; the input reads as it did. -/
def fnExactTilesLeftSpec : ChangeSpec := { name := "fnExactTilesLeft", fn := fun _ => fun
  | [d] => { results := [.lit (.bool true)], args := [d] }
  | _ => none }
def fnExactTilesLeftRow : OpenClaim := { program := "ytckflfckaobfnaa", sum := "2bfce0a546924d7183016d6b438a8287253a57e6c852120262b61e40074c1ea9", func := "loop.example/g01060/laws.FnExactTilesLeft", spec := "fnExactTilesLeft", unfollowed := true, recurses := true, apart := false }
def FnExactTilesLeftSaid : Prop := fnExactTilesLeftRow.holds Try.pinned (OpenSpec.ofChange fnExactTilesLeftSpec)

/-- ITS FALSE NEIGHBOUR: 'it returns false'. Refute it at one input. -/
def fnExactTilesLeftWrong : ChangeSpec := { name := "fnExactTilesLeft", fn := fun _ => fun
  | [d] => { results := [.lit (.bool false)], args := [d] }
  | _ => none }
def FnExactTilesLeftWrongFalsely : Prop := fnExactTilesLeftRow.holds Try.pinned (OpenSpec.ofChange fnExactTilesLeftWrong)

/-- 'laws.FnExactStepsToDone': WHATEVER THE INPUT: true; the input reads as it did. -/
def fnExactStepsToDoneSpec : ChangeSpec := { name := "fnExactStepsToDone", fn := fun _ => fun
  | [d] => { results := [.lit (.bool true)], args := [d] }
  | _ => none }
def fnExactStepsToDoneRow : OpenClaim := { program := "ytckflfckaobfnaa", sum := "2bfce0a546924d7183016d6b438a8287253a57e6c852120262b61e40074c1ea9", func := "loop.example/g01060/laws.FnExactStepsToDone", spec := "fnExactStepsToDone", unfollowed := true, recurses := true, apart := false }
def FnExactStepsToDoneSaid : Prop := fnExactStepsToDoneRow.holds Try.pinned (OpenSpec.ofChange fnExactStepsToDoneSpec)

/-- ITS FALSE NEIGHBOUR: 'it returns false'. Refute it at one input. -/
def fnExactStepsToDoneWrong : ChangeSpec := { name := "fnExactStepsToDone", fn := fun _ => fun
  | [d] => { results := [.lit (.bool false)], args := [d] }
  | _ => none }
def FnExactStepsToDoneWrongFalsely : Prop := fnExactStepsToDoneRow.holds Try.pinned (OpenSpec.ofChange fnExactStepsToDoneWrong)

/-- 'laws.FnExactWorstTile': WHATEVER THE INPUT: true; the input reads as it did. -/
def fnExactWorstTileSpec : ChangeSpec := { name := "fnExactWorstTile", fn := fun _ => fun
  | [d] => { results := [.lit (.bool true)], args := [d] }
  | _ => none }
def fnExactWorstTileRow : OpenClaim := { program := "ytckflfckaobfnaa", sum := "2bfce0a546924d7183016d6b438a8287253a57e6c852120262b61e40074c1ea9", func := "loop.example/g01060/laws.FnExactWorstTile", spec := "fnExactWorstTile", unfollowed := true, recurses := true, apart := false }
def FnExactWorstTileSaid : Prop := fnExactWorstTileRow.holds Try.pinned (OpenSpec.ofChange fnExactWorstTileSpec)

/-- ITS FALSE NEIGHBOUR: 'it returns false'. Refute it at one input. -/
def fnExactWorstTileWrong : ChangeSpec := { name := "fnExactWorstTile", fn := fun _ => fun
  | [d] => { results := [.lit (.bool false)], args := [d] }
  | _ => none }
def FnExactWorstTileWrongFalsely : Prop := fnExactWorstTileRow.holds Try.pinned (OpenSpec.ofChange fnExactWorstTileWrong)

/- THE SECOND FORM. 'bulk': how many values and letters a reading holds, each counted each time it is reached (what is shared counts as often as it is met; a slice's spare places count too). A statement '..UptoSaid' is the law's where the arguments, and the package variables that the reading takes, are together of bulk at most 1048576: NARROWER than '..Said'. Prove '..Said' where nothing that the law and all that it calls make is longer than what came in: it says more and counts as full. Else prove '..UptoSaid'. A law counts once. -/
mutual
def uptoBulk {H : Type} : DataW H → Nat
  | .lit (.string bytes) => bytes.length + 1
  | .lit _ => 1
  | .nil => 1
  | .ptr d => uptoBulk d + 1
  | .slice elems spare => uptoBulkAll elems + uptoBulkAll spare + 1
  | .agg parts => uptoBulkAll parts + 1
  | .iface _ d => uptoBulk d + 1
  | .map entries => uptoBulkEntries entries + 1
  | .held _ => 1
def uptoBulkAll {H : Type} : List (DataW H) → Nat
  | [] => 0
  | d :: r => uptoBulk d + uptoBulkAll r
def uptoBulkEntries {H : Type} : List (Lit × DataW H) → Nat
  | [] => 0
  | x :: r => uptoBulkEntry x + uptoBulkEntries r
def uptoBulkEntry {H : Type} : Lit × DataW H → Nat
  | (.string bytes, d) => bytes.length + uptoBulk d + 1
  | (_, d) => uptoBulk d + 1
 end
def uptoSmall : (H : Type) → List (DataW H) → Bool := fun _ ds => decide (uptoBulkAll ds ≤ 1048576)
def OpenSpec.upto (s : _root_.Go.ChangeSpec) : _root_.Go.OpenSpec := { _root_.Go.OpenSpec.ofChange s with cond := some uptoSmall }

/-- 'laws.FnExactNewScan', WHERE WHAT IT READS IS OF BULK AT MOST 1048576: true; the input reads as it did. -/
def fnExactNewScanUptoRow : OpenClaim := { program := "ytckflfckaobfnaa", sum := "2bfce0a546924d7183016d6b438a8287253a57e6c852120262b61e40074c1ea9", func := "loop.example/g01060/laws.FnExactNewScan", spec := "fnExactNewScan", apart := false, narrowed := true }
def FnExactNewScanUptoSaid : Prop := fnExactNewScanUptoRow.holds Try.pinned (OpenSpec.upto fnExactNewScanSpec)

/-- 'laws.FnExactIsScanJob', WHERE WHAT IT READS IS OF BULK AT MOST 1048576: true; the input reads as it did. -/
def fnExactIsScanJobUptoRow : OpenClaim := { program := "ytckflfckaobfnaa", sum := "2bfce0a546924d7183016d6b438a8287253a57e6c852120262b61e40074c1ea9", func := "loop.example/g01060/laws.FnExactIsScanJob", spec := "fnExactIsScanJob", unfollowed := true, recurses := true, apart := false, narrowed := true }
def FnExactIsScanJobUptoSaid : Prop := fnExactIsScanJobUptoRow.holds Try.pinned (OpenSpec.upto fnExactIsScanJobSpec)

/-- 'laws.FnExactTilesLeft', WHERE WHAT IT READS IS OF BULK AT MOST 1048576: true; the input reads as it did. -/
def fnExactTilesLeftUptoRow : OpenClaim := { program := "ytckflfckaobfnaa", sum := "2bfce0a546924d7183016d6b438a8287253a57e6c852120262b61e40074c1ea9", func := "loop.example/g01060/laws.FnExactTilesLeft", spec := "fnExactTilesLeft", unfollowed := true, recurses := true, apart := false, narrowed := true }
def FnExactTilesLeftUptoSaid : Prop := fnExactTilesLeftUptoRow.holds Try.pinned (OpenSpec.upto fnExactTilesLeftSpec)

/-- 'laws.FnExactStepsToDone', WHERE WHAT IT READS IS OF BULK AT MOST 1048576: true; the input reads as it did. -/
def fnExactStepsToDoneUptoRow : OpenClaim := { program := "ytckflfckaobfnaa", sum := "2bfce0a546924d7183016d6b438a8287253a57e6c852120262b61e40074c1ea9", func := "loop.example/g01060/laws.FnExactStepsToDone", spec := "fnExactStepsToDone", unfollowed := true, recurses := true, apart := false, narrowed := true }
def FnExactStepsToDoneUptoSaid : Prop := fnExactStepsToDoneUptoRow.holds Try.pinned (OpenSpec.upto fnExactStepsToDoneSpec)

/-- 'laws.FnExactWorstTile', WHERE WHAT IT READS IS OF BULK AT MOST 1048576: true; the input reads as it did. -/
def fnExactWorstTileUptoRow : OpenClaim := { program := "ytckflfckaobfnaa", sum := "2bfce0a546924d7183016d6b438a8287253a57e6c852120262b61e40074c1ea9", func := "loop.example/g01060/laws.FnExactWorstTile", spec := "fnExactWorstTile", unfollowed := true, recurses := true, apart := false, narrowed := true }
def FnExactWorstTileUptoSaid : Prop := fnExactWorstTileUptoRow.holds Try.pinned (OpenSpec.upto fnExactWorstTileSpec)

end Rows
end Go.Proofs.Ytckflfckaobfnaa
