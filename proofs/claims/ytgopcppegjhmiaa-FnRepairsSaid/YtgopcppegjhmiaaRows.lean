/-
  No cell of these rows narrows 'for every input' (looked for: loops, veiled, ifaces, maps, wideKeys, modest, calm, conditions, laid).
  DERIVED. THE GIVEN ROWS OF THIS SEAT. 5 by the template 'for every input the law returns true; each argument reads behind the call as it read before'; 0 by the template 'total and deterministic' (their statements: YtgopcppegjhmiaaTotals.lean).
  GIVEN WITH THE SEED: the statements are not yours to turn. If you find one false, say at which input.
  Laid BY PROGRAM, IN A SANDBOX (cutbox-rows.mjs): the forced cells as the released guide's own fill.sh prints them over the translation 32c286607032af0e… (all of the seat's roots in one cut). By AI agents, Wed Nov 11 2026. No macro, syntax, notation, axiom, sorry.
-/
import Derived.Test.YtgopcppegjhmiaaChecked
import GoSem.Claim
import GoSem.ClaimJoined
import GoSem.ClaimMapViews
import Derived.JoinedTies
import Derived.KernelRfl
namespace Go.Proofs.Ytgopcppegjhmiaa
/- THE CELL 'sum', in the pinned program and in every row, IS THE sha256 OF THE DUMP (.gsa) THAT YtgopcppegjhmiaaProg.lean LOADS. Nothing in Lean hashes anything: it is a label: what it is worth is what the hold of that sum in a sandbox is worth. -/
noncomputable def Try.pinned : Pinned := { name := "ytgopcppegjhmiaa", sum := "32c286607032af0e6675110ce801b12fdb10827b37ef891947b9ad270b523c1b", checked := Try.checked }
namespace Rows
def none {H : Type} : Left H := { results := [], args := [] }

/-- 'laws.FnExactWorkPlan': WHATEVER THE INPUT: true; the input reads as it did. -/
def fnExactWorkPlanSpec : ChangeSpec := { name := "fnExactWorkPlan", fn := fun _ => fun
  | [d1, d2, d3] => { results := [.lit (.bool true)], args := [d1, d2, d3] }
  | _ => none }
def fnExactWorkPlanRow : OpenClaim := { program := "ytgopcppegjhmiaa", sum := "32c286607032af0e6675110ce801b12fdb10827b37ef891947b9ad270b523c1b", func := "loop.example/g01060/laws.FnExactWorkPlan", spec := "fnExactWorkPlan", unfollowed := true, recurses := true, apart := false }
def FnExactWorkPlanSaid : Prop := fnExactWorkPlanRow.holds Try.pinned (OpenSpec.ofChange fnExactWorkPlanSpec)

/-- ITS FALSE NEIGHBOUR: 'it returns false'. Refute it at one input. -/
def fnExactWorkPlanWrong : ChangeSpec := { name := "fnExactWorkPlan", fn := fun _ => fun
  | [d1, d2, d3] => { results := [.lit (.bool false)], args := [d1, d2, d3] }
  | _ => none }
def FnExactWorkPlanWrongFalsely : Prop := fnExactWorkPlanRow.holds Try.pinned (OpenSpec.ofChange fnExactWorkPlanWrong)

/-- 'laws.FnExactDamageOn': WHATEVER THE INPUT: true; the input reads as it did. -/
def fnExactDamageOnSpec : ChangeSpec := { name := "fnExactDamageOn", fn := fun _ => fun
  | [d1, d2, d3, d4] => { results := [.lit (.bool true)], args := [d1, d2, d3, d4] }
  | _ => none }
def fnExactDamageOnRow : OpenClaim := { program := "ytgopcppegjhmiaa", sum := "32c286607032af0e6675110ce801b12fdb10827b37ef891947b9ad270b523c1b", func := "loop.example/g01060/laws.FnExactDamageOn", spec := "fnExactDamageOn", unfollowed := true, recurses := true, apart := false }
def FnExactDamageOnSaid : Prop := fnExactDamageOnRow.holds Try.pinned (OpenSpec.ofChange fnExactDamageOnSpec)

/-- ITS FALSE NEIGHBOUR: 'it returns false'. Refute it at one input. -/
def fnExactDamageOnWrong : ChangeSpec := { name := "fnExactDamageOn", fn := fun _ => fun
  | [d1, d2, d3, d4] => { results := [.lit (.bool false)], args := [d1, d2, d3, d4] }
  | _ => none }
def FnExactDamageOnWrongFalsely : Prop := fnExactDamageOnRow.holds Try.pinned (OpenSpec.ofChange fnExactDamageOnWrong)

/-- 'laws.FnExactBestWork': WHATEVER THE INPUT: true; the input reads as it did. -/
def fnExactBestWorkSpec : ChangeSpec := { name := "fnExactBestWork", fn := fun _ => fun
  | [d1, d2, d3] => { results := [.lit (.bool true)], args := [d1, d2, d3] }
  | _ => none }
def fnExactBestWorkRow : OpenClaim := { program := "ytgopcppegjhmiaa", sum := "32c286607032af0e6675110ce801b12fdb10827b37ef891947b9ad270b523c1b", func := "loop.example/g01060/laws.FnExactBestWork", spec := "fnExactBestWork", unfollowed := true, recurses := true, apart := false }
def FnExactBestWorkSaid : Prop := fnExactBestWorkRow.holds Try.pinned (OpenSpec.ofChange fnExactBestWorkSpec)

/-- ITS FALSE NEIGHBOUR: 'it returns false'. Refute it at one input. -/
def fnExactBestWorkWrong : ChangeSpec := { name := "fnExactBestWork", fn := fun _ => fun
  | [d1, d2, d3] => { results := [.lit (.bool false)], args := [d1, d2, d3] }
  | _ => none }
def FnExactBestWorkWrongFalsely : Prop := fnExactBestWorkRow.holds Try.pinned (OpenSpec.ofChange fnExactBestWorkWrong)

/-- 'laws.FnExactWorstSheets': WHATEVER THE INPUT: true; the input reads as it did. -/
def fnExactWorstSheetsSpec : ChangeSpec := { name := "fnExactWorstSheets", fn := fun _ => fun
  | [d1, d2, d3] => { results := [.lit (.bool true)], args := [d1, d2, d3] }
  | _ => none }
def fnExactWorstSheetsRow : OpenClaim := { program := "ytgopcppegjhmiaa", sum := "32c286607032af0e6675110ce801b12fdb10827b37ef891947b9ad270b523c1b", func := "loop.example/g01060/laws.FnExactWorstSheets", spec := "fnExactWorstSheets", unfollowed := true, recurses := true, apart := false }
def FnExactWorstSheetsSaid : Prop := fnExactWorstSheetsRow.holds Try.pinned (OpenSpec.ofChange fnExactWorstSheetsSpec)

/-- ITS FALSE NEIGHBOUR: 'it returns false'. Refute it at one input. -/
def fnExactWorstSheetsWrong : ChangeSpec := { name := "fnExactWorstSheets", fn := fun _ => fun
  | [d1, d2, d3] => { results := [.lit (.bool false)], args := [d1, d2, d3] }
  | _ => none }
def FnExactWorstSheetsWrongFalsely : Prop := fnExactWorstSheetsRow.holds Try.pinned (OpenSpec.ofChange fnExactWorstSheetsWrong)

/-- 'laws.FnRepairs': WHATEVER THE INPUT: true; the input reads as it did. -/
def fnRepairsSpec : ChangeSpec := { name := "fnRepairs", fn := fun _ => fun
  | [d] => { results := [.lit (.bool true)], args := [d] }
  | _ => none }
def fnRepairsRow : OpenClaim := { program := "ytgopcppegjhmiaa", sum := "32c286607032af0e6675110ce801b12fdb10827b37ef891947b9ad270b523c1b", func := "loop.example/g01060/laws.FnRepairs", spec := "fnRepairs", unfollowed := true, recurses := true, apart := false }
def FnRepairsSaid : Prop := fnRepairsRow.holds Try.pinned (OpenSpec.ofChange fnRepairsSpec)

/-- ITS FALSE NEIGHBOUR: 'it returns false'. Refute it at one input. -/
def fnRepairsWrong : ChangeSpec := { name := "fnRepairs", fn := fun _ => fun
  | [d] => { results := [.lit (.bool false)], args := [d] }
  | _ => none }
def FnRepairsWrongFalsely : Prop := fnRepairsRow.holds Try.pinned (OpenSpec.ofChange fnRepairsWrong)

/- THE SECOND FORM. 'bulk': how many values and letters a reading holds, each counted each time it is reached (what is shared counts as often as it is met; a slice's spare places count too). A statement '..UptoSaid' is the law's where the arguments, and the package variables that the reading takes, are together of bulk at most 1048576: NARROWER than '..Said'. Prove '..Said' where nothing that the law and all that it calls make is longer than what came in: it says more and counts as full. Else prove '..UptoSaid'. A law counts once. -/
mutual
def uptoBulk {H : Type} : DataW H → Nat
  | .lit (.string bytes) => bytes.length + 1
  | .lit _ => 1
  | .nil => 1
  | .ptr d => uptoBulk d + 1
  | .slice elems spare => uptoBulkAll elems + uptoBulkAll spare + 1
  | .agg parts => uptoBulkAll parts + 1
  | .iface _ d => uptoBulk d + 1
  | .map entries => uptoBulkEntries entries + 1
  | .held _ => 1
def uptoBulkAll {H : Type} : List (DataW H) → Nat
  | [] => 0
  | d :: r => uptoBulk d + uptoBulkAll r
def uptoBulkEntries {H : Type} : List (Lit × DataW H) → Nat
  | [] => 0
  | x :: r => uptoBulkEntry x + uptoBulkEntries r
def uptoBulkEntry {H : Type} : Lit × DataW H → Nat
  | (.string bytes, d) => bytes.length + uptoBulk d + 1
  | (_, d) => uptoBulk d + 1
 end
def uptoSmall : (H : Type) → List (DataW H) → Bool := fun _ ds => decide (uptoBulkAll ds ≤ 1048576)
def OpenSpec.upto (s : _root_.Go.ChangeSpec) : _root_.Go.OpenSpec := { _root_.Go.OpenSpec.ofChange s with cond := some uptoSmall }

/-- 'laws.FnExactWorkPlan', WHERE WHAT IT READS IS OF BULK AT MOST 1048576: true; the input reads as it did. -/
def fnExactWorkPlanUptoRow : OpenClaim := { program := "ytgopcppegjhmiaa", sum := "32c286607032af0e6675110ce801b12fdb10827b37ef891947b9ad270b523c1b", func := "loop.example/g01060/laws.FnExactWorkPlan", spec := "fnExactWorkPlan", unfollowed := true, recurses := true, apart := false, narrowed := true }
def FnExactWorkPlanUptoSaid : Prop := fnExactWorkPlanUptoRow.holds Try.pinned (OpenSpec.upto fnExactWorkPlanSpec)

/-- 'laws.FnExactDamageOn', WHERE WHAT IT READS IS OF BULK AT MOST 1048576: true; the input reads as it did. -/
def fnExactDamageOnUptoRow : OpenClaim := { program := "ytgopcppegjhmiaa", sum := "32c286607032af0e6675110ce801b12fdb10827b37ef891947b9ad270b523c1b", func := "loop.example/g01060/laws.FnExactDamageOn", spec := "fnExactDamageOn", unfollowed := true, recurses := true, apart := false, narrowed := true }
def FnExactDamageOnUptoSaid : Prop := fnExactDamageOnUptoRow.holds Try.pinned (OpenSpec.upto fnExactDamageOnSpec)

/-- 'laws.FnExactBestWork', WHERE WHAT IT READS IS OF BULK AT MOST 1048576: true; the input reads as it did. -/
def fnExactBestWorkUptoRow : OpenClaim := { program := "ytgopcppegjhmiaa", sum := "32c286607032af0e6675110ce801b12fdb10827b37ef891947b9ad270b523c1b", func := "loop.example/g01060/laws.FnExactBestWork", spec := "fnExactBestWork", unfollowed := true, recurses := true, apart := false, narrowed := true }
def FnExactBestWorkUptoSaid : Prop := fnExactBestWorkUptoRow.holds Try.pinned (OpenSpec.upto fnExactBestWorkSpec)

/-- 'laws.FnExactWorstSheets', WHERE WHAT IT READS IS OF BULK AT MOST 1048576: true; the input reads as it did. -/
def fnExactWorstSheetsUptoRow : OpenClaim := { program := "ytgopcppegjhmiaa", sum := "32c286607032af0e6675110ce801b12fdb10827b37ef891947b9ad270b523c1b", func := "loop.example/g01060/laws.FnExactWorstSheets", spec := "fnExactWorstSheets", unfollowed := true, recurses := true, apart := false, narrowed := true }
def FnExactWorstSheetsUptoSaid : Prop := fnExactWorstSheetsUptoRow.holds Try.pinned (OpenSpec.upto fnExactWorstSheetsSpec)

/-- 'laws.FnRepairs', WHERE WHAT IT READS IS OF BULK AT MOST 1048576: true; the input reads as it did. -/
def fnRepairsUptoRow : OpenClaim := { program := "ytgopcppegjhmiaa", sum := "32c286607032af0e6675110ce801b12fdb10827b37ef891947b9ad270b523c1b", func := "loop.example/g01060/laws.FnRepairs", spec := "fnRepairs", unfollowed := true, recurses := true, apart := false, narrowed := true }
def FnRepairsUptoSaid : Prop := fnRepairsUptoRow.holds Try.pinned (OpenSpec.upto fnRepairsSpec)

end Rows
end Go.Proofs.Ytgopcppegjhmiaa
