/-
  No cell of these rows narrows 'for every input' (looked for: loops, veiled, ifaces, maps, wideKeys, modest, calm, conditions, laid).
  DERIVED. THE GIVEN ROWS OF THIS SEAT. 11 by the template 'for every input the law returns true; each argument reads behind the call as it read before'; 0 by the template 'total and deterministic' (their statements: YtamidaedhaoffaaTotals.lean).
  GIVEN WITH THE SEED: the statements are not yours to turn. If you find one false, say at which input.
  Laid BY PROGRAM, IN A SANDBOX (cutbox-rows.mjs): the forced cells as the released guide's own fill.sh prints them over the translation 015a30194f3b8cca… (all of the seat's roots in one cut). By AI agents, Wed Nov 11 2026. No macro, syntax, notation, axiom, sorry.
-/
import Derived.Test.YtamidaedhaoffaaChecked
import GoSem.Claim
import GoSem.ClaimJoined
import GoSem.ClaimMapViews
import Derived.JoinedTies
import Derived.KernelRfl
namespace Go.Proofs.Ytamidaedhaoffaa
/- THE CELL 'sum', in the pinned program and in every row, IS THE sha256 OF THE DUMP (.gsa) THAT YtamidaedhaoffaaProg.lean LOADS. Nothing in Lean hashes anything: it is a label: what it is worth is what the hold of that sum in a sandbox is worth. -/
noncomputable def Try.pinned : Pinned := { name := "ytamidaedhaoffaa", sum := "015a30194f3b8cca3746bbc534bc8de60da60a7dff91ac718c88eba6d13eaa3b", checked := Try.checked }
namespace Rows
def none {H : Type} : Left H := { results := [], args := [] }

/-- 'laws.FnExactAreFrames': WHATEVER THE INPUT: true; the input reads as it did. -/
def fnExactAreFramesSpec : ChangeSpec := { name := "fnExactAreFrames", fn := fun _ => fun
  | [d] => { results := [.lit (.bool true)], args := [d] }
  | _ => none }
def fnExactAreFramesRow : OpenClaim := { program := "ytamidaedhaoffaa", sum := "015a30194f3b8cca3746bbc534bc8de60da60a7dff91ac718c88eba6d13eaa3b", func := "loop.example/g01060/laws.FnExactAreFrames", spec := "fnExactAreFrames", apart := false }
def FnExactAreFramesSaid : Prop := fnExactAreFramesRow.holds Try.pinned (OpenSpec.ofChange fnExactAreFramesSpec)

/-- ITS FALSE NEIGHBOUR: 'it returns false'. Refute it at one input. -/
def fnExactAreFramesWrong : ChangeSpec := { name := "fnExactAreFrames", fn := fun _ => fun
  | [d] => { results := [.lit (.bool false)], args := [d] }
  | _ => none }
def FnExactAreFramesWrongFalsely : Prop := fnExactAreFramesRow.holds Try.pinned (OpenSpec.ofChange fnExactAreFramesWrong)

/-- 'laws.FnExactWidthOn': WHATEVER THE INPUT: true; the input reads as it did. -/
def fnExactWidthOnSpec : ChangeSpec := { name := "fnExactWidthOn", fn := fun _ => fun
  | [d1, d2, d3] => { results := [.lit (.bool true)], args := [d1, d2, d3] }
  | _ => none }
def fnExactWidthOnRow : OpenClaim := { program := "ytamidaedhaoffaa", sum := "015a30194f3b8cca3746bbc534bc8de60da60a7dff91ac718c88eba6d13eaa3b", func := "loop.example/g01060/laws.FnExactWidthOn", spec := "fnExactWidthOn", apart := false }
def FnExactWidthOnSaid : Prop := fnExactWidthOnRow.holds Try.pinned (OpenSpec.ofChange fnExactWidthOnSpec)

/-- ITS FALSE NEIGHBOUR: 'it returns false'. Refute it at one input. -/
def fnExactWidthOnWrong : ChangeSpec := { name := "fnExactWidthOn", fn := fun _ => fun
  | [d1, d2, d3] => { results := [.lit (.bool false)], args := [d1, d2, d3] }
  | _ => none }
def FnExactWidthOnWrongFalsely : Prop := fnExactWidthOnRow.holds Try.pinned (OpenSpec.ofChange fnExactWidthOnWrong)

/-- 'laws.FnExactRoomFor': WHATEVER THE INPUT: true; the input reads as it did. -/
def fnExactRoomForSpec : ChangeSpec := { name := "fnExactRoomFor", fn := fun _ => fun
  | [d1, d2, d3, d4] => { results := [.lit (.bool true)], args := [d1, d2, d3, d4] }
  | _ => none }
def fnExactRoomForRow : OpenClaim := { program := "ytamidaedhaoffaa", sum := "015a30194f3b8cca3746bbc534bc8de60da60a7dff91ac718c88eba6d13eaa3b", func := "loop.example/g01060/laws.FnExactRoomFor", spec := "fnExactRoomFor", apart := false }
def FnExactRoomForSaid : Prop := fnExactRoomForRow.holds Try.pinned (OpenSpec.ofChange fnExactRoomForSpec)

/-- ITS FALSE NEIGHBOUR: 'it returns false'. Refute it at one input. -/
def fnExactRoomForWrong : ChangeSpec := { name := "fnExactRoomFor", fn := fun _ => fun
  | [d1, d2, d3, d4] => { results := [.lit (.bool false)], args := [d1, d2, d3, d4] }
  | _ => none }
def FnExactRoomForWrongFalsely : Prop := fnExactRoomForRow.holds Try.pinned (OpenSpec.ofChange fnExactRoomForWrong)

/-- 'laws.FnExactBusiestDay': WHATEVER THE INPUT: true; the input reads as it did. -/
def fnExactBusiestDaySpec : ChangeSpec := { name := "fnExactBusiestDay", fn := fun _ => fun
  | [d] => { results := [.lit (.bool true)], args := [d] }
  | _ => none }
def fnExactBusiestDayRow : OpenClaim := { program := "ytamidaedhaoffaa", sum := "015a30194f3b8cca3746bbc534bc8de60da60a7dff91ac718c88eba6d13eaa3b", func := "loop.example/g01060/laws.FnExactBusiestDay", spec := "fnExactBusiestDay", apart := false }
def FnExactBusiestDaySaid : Prop := fnExactBusiestDayRow.holds Try.pinned (OpenSpec.ofChange fnExactBusiestDaySpec)

/-- ITS FALSE NEIGHBOUR: 'it returns false'. Refute it at one input. -/
def fnExactBusiestDayWrong : ChangeSpec := { name := "fnExactBusiestDay", fn := fun _ => fun
  | [d] => { results := [.lit (.bool false)], args := [d] }
  | _ => none }
def FnExactBusiestDayWrongFalsely : Prop := fnExactBusiestDayRow.holds Try.pinned (OpenSpec.ofChange fnExactBusiestDayWrong)

/-- 'laws.FnExactFirstRoom': WHATEVER THE INPUT: true; the input reads as it did. -/
def fnExactFirstRoomSpec : ChangeSpec := { name := "fnExactFirstRoom", fn := fun _ => fun
  | [d1, d2, d3, d4, d5] => { results := [.lit (.bool true)], args := [d1, d2, d3, d4, d5] }
  | _ => none }
def fnExactFirstRoomRow : OpenClaim := { program := "ytamidaedhaoffaa", sum := "015a30194f3b8cca3746bbc534bc8de60da60a7dff91ac718c88eba6d13eaa3b", func := "loop.example/g01060/laws.FnExactFirstRoom", spec := "fnExactFirstRoom", apart := false }
def FnExactFirstRoomSaid : Prop := fnExactFirstRoomRow.holds Try.pinned (OpenSpec.ofChange fnExactFirstRoomSpec)

/-- ITS FALSE NEIGHBOUR: 'it returns false'. Refute it at one input. -/
def fnExactFirstRoomWrong : ChangeSpec := { name := "fnExactFirstRoom", fn := fun _ => fun
  | [d1, d2, d3, d4, d5] => { results := [.lit (.bool false)], args := [d1, d2, d3, d4, d5] }
  | _ => none }
def FnExactFirstRoomWrongFalsely : Prop := fnExactFirstRoomRow.holds Try.pinned (OpenSpec.ofChange fnExactFirstRoomWrong)

/-- 'laws.FnExactHangFrame': WHATEVER THE INPUT: true; the input reads as it did. -/
def fnExactHangFrameSpec : ChangeSpec := { name := "fnExactHangFrame", fn := fun _ => fun
  | [d1, d2, d3, d4, d5] => { results := [.lit (.bool true)], args := [d1, d2, d3, d4, d5] }
  | _ => none }
def fnExactHangFrameRow : OpenClaim := { program := "ytamidaedhaoffaa", sum := "015a30194f3b8cca3746bbc534bc8de60da60a7dff91ac718c88eba6d13eaa3b", func := "loop.example/g01060/laws.FnExactHangFrame", spec := "fnExactHangFrame", apart := false }
def FnExactHangFrameSaid : Prop := fnExactHangFrameRow.holds Try.pinned (OpenSpec.ofChange fnExactHangFrameSpec)

/-- ITS FALSE NEIGHBOUR: 'it returns false'. Refute it at one input. -/
def fnExactHangFrameWrong : ChangeSpec := { name := "fnExactHangFrame", fn := fun _ => fun
  | [d1, d2, d3, d4, d5] => { results := [.lit (.bool false)], args := [d1, d2, d3, d4, d5] }
  | _ => none }
def FnExactHangFrameWrongFalsely : Prop := fnExactHangFrameRow.holds Try.pinned (OpenSpec.ofChange fnExactHangFrameWrong)

/-- 'laws.FnExactTakeDown': WHATEVER THE INPUT: true; the input reads as it did. -/
def fnExactTakeDownSpec : ChangeSpec := { name := "fnExactTakeDown", fn := fun _ => fun
  | [d1, d2, d3] => { results := [.lit (.bool true)], args := [d1, d2, d3] }
  | _ => none }
def fnExactTakeDownRow : OpenClaim := { program := "ytamidaedhaoffaa", sum := "015a30194f3b8cca3746bbc534bc8de60da60a7dff91ac718c88eba6d13eaa3b", func := "loop.example/g01060/laws.FnExactTakeDown", spec := "fnExactTakeDown", unfollowed := true, recurses := true, apart := false }
def FnExactTakeDownSaid : Prop := fnExactTakeDownRow.holds Try.pinned (OpenSpec.ofChange fnExactTakeDownSpec)

/-- ITS FALSE NEIGHBOUR: 'it returns false'. Refute it at one input. -/
def fnExactTakeDownWrong : ChangeSpec := { name := "fnExactTakeDown", fn := fun _ => fun
  | [d1, d2, d3] => { results := [.lit (.bool false)], args := [d1, d2, d3] }
  | _ => none }
def FnExactTakeDownWrongFalsely : Prop := fnExactTakeDownRow.holds Try.pinned (OpenSpec.ofChange fnExactTakeDownWrong)

/-- 'laws.FnExactWallsFor': WHATEVER THE INPUT: true; the input reads as it did. -/
def fnExactWallsForSpec : ChangeSpec := { name := "fnExactWallsFor", fn := fun _ => fun
  | [d1, d2, d3, d4] => { results := [.lit (.bool true)], args := [d1, d2, d3, d4] }
  | _ => none }
def fnExactWallsForRow : OpenClaim := { program := "ytamidaedhaoffaa", sum := "015a30194f3b8cca3746bbc534bc8de60da60a7dff91ac718c88eba6d13eaa3b", func := "loop.example/g01060/laws.FnExactWallsFor", spec := "fnExactWallsFor", apart := false }
def FnExactWallsForSaid : Prop := fnExactWallsForRow.holds Try.pinned (OpenSpec.ofChange fnExactWallsForSpec)

/-- ITS FALSE NEIGHBOUR: 'it returns false'. Refute it at one input. -/
def fnExactWallsForWrong : ChangeSpec := { name := "fnExactWallsFor", fn := fun _ => fun
  | [d1, d2, d3, d4] => { results := [.lit (.bool false)], args := [d1, d2, d3, d4] }
  | _ => none }
def FnExactWallsForWrongFalsely : Prop := fnExactWallsForRow.holds Try.pinned (OpenSpec.ofChange fnExactWallsForWrong)

/-- 'laws.FnExactMoveFrame': WHATEVER THE INPUT: true; the input reads as it did. -/
def fnExactMoveFrameSpec : ChangeSpec := { name := "fnExactMoveFrame", fn := fun _ => fun
  | [d1, d2, d3] => { results := [.lit (.bool true)], args := [d1, d2, d3] }
  | _ => none }
def fnExactMoveFrameRow : OpenClaim := { program := "ytamidaedhaoffaa", sum := "015a30194f3b8cca3746bbc534bc8de60da60a7dff91ac718c88eba6d13eaa3b", func := "loop.example/g01060/laws.FnExactMoveFrame", spec := "fnExactMoveFrame", unfollowed := true, recurses := true, apart := false }
def FnExactMoveFrameSaid : Prop := fnExactMoveFrameRow.holds Try.pinned (OpenSpec.ofChange fnExactMoveFrameSpec)

/-- ITS FALSE NEIGHBOUR: 'it returns false'. Refute it at one input. -/
def fnExactMoveFrameWrong : ChangeSpec := { name := "fnExactMoveFrame", fn := fun _ => fun
  | [d1, d2, d3] => { results := [.lit (.bool false)], args := [d1, d2, d3] }
  | _ => none }
def FnExactMoveFrameWrongFalsely : Prop := fnExactMoveFrameRow.holds Try.pinned (OpenSpec.ofChange fnExactMoveFrameWrong)

/-- 'laws.FnExactHangingOn': WHATEVER THE INPUT: true; the input reads as it did. -/
def fnExactHangingOnSpec : ChangeSpec := { name := "fnExactHangingOn", fn := fun _ => fun
  | [d1, d2] => { results := [.lit (.bool true)], args := [d1, d2] }
  | _ => none }
def fnExactHangingOnRow : OpenClaim := { program := "ytamidaedhaoffaa", sum := "015a30194f3b8cca3746bbc534bc8de60da60a7dff91ac718c88eba6d13eaa3b", func := "loop.example/g01060/laws.FnExactHangingOn", spec := "fnExactHangingOn", unfollowed := true, recurses := true, apart := false }
def FnExactHangingOnSaid : Prop := fnExactHangingOnRow.holds Try.pinned (OpenSpec.ofChange fnExactHangingOnSpec)

/-- ITS FALSE NEIGHBOUR: 'it returns false'. Refute it at one input. -/
def fnExactHangingOnWrong : ChangeSpec := { name := "fnExactHangingOn", fn := fun _ => fun
  | [d1, d2] => { results := [.lit (.bool false)], args := [d1, d2] }
  | _ => none }
def FnExactHangingOnWrongFalsely : Prop := fnExactHangingOnRow.holds Try.pinned (OpenSpec.ofChange fnExactHangingOnWrong)

/-- 'laws.FnFrames': WHATEVER THE INPUT: true; the input reads as it did. -/
def fnFramesSpec : ChangeSpec := { name := "fnFrames", fn := fun _ => fun
  | [d] => { results := [.lit (.bool true)], args := [d] }
  | _ => none }
def fnFramesRow : OpenClaim := { program := "ytamidaedhaoffaa", sum := "015a30194f3b8cca3746bbc534bc8de60da60a7dff91ac718c88eba6d13eaa3b", func := "loop.example/g01060/laws.FnFrames", spec := "fnFrames", unfollowed := true, recurses := true, apart := false }
def FnFramesSaid : Prop := fnFramesRow.holds Try.pinned (OpenSpec.ofChange fnFramesSpec)

/-- ITS FALSE NEIGHBOUR: 'it returns false'. Refute it at one input. -/
def fnFramesWrong : ChangeSpec := { name := "fnFrames", fn := fun _ => fun
  | [d] => { results := [.lit (.bool false)], args := [d] }
  | _ => none }
def FnFramesWrongFalsely : Prop := fnFramesRow.holds Try.pinned (OpenSpec.ofChange fnFramesWrong)

/- THE SECOND FORM. 'bulk': how many values and letters a reading holds, each counted each time it is reached (what is shared counts as often as it is met; a slice's spare places count too). A statement '..UptoSaid' is the law's where the arguments, and the package variables that the reading takes, are together of bulk at most 1048576: NARROWER than '..Said'. Prove '..Said' where nothing that the law and all that it calls make is longer than what came in: it says more and counts as full. Else prove '..UptoSaid'. A law counts once. -/
mutual
def uptoBulk {H : Type} : DataW H → Nat
  | .lit (.string bytes) => bytes.length + 1
  | .lit _ => 1
  | .nil => 1
  | .ptr d => uptoBulk d + 1
  | .slice elems spare => uptoBulkAll elems + uptoBulkAll spare + 1
  | .agg parts => uptoBulkAll parts + 1
  | .iface _ d => uptoBulk d + 1
  | .map entries => uptoBulkEntries entries + 1
  | .held _ => 1
def uptoBulkAll {H : Type} : List (DataW H) → Nat
  | [] => 0
  | d :: r => uptoBulk d + uptoBulkAll r
def uptoBulkEntries {H : Type} : List (Lit × DataW H) → Nat
  | [] => 0
  | x :: r => uptoBulkEntry x + uptoBulkEntries r
def uptoBulkEntry {H : Type} : Lit × DataW H → Nat
  | (.string bytes, d) => bytes.length + uptoBulk d + 1
  | (_, d) => uptoBulk d + 1
 end
def uptoSmall : (H : Type) → List (DataW H) → Bool := fun _ ds => decide (uptoBulkAll ds ≤ 1048576)
def OpenSpec.upto (s : _root_.Go.ChangeSpec) : _root_.Go.OpenSpec := { _root_.Go.OpenSpec.ofChange s with cond := some uptoSmall }

/-- 'laws.FnExactAreFrames', WHERE WHAT IT READS IS OF BULK AT MOST 1048576: true; the input reads as it did. -/
def fnExactAreFramesUptoRow : OpenClaim := { program := "ytamidaedhaoffaa", sum := "015a30194f3b8cca3746bbc534bc8de60da60a7dff91ac718c88eba6d13eaa3b", func := "loop.example/g01060/laws.FnExactAreFrames", spec := "fnExactAreFrames", apart := false, narrowed := true }
def FnExactAreFramesUptoSaid : Prop := fnExactAreFramesUptoRow.holds Try.pinned (OpenSpec.upto fnExactAreFramesSpec)

/-- 'laws.FnExactWidthOn', WHERE WHAT IT READS IS OF BULK AT MOST 1048576: true; the input reads as it did. -/
def fnExactWidthOnUptoRow : OpenClaim := { program := "ytamidaedhaoffaa", sum := "015a30194f3b8cca3746bbc534bc8de60da60a7dff91ac718c88eba6d13eaa3b", func := "loop.example/g01060/laws.FnExactWidthOn", spec := "fnExactWidthOn", apart := false, narrowed := true }
def FnExactWidthOnUptoSaid : Prop := fnExactWidthOnUptoRow.holds Try.pinned (OpenSpec.upto fnExactWidthOnSpec)

/-- 'laws.FnExactRoomFor', WHERE WHAT IT READS IS OF BULK AT MOST 1048576: true; the input reads as it did. -/
def fnExactRoomForUptoRow : OpenClaim := { program := "ytamidaedhaoffaa", sum := "015a30194f3b8cca3746bbc534bc8de60da60a7dff91ac718c88eba6d13eaa3b", func := "loop.example/g01060/laws.FnExactRoomFor", spec := "fnExactRoomFor", apart := false, narrowed := true }
def FnExactRoomForUptoSaid : Prop := fnExactRoomForUptoRow.holds Try.pinned (OpenSpec.upto fnExactRoomForSpec)

/-- 'laws.FnExactBusiestDay', WHERE WHAT IT READS IS OF BULK AT MOST 1048576: true; the input reads as it did. -/
def fnExactBusiestDayUptoRow : OpenClaim := { program := "ytamidaedhaoffaa", sum := "015a30194f3b8cca3746bbc534bc8de60da60a7dff91ac718c88eba6d13eaa3b", func := "loop.example/g01060/laws.FnExactBusiestDay", spec := "fnExactBusiestDay", apart := false, narrowed := true }
def FnExactBusiestDayUptoSaid : Prop := fnExactBusiestDayUptoRow.holds Try.pinned (OpenSpec.upto fnExactBusiestDaySpec)

/-- 'laws.FnExactFirstRoom', WHERE WHAT IT READS IS OF BULK AT MOST 1048576: true; the input reads as it did. -/
def fnExactFirstRoomUptoRow : OpenClaim := { program := "ytamidaedhaoffaa", sum := "015a30194f3b8cca3746bbc534bc8de60da60a7dff91ac718c88eba6d13eaa3b", func := "loop.example/g01060/laws.FnExactFirstRoom", spec := "fnExactFirstRoom", apart := false, narrowed := true }
def FnExactFirstRoomUptoSaid : Prop := fnExactFirstRoomUptoRow.holds Try.pinned (OpenSpec.upto fnExactFirstRoomSpec)

/-- 'laws.FnExactHangFrame', WHERE WHAT IT READS IS OF BULK AT MOST 1048576: true; the input reads as it did. -/
def fnExactHangFrameUptoRow : OpenClaim := { program := "ytamidaedhaoffaa", sum := "015a30194f3b8cca3746bbc534bc8de60da60a7dff91ac718c88eba6d13eaa3b", func := "loop.example/g01060/laws.FnExactHangFrame", spec := "fnExactHangFrame", apart := false, narrowed := true }
def FnExactHangFrameUptoSaid : Prop := fnExactHangFrameUptoRow.holds Try.pinned (OpenSpec.upto fnExactHangFrameSpec)

/-- 'laws.FnExactTakeDown', WHERE WHAT IT READS IS OF BULK AT MOST 1048576: true; the input reads as it did. -/
def fnExactTakeDownUptoRow : OpenClaim := { program := "ytamidaedhaoffaa", sum := "015a30194f3b8cca3746bbc534bc8de60da60a7dff91ac718c88eba6d13eaa3b", func := "loop.example/g01060/laws.FnExactTakeDown", spec := "fnExactTakeDown", unfollowed := true, recurses := true, apart := false, narrowed := true }
def FnExactTakeDownUptoSaid : Prop := fnExactTakeDownUptoRow.holds Try.pinned (OpenSpec.upto fnExactTakeDownSpec)

/-- 'laws.FnExactWallsFor', WHERE WHAT IT READS IS OF BULK AT MOST 1048576: true; the input reads as it did. -/
def fnExactWallsForUptoRow : OpenClaim := { program := "ytamidaedhaoffaa", sum := "015a30194f3b8cca3746bbc534bc8de60da60a7dff91ac718c88eba6d13eaa3b", func := "loop.example/g01060/laws.FnExactWallsFor", spec := "fnExactWallsFor", apart := false, narrowed := true }
def FnExactWallsForUptoSaid : Prop := fnExactWallsForUptoRow.holds Try.pinned (OpenSpec.upto fnExactWallsForSpec)

/-- 'laws.FnExactMoveFrame', WHERE WHAT IT READS IS OF BULK AT MOST 1048576: true; the input reads as it did. -/
def fnExactMoveFrameUptoRow : OpenClaim := { program := "ytamidaedhaoffaa", sum := "015a30194f3b8cca3746bbc534bc8de60da60a7dff91ac718c88eba6d13eaa3b", func := "loop.example/g01060/laws.FnExactMoveFrame", spec := "fnExactMoveFrame", unfollowed := true, recurses := true, apart := false, narrowed := true }
def FnExactMoveFrameUptoSaid : Prop := fnExactMoveFrameUptoRow.holds Try.pinned (OpenSpec.upto fnExactMoveFrameSpec)

/-- 'laws.FnExactHangingOn', WHERE WHAT IT READS IS OF BULK AT MOST 1048576: true; the input reads as it did. -/
def fnExactHangingOnUptoRow : OpenClaim := { program := "ytamidaedhaoffaa", sum := "015a30194f3b8cca3746bbc534bc8de60da60a7dff91ac718c88eba6d13eaa3b", func := "loop.example/g01060/laws.FnExactHangingOn", spec := "fnExactHangingOn", unfollowed := true, recurses := true, apart := false, narrowed := true }
def FnExactHangingOnUptoSaid : Prop := fnExactHangingOnUptoRow.holds Try.pinned (OpenSpec.upto fnExactHangingOnSpec)

/-- 'laws.FnFrames', WHERE WHAT IT READS IS OF BULK AT MOST 1048576: true; the input reads as it did. -/
def fnFramesUptoRow : OpenClaim := { program := "ytamidaedhaoffaa", sum := "015a30194f3b8cca3746bbc534bc8de60da60a7dff91ac718c88eba6d13eaa3b", func := "loop.example/g01060/laws.FnFrames", spec := "fnFrames", unfollowed := true, recurses := true, apart := false, narrowed := true }
def FnFramesUptoSaid : Prop := fnFramesUptoRow.holds Try.pinned (OpenSpec.upto fnFramesSpec)

end Rows
end Go.Proofs.Ytamidaedhaoffaa
