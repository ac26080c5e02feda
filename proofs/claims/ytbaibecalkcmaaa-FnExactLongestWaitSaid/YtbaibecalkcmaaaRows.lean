/-
  No cell of these rows narrows 'for every input' (looked for: loops, veiled, ifaces, maps, wideKeys, modest, calm, conditions, laid).
  DERIVED. THE GIVEN ROWS OF THIS SEAT. 11 by the template 'for every input the law returns true; each argument reads behind the call as it read before'; 0 by the template 'total and deterministic' (their statements: YtbaibecalkcmaaaTotals.lean).
  GIVEN WITH THE SEED: the statements are not yours to turn. If you find one false, say at which input.
  Laid BY PROGRAM, IN A SANDBOX (cutbox-rows.mjs): the forced cells as the released guide's own fill.sh prints them over the translation 1d2bc7ee086ef8c7… (all of the seat's roots in one cut). By AI agents, Wed Nov 11 2026. No macro, syntax, notation, axiom, sorry.
-/
import Derived.Test.YtbaibecalkcmaaaChecked
import GoSem.Claim
import GoSem.ClaimJoined
import GoSem.ClaimMapViews
import Derived.JoinedTies
import Derived.KernelRfl
namespace Go.Proofs.Ytbaibecalkcmaaa
/- THE CELL 'sum', in the pinned program and in every row, IS THE sha256 OF THE DUMP (.gsa) THAT YtbaibecalkcmaaaProg.lean LOADS. Nothing in Lean hashes anything: it is a label: what it is worth is what the hold of that sum in a sandbox is worth. -/
noncomputable def Try.pinned : Pinned := { name := "ytbaibecalkcmaaa", sum := "1d2bc7ee086ef8c716037e2437fc6b7b6b550cd19cd9e243a7d8f317616fd4da", checked := Try.checked }
namespace Rows
def none {H : Type} : Left H := { results := [], args := [] }

/-- 'laws.FnExactAreGifts': WHATEVER THE INPUT: true; the input reads as it did. -/
def fnExactAreGiftsSpec : ChangeSpec := { name := "fnExactAreGifts", fn := fun _ => fun
  | [d] => { results := [.lit (.bool true)], args := [d] }
  | _ => none }
def fnExactAreGiftsRow : OpenClaim := { program := "ytbaibecalkcmaaa", sum := "1d2bc7ee086ef8c716037e2437fc6b7b6b550cd19cd9e243a7d8f317616fd4da", func := "loop.example/g01060/laws.FnExactAreGifts", spec := "fnExactAreGifts", unfollowed := true, recurses := true, apart := false }
def FnExactAreGiftsSaid : Prop := fnExactAreGiftsRow.holds Try.pinned (OpenSpec.ofChange fnExactAreGiftsSpec)

/-- ITS FALSE NEIGHBOUR: 'it returns false'. Refute it at one input. -/
def fnExactAreGiftsWrong : ChangeSpec := { name := "fnExactAreGifts", fn := fun _ => fun
  | [d] => { results := [.lit (.bool false)], args := [d] }
  | _ => none }
def FnExactAreGiftsWrongFalsely : Prop := fnExactAreGiftsRow.holds Try.pinned (OpenSpec.ofChange fnExactAreGiftsWrong)

/-- 'laws.FnExactSheetsFrom': WHATEVER THE INPUT: true; the input reads as it did. -/
def fnExactSheetsFromSpec : ChangeSpec := { name := "fnExactSheetsFrom", fn := fun _ => fun
  | [d1, d2] => { results := [.lit (.bool true)], args := [d1, d2] }
  | _ => none }
def fnExactSheetsFromRow : OpenClaim := { program := "ytbaibecalkcmaaa", sum := "1d2bc7ee086ef8c716037e2437fc6b7b6b550cd19cd9e243a7d8f317616fd4da", func := "loop.example/g01060/laws.FnExactSheetsFrom", spec := "fnExactSheetsFrom", unfollowed := true, recurses := true, apart := false }
def FnExactSheetsFromSaid : Prop := fnExactSheetsFromRow.holds Try.pinned (OpenSpec.ofChange fnExactSheetsFromSpec)

/-- ITS FALSE NEIGHBOUR: 'it returns false'. Refute it at one input. -/
def fnExactSheetsFromWrong : ChangeSpec := { name := "fnExactSheetsFrom", fn := fun _ => fun
  | [d1, d2] => { results := [.lit (.bool false)], args := [d1, d2] }
  | _ => none }
def FnExactSheetsFromWrongFalsely : Prop := fnExactSheetsFromRow.holds Try.pinned (OpenSpec.ofChange fnExactSheetsFromWrong)

/-- 'laws.FnExactTakeGift': WHATEVER THE INPUT: true; the input reads as it did. -/
def fnExactTakeGiftSpec : ChangeSpec := { name := "fnExactTakeGift", fn := fun _ => fun
  | [d1, d2, d3, d4] => { results := [.lit (.bool true)], args := [d1, d2, d3, d4] }
  | _ => none }
def fnExactTakeGiftRow : OpenClaim := { program := "ytbaibecalkcmaaa", sum := "1d2bc7ee086ef8c716037e2437fc6b7b6b550cd19cd9e243a7d8f317616fd4da", func := "loop.example/g01060/laws.FnExactTakeGift", spec := "fnExactTakeGift", unfollowed := true, recurses := true, apart := false }
def FnExactTakeGiftSaid : Prop := fnExactTakeGiftRow.holds Try.pinned (OpenSpec.ofChange fnExactTakeGiftSpec)

/-- ITS FALSE NEIGHBOUR: 'it returns false'. Refute it at one input. -/
def fnExactTakeGiftWrong : ChangeSpec := { name := "fnExactTakeGift", fn := fun _ => fun
  | [d1, d2, d3, d4] => { results := [.lit (.bool false)], args := [d1, d2, d3, d4] }
  | _ => none }
def FnExactTakeGiftWrongFalsely : Prop := fnExactTakeGiftRow.holds Try.pinned (OpenSpec.ofChange fnExactTakeGiftWrong)

/-- 'laws.FnExactThanksAll': WHATEVER THE INPUT: true; the input reads as it did. -/
def fnExactThanksAllSpec : ChangeSpec := { name := "fnExactThanksAll", fn := fun _ => fun
  | [d1, d2, d3] => { results := [.lit (.bool true)], args := [d1, d2, d3] }
  | _ => none }
def fnExactThanksAllRow : OpenClaim := { program := "ytbaibecalkcmaaa", sum := "1d2bc7ee086ef8c716037e2437fc6b7b6b550cd19cd9e243a7d8f317616fd4da", func := "loop.example/g01060/laws.FnExactThanksAll", spec := "fnExactThanksAll", unfollowed := true, recurses := true, apart := false }
def FnExactThanksAllSaid : Prop := fnExactThanksAllRow.holds Try.pinned (OpenSpec.ofChange fnExactThanksAllSpec)

/-- ITS FALSE NEIGHBOUR: 'it returns false'. Refute it at one input. -/
def fnExactThanksAllWrong : ChangeSpec := { name := "fnExactThanksAll", fn := fun _ => fun
  | [d1, d2, d3] => { results := [.lit (.bool false)], args := [d1, d2, d3] }
  | _ => none }
def FnExactThanksAllWrongFalsely : Prop := fnExactThanksAllRow.holds Try.pinned (OpenSpec.ofChange fnExactThanksAllWrong)

/-- 'laws.FnExactThankFor': WHATEVER THE INPUT: true; the input reads as it did. -/
def fnExactThankForSpec : ChangeSpec := { name := "fnExactThankFor", fn := fun _ => fun
  | [d1, d2, d3] => { results := [.lit (.bool true)], args := [d1, d2, d3] }
  | _ => none }
def fnExactThankForRow : OpenClaim := { program := "ytbaibecalkcmaaa", sum := "1d2bc7ee086ef8c716037e2437fc6b7b6b550cd19cd9e243a7d8f317616fd4da", func := "loop.example/g01060/laws.FnExactThankFor", spec := "fnExactThankFor", unfollowed := true, recurses := true, apart := false }
def FnExactThankForSaid : Prop := fnExactThankForRow.holds Try.pinned (OpenSpec.ofChange fnExactThankForSpec)

/-- ITS FALSE NEIGHBOUR: 'it returns false'. Refute it at one input. -/
def fnExactThankForWrong : ChangeSpec := { name := "fnExactThankFor", fn := fun _ => fun
  | [d1, d2, d3] => { results := [.lit (.bool false)], args := [d1, d2, d3] }
  | _ => none }
def FnExactThankForWrongFalsely : Prop := fnExactThankForRow.holds Try.pinned (OpenSpec.ofChange fnExactThankForWrong)

/-- 'laws.FnExactUnthanked': WHATEVER THE INPUT: true; the input reads as it did. -/
def fnExactUnthankedSpec : ChangeSpec := { name := "fnExactUnthanked", fn := fun _ => fun
  | [d1, d2, d3] => { results := [.lit (.bool true)], args := [d1, d2, d3] }
  | _ => none }
def fnExactUnthankedRow : OpenClaim := { program := "ytbaibecalkcmaaa", sum := "1d2bc7ee086ef8c716037e2437fc6b7b6b550cd19cd9e243a7d8f317616fd4da", func := "loop.example/g01060/laws.FnExactUnthanked", spec := "fnExactUnthanked", unfollowed := true, recurses := true, apart := false }
def FnExactUnthankedSaid : Prop := fnExactUnthankedRow.holds Try.pinned (OpenSpec.ofChange fnExactUnthankedSpec)

/-- ITS FALSE NEIGHBOUR: 'it returns false'. Refute it at one input. -/
def fnExactUnthankedWrong : ChangeSpec := { name := "fnExactUnthanked", fn := fun _ => fun
  | [d1, d2, d3] => { results := [.lit (.bool false)], args := [d1, d2, d3] }
  | _ => none }
def FnExactUnthankedWrongFalsely : Prop := fnExactUnthankedRow.holds Try.pinned (OpenSpec.ofChange fnExactUnthankedWrong)

/-- 'laws.FnExactMeanWait': WHATEVER THE INPUT: true; the input reads as it did. -/
def fnExactMeanWaitSpec : ChangeSpec := { name := "fnExactMeanWait", fn := fun _ => fun
  | [d1, d2] => { results := [.lit (.bool true)], args := [d1, d2] }
  | _ => none }
def fnExactMeanWaitRow : OpenClaim := { program := "ytbaibecalkcmaaa", sum := "1d2bc7ee086ef8c716037e2437fc6b7b6b550cd19cd9e243a7d8f317616fd4da", func := "loop.example/g01060/laws.FnExactMeanWait", spec := "fnExactMeanWait", unfollowed := true, recurses := true, apart := false }
def FnExactMeanWaitSaid : Prop := fnExactMeanWaitRow.holds Try.pinned (OpenSpec.ofChange fnExactMeanWaitSpec)

/-- ITS FALSE NEIGHBOUR: 'it returns false'. Refute it at one input. -/
def fnExactMeanWaitWrong : ChangeSpec := { name := "fnExactMeanWait", fn := fun _ => fun
  | [d1, d2] => { results := [.lit (.bool false)], args := [d1, d2] }
  | _ => none }
def FnExactMeanWaitWrongFalsely : Prop := fnExactMeanWaitRow.holds Try.pinned (OpenSpec.ofChange fnExactMeanWaitWrong)

/-- 'laws.FnExactLongestWait': WHATEVER THE INPUT: true; the input reads as it did. -/
def fnExactLongestWaitSpec : ChangeSpec := { name := "fnExactLongestWait", fn := fun _ => fun
  | [d1, d2] => { results := [.lit (.bool true)], args := [d1, d2] }
  | _ => none }
def fnExactLongestWaitRow : OpenClaim := { program := "ytbaibecalkcmaaa", sum := "1d2bc7ee086ef8c716037e2437fc6b7b6b550cd19cd9e243a7d8f317616fd4da", func := "loop.example/g01060/laws.FnExactLongestWait", spec := "fnExactLongestWait", unfollowed := true, recurses := true, apart := false }
def FnExactLongestWaitSaid : Prop := fnExactLongestWaitRow.holds Try.pinned (OpenSpec.ofChange fnExactLongestWaitSpec)

/-- ITS FALSE NEIGHBOUR: 'it returns false'. Refute it at one input. -/
def fnExactLongestWaitWrong : ChangeSpec := { name := "fnExactLongestWait", fn := fun _ => fun
  | [d1, d2] => { results := [.lit (.bool false)], args := [d1, d2] }
  | _ => none }
def FnExactLongestWaitWrongFalsely : Prop := fnExactLongestWaitRow.holds Try.pinned (OpenSpec.ofChange fnExactLongestWaitWrong)

/-- 'laws.FnExactJoinGivers': WHATEVER THE INPUT: true; the input reads as it did. -/
def fnExactJoinGiversSpec : ChangeSpec := { name := "fnExactJoinGivers", fn := fun _ => fun
  | [d1, d2, d3] => { results := [.lit (.bool true)], args := [d1, d2, d3] }
  | _ => none }
def fnExactJoinGiversRow : OpenClaim := { program := "ytbaibecalkcmaaa", sum := "1d2bc7ee086ef8c716037e2437fc6b7b6b550cd19cd9e243a7d8f317616fd4da", func := "loop.example/g01060/laws.FnExactJoinGivers", spec := "fnExactJoinGivers", unfollowed := true, recurses := true, apart := false }
def FnExactJoinGiversSaid : Prop := fnExactJoinGiversRow.holds Try.pinned (OpenSpec.ofChange fnExactJoinGiversSpec)

/-- ITS FALSE NEIGHBOUR: 'it returns false'. Refute it at one input. -/
def fnExactJoinGiversWrong : ChangeSpec := { name := "fnExactJoinGivers", fn := fun _ => fun
  | [d1, d2, d3] => { results := [.lit (.bool false)], args := [d1, d2, d3] }
  | _ => none }
def FnExactJoinGiversWrongFalsely : Prop := fnExactJoinGiversRow.holds Try.pinned (OpenSpec.ofChange fnExactJoinGiversWrong)

/-- 'laws.FnExactGiverNames': WHATEVER THE INPUT: true; the input reads as it did. -/
def fnExactGiverNamesSpec : ChangeSpec := { name := "fnExactGiverNames", fn := fun _ => fun
  | [d] => { results := [.lit (.bool true)], args := [d] }
  | _ => none }
def fnExactGiverNamesRow : OpenClaim := { program := "ytbaibecalkcmaaa", sum := "1d2bc7ee086ef8c716037e2437fc6b7b6b550cd19cd9e243a7d8f317616fd4da", func := "loop.example/g01060/laws.FnExactGiverNames", spec := "fnExactGiverNames", unfollowed := true, recurses := true, apart := false }
def FnExactGiverNamesSaid : Prop := fnExactGiverNamesRow.holds Try.pinned (OpenSpec.ofChange fnExactGiverNamesSpec)

/-- ITS FALSE NEIGHBOUR: 'it returns false'. Refute it at one input. -/
def fnExactGiverNamesWrong : ChangeSpec := { name := "fnExactGiverNames", fn := fun _ => fun
  | [d] => { results := [.lit (.bool false)], args := [d] }
  | _ => none }
def FnExactGiverNamesWrongFalsely : Prop := fnExactGiverNamesRow.holds Try.pinned (OpenSpec.ofChange fnExactGiverNamesWrong)

/-- 'laws.FnGifts': WHATEVER THE INPUT: true; the input reads as it did. -/
def fnGiftsSpec : ChangeSpec := { name := "fnGifts", fn := fun _ => fun
  | [d] => { results := [.lit (.bool true)], args := [d] }
  | _ => none }
def fnGiftsRow : OpenClaim := { program := "ytbaibecalkcmaaa", sum := "1d2bc7ee086ef8c716037e2437fc6b7b6b550cd19cd9e243a7d8f317616fd4da", func := "loop.example/g01060/laws.FnGifts", spec := "fnGifts", unfollowed := true, recurses := true, apart := false }
def FnGiftsSaid : Prop := fnGiftsRow.holds Try.pinned (OpenSpec.ofChange fnGiftsSpec)

/-- ITS FALSE NEIGHBOUR: 'it returns false'. Refute it at one input. -/
def fnGiftsWrong : ChangeSpec := { name := "fnGifts", fn := fun _ => fun
  | [d] => { results := [.lit (.bool false)], args := [d] }
  | _ => none }
def FnGiftsWrongFalsely : Prop := fnGiftsRow.holds Try.pinned (OpenSpec.ofChange fnGiftsWrong)

/- THE SECOND FORM. 'bulk': how many values and letters a reading holds, each counted each time it is reached (what is shared counts as often as it is met; a slice's spare places count too). A statement '..UptoSaid' is the law's where the arguments, and the package variables that the reading takes, are together of bulk at most 1048576: NARROWER than '..Said'. Prove '..Said' where nothing that the law and all that it calls make is longer than what came in: it says more and counts as full. Else prove '..UptoSaid'. A law counts once. -/
mutual
def uptoBulk {H : Type} : DataW H → Nat
  | .lit (.string bytes) => bytes.length + 1
  | .lit _ => 1
  | .nil => 1
  | .ptr d => uptoBulk d + 1
  | .slice elems spare => uptoBulkAll elems + uptoBulkAll spare + 1
  | .agg parts => uptoBulkAll parts + 1
  | .iface _ d => uptoBulk d + 1
  | .map entries => uptoBulkEntries entries + 1
  | .held _ => 1
def uptoBulkAll {H : Type} : List (DataW H) → Nat
  | [] => 0
  | d :: r => uptoBulk d + uptoBulkAll r
def uptoBulkEntries {H : Type} : List (Lit × DataW H) → Nat
  | [] => 0
  | x :: r => uptoBulkEntry x + uptoBulkEntries r
def uptoBulkEntry {H : Type} : Lit × DataW H → Nat
  | (.string bytes, d) => bytes.length + uptoBulk d + 1
  | (_, d) => uptoBulk d + 1
 end
def uptoSmall : (H : Type) → List (DataW H) → Bool := fun _ ds => decide (uptoBulkAll ds ≤ 1048576)
def OpenSpec.upto (s : _root_.Go.ChangeSpec) : _root_.Go.OpenSpec := { _root_.Go.OpenSpec.ofChange s with cond := some uptoSmall }

/-- 'laws.FnExactAreGifts', WHERE WHAT IT READS IS OF BULK AT MOST 1048576: true; the input reads as it did. -/
def fnExactAreGiftsUptoRow : OpenClaim := { program := "ytbaibecalkcmaaa", sum := "1d2bc7ee086ef8c716037e2437fc6b7b6b550cd19cd9e243a7d8f317616fd4da", func := "loop.example/g01060/laws.FnExactAreGifts", spec := "fnExactAreGifts", unfollowed := true, recurses := true, apart := false, narrowed := true }
def FnExactAreGiftsUptoSaid : Prop := fnExactAreGiftsUptoRow.holds Try.pinned (OpenSpec.upto fnExactAreGiftsSpec)

/-- 'laws.FnExactSheetsFrom', WHERE WHAT IT READS IS OF BULK AT MOST 1048576: true; the input reads as it did. -/
def fnExactSheetsFromUptoRow : OpenClaim := { program := "ytbaibecalkcmaaa", sum := "1d2bc7ee086ef8c716037e2437fc6b7b6b550cd19cd9e243a7d8f317616fd4da", func := "loop.example/g01060/laws.FnExactSheetsFrom", spec := "fnExactSheetsFrom", unfollowed := true, recurses := true, apart := false, narrowed := true }
def FnExactSheetsFromUptoSaid : Prop := fnExactSheetsFromUptoRow.holds Try.pinned (OpenSpec.upto fnExactSheetsFromSpec)

/-- 'laws.FnExactTakeGift', WHERE WHAT IT READS IS OF BULK AT MOST 1048576: true; the input reads as it did. -/
def fnExactTakeGiftUptoRow : OpenClaim := { program := "ytbaibecalkcmaaa", sum := "1d2bc7ee086ef8c716037e2437fc6b7b6b550cd19cd9e243a7d8f317616fd4da", func := "loop.example/g01060/laws.FnExactTakeGift", spec := "fnExactTakeGift", unfollowed := true, recurses := true, apart := false, narrowed := true }
def FnExactTakeGiftUptoSaid : Prop := fnExactTakeGiftUptoRow.holds Try.pinned (OpenSpec.upto fnExactTakeGiftSpec)

/-- 'laws.FnExactThanksAll', WHERE WHAT IT READS IS OF BULK AT MOST 1048576: true; the input reads as it did. -/
def fnExactThanksAllUptoRow : OpenClaim := { program := "ytbaibecalkcmaaa", sum := "1d2bc7ee086ef8c716037e2437fc6b7b6b550cd19cd9e243a7d8f317616fd4da", func := "loop.example/g01060/laws.FnExactThanksAll", spec := "fnExactThanksAll", unfollowed := true, recurses := true, apart := false, narrowed := true }
def FnExactThanksAllUptoSaid : Prop := fnExactThanksAllUptoRow.holds Try.pinned (OpenSpec.upto fnExactThanksAllSpec)

/-- 'laws.FnExactThankFor', WHERE WHAT IT READS IS OF BULK AT MOST 1048576: true; the input reads as it did. -/
def fnExactThankForUptoRow : OpenClaim := { program := "ytbaibecalkcmaaa", sum := "1d2bc7ee086ef8c716037e2437fc6b7b6b550cd19cd9e243a7d8f317616fd4da", func := "loop.example/g01060/laws.FnExactThankFor", spec := "fnExactThankFor", unfollowed := true, recurses := true, apart := false, narrowed := true }
def FnExactThankForUptoSaid : Prop := fnExactThankForUptoRow.holds Try.pinned (OpenSpec.upto fnExactThankForSpec)

/-- 'laws.FnExactUnthanked', WHERE WHAT IT READS IS OF BULK AT MOST 1048576: true; the input reads as it did. -/
def fnExactUnthankedUptoRow : OpenClaim := { program := "ytbaibecalkcmaaa", sum := "1d2bc7ee086ef8c716037e2437fc6b7b6b550cd19cd9e243a7d8f317616fd4da", func := "loop.example/g01060/laws.FnExactUnthanked", spec := "fnExactUnthanked", unfollowed := true, recurses := true, apart := false, narrowed := true }
def FnExactUnthankedUptoSaid : Prop := fnExactUnthankedUptoRow.holds Try.pinned (OpenSpec.upto fnExactUnthankedSpec)

/-- 'laws.FnExactMeanWait', WHERE WHAT IT READS IS OF BULK AT MOST 1048576: true; the input reads as it did. -/
def fnExactMeanWaitUptoRow : OpenClaim := { program := "ytbaibecalkcmaaa", sum := "1d2bc7ee086ef8c716037e2437fc6b7b6b550cd19cd9e243a7d8f317616fd4da", func := "loop.example/g01060/laws.FnExactMeanWait", spec := "fnExactMeanWait", unfollowed := true, recurses := true, apart := false, narrowed := true }
def FnExactMeanWaitUptoSaid : Prop := fnExactMeanWaitUptoRow.holds Try.pinned (OpenSpec.upto fnExactMeanWaitSpec)

/-- 'laws.FnExactLongestWait', WHERE WHAT IT READS IS OF BULK AT MOST 1048576: true; the input reads as it did. -/
def fnExactLongestWaitUptoRow : OpenClaim := { program := "ytbaibecalkcmaaa", sum := "1d2bc7ee086ef8c716037e2437fc6b7b6b550cd19cd9e243a7d8f317616fd4da", func := "loop.example/g01060/laws.FnExactLongestWait", spec := "fnExactLongestWait", unfollowed := true, recurses := true, apart := false, narrowed := true }
def FnExactLongestWaitUptoSaid : Prop := fnExactLongestWaitUptoRow.holds Try.pinned (OpenSpec.upto fnExactLongestWaitSpec)

/-- 'laws.FnExactJoinGivers', WHERE WHAT IT READS IS OF BULK AT MOST 1048576: true; the input reads as it did. -/
def fnExactJoinGiversUptoRow : OpenClaim := { program := "ytbaibecalkcmaaa", sum := "1d2bc7ee086ef8c716037e2437fc6b7b6b550cd19cd9e243a7d8f317616fd4da", func := "loop.example/g01060/laws.FnExactJoinGivers", spec := "fnExactJoinGivers", unfollowed := true, recurses := true, apart := false, narrowed := true }
def FnExactJoinGiversUptoSaid : Prop := fnExactJoinGiversUptoRow.holds Try.pinned (OpenSpec.upto fnExactJoinGiversSpec)

/-- 'laws.FnExactGiverNames', WHERE WHAT IT READS IS OF BULK AT MOST 1048576: true; the input reads as it did. -/
def fnExactGiverNamesUptoRow : OpenClaim := { program := "ytbaibecalkcmaaa", sum := "1d2bc7ee086ef8c716037e2437fc6b7b6b550cd19cd9e243a7d8f317616fd4da", func := "loop.example/g01060/laws.FnExactGiverNames", spec := "fnExactGiverNames", unfollowed := true, recurses := true, apart := false, narrowed := true }
def FnExactGiverNamesUptoSaid : Prop := fnExactGiverNamesUptoRow.holds Try.pinned (OpenSpec.upto fnExactGiverNamesSpec)

/-- 'laws.FnGifts', WHERE WHAT IT READS IS OF BULK AT MOST 1048576: true; the input reads as it did. -/
def fnGiftsUptoRow : OpenClaim := { program := "ytbaibecalkcmaaa", sum := "1d2bc7ee086ef8c716037e2437fc6b7b6b550cd19cd9e243a7d8f317616fd4da", func := "loop.example/g01060/laws.FnGifts", spec := "fnGifts", unfollowed := true, recurses := true, apart := false, narrowed := true }
def FnGiftsUptoSaid : Prop := fnGiftsUptoRow.holds Try.pinned (OpenSpec.upto fnGiftsSpec)

end Rows
end Go.Proofs.Ytbaibecalkcmaaa
