/-
  No cell of these rows narrows 'for every input' (looked for: loops, veiled, ifaces, maps, wideKeys, modest, calm, conditions, laid).
  DERIVED. THE GIVEN ROWS OF THIS SEAT. 12 by the template 'for every input the law returns true; each argument reads behind the call as it read before'; 0 by the template 'total and deterministic' (their statements: YtjcpcnljhgfafaaTotals.lean).
  GIVEN WITH THE SEED: the statements are not yours to turn. If you find one false, say at which input.
  Laid BY PROGRAM, IN A SANDBOX (cutbox-rows.mjs): the forced cells as the released guide's own fill.sh prints them over the translation b78b9613ab146180… (all of the seat's roots in one cut). By AI agents, Wed Nov 11 2026. No macro, syntax, notation, axiom, sorry.
-/
import Derived.Test.YtjcpcnljhgfafaaChecked
import GoSem.Claim
import GoSem.ClaimJoined
import GoSem.ClaimMapViews
import Derived.JoinedTies
import Derived.KernelRfl
namespace Go.Proofs.Ytjcpcnljhgfafaa
/- THE CELL 'sum', in the pinned program and in every row, IS THE sha256 OF THE DUMP (.gsa) THAT YtjcpcnljhgfafaaProg.lean LOADS. Nothing in Lean hashes anything: it is a label: what it is worth is what the hold of that sum in a sandbox is worth. -/
noncomputable def Try.pinned : Pinned := { name := "ytjcpcnljhgfafaa", sum := "b78b9613ab1461800fda5a4d19c9db57d7e49be687a14e06affae9d8f2cfb4c8", checked := Try.checked }
namespace Rows
def none {H : Type} : Left H := { results := [], args := [] }

/-- 'laws.FnExactAreOrders': WHATEVER THE INPUT: true; the input reads as it did. -/
def fnExactAreOrdersSpec : ChangeSpec := { name := "fnExactAreOrders", fn := fun _ => fun
  | [d] => { results := [.lit (.bool true)], args := [d] }
  | _ => none }
def fnExactAreOrdersRow : OpenClaim := { program := "ytjcpcnljhgfafaa", sum := "b78b9613ab1461800fda5a4d19c9db57d7e49be687a14e06affae9d8f2cfb4c8", func := "loop.example/g01060/laws.FnExactAreOrders", spec := "fnExactAreOrders", apart := false }
def FnExactAreOrdersSaid : Prop := fnExactAreOrdersRow.holds Try.pinned (OpenSpec.ofChange fnExactAreOrdersSpec)

/-- ITS FALSE NEIGHBOUR: 'it returns false'. Refute it at one input. -/
def fnExactAreOrdersWrong : ChangeSpec := { name := "fnExactAreOrders", fn := fun _ => fun
  | [d] => { results := [.lit (.bool false)], args := [d] }
  | _ => none }
def FnExactAreOrdersWrongFalsely : Prop := fnExactAreOrdersRow.holds Try.pinned (OpenSpec.ofChange fnExactAreOrdersWrong)

/-- 'laws.FnExactWaitingPages': WHATEVER THE INPUT: true; the input reads as it did. -/
def fnExactWaitingPagesSpec : ChangeSpec := { name := "fnExactWaitingPages", fn := fun _ => fun
  | [d] => { results := [.lit (.bool true)], args := [d] }
  | _ => none }
def fnExactWaitingPagesRow : OpenClaim := { program := "ytjcpcnljhgfafaa", sum := "b78b9613ab1461800fda5a4d19c9db57d7e49be687a14e06affae9d8f2cfb4c8", func := "loop.example/g01060/laws.FnExactWaitingPages", spec := "fnExactWaitingPages", apart := false }
def FnExactWaitingPagesSaid : Prop := fnExactWaitingPagesRow.holds Try.pinned (OpenSpec.ofChange fnExactWaitingPagesSpec)

/-- ITS FALSE NEIGHBOUR: 'it returns false'. Refute it at one input. -/
def fnExactWaitingPagesWrong : ChangeSpec := { name := "fnExactWaitingPages", fn := fun _ => fun
  | [d] => { results := [.lit (.bool false)], args := [d] }
  | _ => none }
def FnExactWaitingPagesWrongFalsely : Prop := fnExactWaitingPagesRow.holds Try.pinned (OpenSpec.ofChange fnExactWaitingPagesWrong)

/-- 'laws.FnExactSlowestOrder': WHATEVER THE INPUT: true; the input reads as it did. -/
def fnExactSlowestOrderSpec : ChangeSpec := { name := "fnExactSlowestOrder", fn := fun _ => fun
  | [d] => { results := [.lit (.bool true)], args := [d] }
  | _ => none }
def fnExactSlowestOrderRow : OpenClaim := { program := "ytjcpcnljhgfafaa", sum := "b78b9613ab1461800fda5a4d19c9db57d7e49be687a14e06affae9d8f2cfb4c8", func := "loop.example/g01060/laws.FnExactSlowestOrder", spec := "fnExactSlowestOrder", apart := false }
def FnExactSlowestOrderSaid : Prop := fnExactSlowestOrderRow.holds Try.pinned (OpenSpec.ofChange fnExactSlowestOrderSpec)

/-- ITS FALSE NEIGHBOUR: 'it returns false'. Refute it at one input. -/
def fnExactSlowestOrderWrong : ChangeSpec := { name := "fnExactSlowestOrder", fn := fun _ => fun
  | [d] => { results := [.lit (.bool false)], args := [d] }
  | _ => none }
def FnExactSlowestOrderWrongFalsely : Prop := fnExactSlowestOrderRow.holds Try.pinned (OpenSpec.ofChange fnExactSlowestOrderWrong)

/-- 'laws.FnExactPriceOf': WHATEVER THE INPUT: true; the input reads as it did. -/
def fnExactPriceOfSpec : ChangeSpec := { name := "fnExactPriceOf", fn := fun _ => fun
  | [d1, d2] => { results := [.lit (.bool true)], args := [d1, d2] }
  | _ => none }
def fnExactPriceOfRow : OpenClaim := { program := "ytjcpcnljhgfafaa", sum := "b78b9613ab1461800fda5a4d19c9db57d7e49be687a14e06affae9d8f2cfb4c8", func := "loop.example/g01060/laws.FnExactPriceOf", spec := "fnExactPriceOf", unfollowed := true, recurses := true, apart := false }
def FnExactPriceOfSaid : Prop := fnExactPriceOfRow.holds Try.pinned (OpenSpec.ofChange fnExactPriceOfSpec)

/-- ITS FALSE NEIGHBOUR: 'it returns false'. Refute it at one input. -/
def fnExactPriceOfWrong : ChangeSpec := { name := "fnExactPriceOf", fn := fun _ => fun
  | [d1, d2] => { results := [.lit (.bool false)], args := [d1, d2] }
  | _ => none }
def FnExactPriceOfWrongFalsely : Prop := fnExactPriceOfRow.holds Try.pinned (OpenSpec.ofChange fnExactPriceOfWrong)

/-- 'laws.FnExactLeastRate': WHATEVER THE INPUT: true; the input reads as it did. -/
def fnExactLeastRateSpec : ChangeSpec := { name := "fnExactLeastRate", fn := fun _ => fun
  | [d1, d2, d3] => { results := [.lit (.bool true)], args := [d1, d2, d3] }
  | _ => none }
def fnExactLeastRateRow : OpenClaim := { program := "ytjcpcnljhgfafaa", sum := "b78b9613ab1461800fda5a4d19c9db57d7e49be687a14e06affae9d8f2cfb4c8", func := "loop.example/g01060/laws.FnExactLeastRate", spec := "fnExactLeastRate", apart := false }
def FnExactLeastRateSaid : Prop := fnExactLeastRateRow.holds Try.pinned (OpenSpec.ofChange fnExactLeastRateSpec)

/-- ITS FALSE NEIGHBOUR: 'it returns false'. Refute it at one input. -/
def fnExactLeastRateWrong : ChangeSpec := { name := "fnExactLeastRate", fn := fun _ => fun
  | [d1, d2, d3] => { results := [.lit (.bool false)], args := [d1, d2, d3] }
  | _ => none }
def FnExactLeastRateWrongFalsely : Prop := fnExactLeastRateRow.holds Try.pinned (OpenSpec.ofChange fnExactLeastRateWrong)

/-- 'laws.FnExactReadyDay': WHATEVER THE INPUT: true; the input reads as it did. -/
def fnExactReadyDaySpec : ChangeSpec := { name := "fnExactReadyDay", fn := fun _ => fun
  | [d1, d2, d3, d4] => { results := [.lit (.bool true)], args := [d1, d2, d3, d4] }
  | _ => none }
def fnExactReadyDayRow : OpenClaim := { program := "ytjcpcnljhgfafaa", sum := "b78b9613ab1461800fda5a4d19c9db57d7e49be687a14e06affae9d8f2cfb4c8", func := "loop.example/g01060/laws.FnExactReadyDay", spec := "fnExactReadyDay", unfollowed := true, recurses := true, apart := false }
def FnExactReadyDaySaid : Prop := fnExactReadyDayRow.holds Try.pinned (OpenSpec.ofChange fnExactReadyDaySpec)

/-- ITS FALSE NEIGHBOUR: 'it returns false'. Refute it at one input. -/
def fnExactReadyDayWrong : ChangeSpec := { name := "fnExactReadyDay", fn := fun _ => fun
  | [d1, d2, d3, d4] => { results := [.lit (.bool false)], args := [d1, d2, d3, d4] }
  | _ => none }
def FnExactReadyDayWrongFalsely : Prop := fnExactReadyDayRow.holds Try.pinned (OpenSpec.ofChange fnExactReadyDayWrong)

/-- 'laws.FnExactPlaceOrder': WHATEVER THE INPUT: true; the input reads as it did. -/
def fnExactPlaceOrderSpec : ChangeSpec := { name := "fnExactPlaceOrder", fn := fun _ => fun
  | [d1, d2, d3, d4] => { results := [.lit (.bool true)], args := [d1, d2, d3, d4] }
  | _ => none }
def fnExactPlaceOrderRow : OpenClaim := { program := "ytjcpcnljhgfafaa", sum := "b78b9613ab1461800fda5a4d19c9db57d7e49be687a14e06affae9d8f2cfb4c8", func := "loop.example/g01060/laws.FnExactPlaceOrder", spec := "fnExactPlaceOrder", apart := false }
def FnExactPlaceOrderSaid : Prop := fnExactPlaceOrderRow.holds Try.pinned (OpenSpec.ofChange fnExactPlaceOrderSpec)

/-- ITS FALSE NEIGHBOUR: 'it returns false'. Refute it at one input. -/
def fnExactPlaceOrderWrong : ChangeSpec := { name := "fnExactPlaceOrder", fn := fun _ => fun
  | [d1, d2, d3, d4] => { results := [.lit (.bool false)], args := [d1, d2, d3, d4] }
  | _ => none }
def FnExactPlaceOrderWrongFalsely : Prop := fnExactPlaceOrderRow.holds Try.pinned (OpenSpec.ofChange fnExactPlaceOrderWrong)

/-- 'laws.FnExactOrdersOf': WHATEVER THE INPUT: true; the input reads as it did. -/
def fnExactOrdersOfSpec : ChangeSpec := { name := "fnExactOrdersOf", fn := fun _ => fun
  | [d1, d2] => { results := [.lit (.bool true)], args := [d1, d2] }
  | _ => none }
def fnExactOrdersOfRow : OpenClaim := { program := "ytjcpcnljhgfafaa", sum := "b78b9613ab1461800fda5a4d19c9db57d7e49be687a14e06affae9d8f2cfb4c8", func := "loop.example/g01060/laws.FnExactOrdersOf", spec := "fnExactOrdersOf", apart := false }
def FnExactOrdersOfSaid : Prop := fnExactOrdersOfRow.holds Try.pinned (OpenSpec.ofChange fnExactOrdersOfSpec)

/-- ITS FALSE NEIGHBOUR: 'it returns false'. Refute it at one input. -/
def fnExactOrdersOfWrong : ChangeSpec := { name := "fnExactOrdersOf", fn := fun _ => fun
  | [d1, d2] => { results := [.lit (.bool false)], args := [d1, d2] }
  | _ => none }
def FnExactOrdersOfWrongFalsely : Prop := fnExactOrdersOfRow.holds Try.pinned (OpenSpec.ofChange fnExactOrdersOfWrong)

/-- 'laws.FnExactMadeBy': WHATEVER THE INPUT: true; the input reads as it did. -/
def fnExactMadeBySpec : ChangeSpec := { name := "fnExactMadeBy", fn := fun _ => fun
  | [d1, d2, d3, d4] => { results := [.lit (.bool true)], args := [d1, d2, d3, d4] }
  | _ => none }
def fnExactMadeByRow : OpenClaim := { program := "ytjcpcnljhgfafaa", sum := "b78b9613ab1461800fda5a4d19c9db57d7e49be687a14e06affae9d8f2cfb4c8", func := "loop.example/g01060/laws.FnExactMadeBy", spec := "fnExactMadeBy", apart := false }
def FnExactMadeBySaid : Prop := fnExactMadeByRow.holds Try.pinned (OpenSpec.ofChange fnExactMadeBySpec)

/-- ITS FALSE NEIGHBOUR: 'it returns false'. Refute it at one input. -/
def fnExactMadeByWrong : ChangeSpec := { name := "fnExactMadeBy", fn := fun _ => fun
  | [d1, d2, d3, d4] => { results := [.lit (.bool false)], args := [d1, d2, d3, d4] }
  | _ => none }
def FnExactMadeByWrongFalsely : Prop := fnExactMadeByRow.holds Try.pinned (OpenSpec.ofChange fnExactMadeByWrong)

/-- 'laws.FnExactFinishOrder': WHATEVER THE INPUT: true; the input reads as it did. -/
def fnExactFinishOrderSpec : ChangeSpec := { name := "fnExactFinishOrder", fn := fun _ => fun
  | [d1, d2, d3] => { results := [.lit (.bool true)], args := [d1, d2, d3] }
  | _ => none }
def fnExactFinishOrderRow : OpenClaim := { program := "ytjcpcnljhgfafaa", sum := "b78b9613ab1461800fda5a4d19c9db57d7e49be687a14e06affae9d8f2cfb4c8", func := "loop.example/g01060/laws.FnExactFinishOrder", spec := "fnExactFinishOrder", unfollowed := true, recurses := true, apart := false }
def FnExactFinishOrderSaid : Prop := fnExactFinishOrderRow.holds Try.pinned (OpenSpec.ofChange fnExactFinishOrderSpec)

/-- ITS FALSE NEIGHBOUR: 'it returns false'. Refute it at one input. -/
def fnExactFinishOrderWrong : ChangeSpec := { name := "fnExactFinishOrder", fn := fun _ => fun
  | [d1, d2, d3] => { results := [.lit (.bool false)], args := [d1, d2, d3] }
  | _ => none }
def FnExactFinishOrderWrongFalsely : Prop := fnExactFinishOrderRow.holds Try.pinned (OpenSpec.ofChange fnExactFinishOrderWrong)

/-- 'laws.FnExactDropOrder': WHATEVER THE INPUT: true; the input reads as it did. -/
def fnExactDropOrderSpec : ChangeSpec := { name := "fnExactDropOrder", fn := fun _ => fun
  | [d1, d2] => { results := [.lit (.bool true)], args := [d1, d2] }
  | _ => none }
def fnExactDropOrderRow : OpenClaim := { program := "ytjcpcnljhgfafaa", sum := "b78b9613ab1461800fda5a4d19c9db57d7e49be687a14e06affae9d8f2cfb4c8", func := "loop.example/g01060/laws.FnExactDropOrder", spec := "fnExactDropOrder", unfollowed := true, recurses := true, apart := false }
def FnExactDropOrderSaid : Prop := fnExactDropOrderRow.holds Try.pinned (OpenSpec.ofChange fnExactDropOrderSpec)

/-- ITS FALSE NEIGHBOUR: 'it returns false'. Refute it at one input. -/
def fnExactDropOrderWrong : ChangeSpec := { name := "fnExactDropOrder", fn := fun _ => fun
  | [d1, d2] => { results := [.lit (.bool false)], args := [d1, d2] }
  | _ => none }
def FnExactDropOrderWrongFalsely : Prop := fnExactDropOrderRow.holds Try.pinned (OpenSpec.ofChange fnExactDropOrderWrong)

/-- 'laws.FnCopyOrders': WHATEVER THE INPUT: true; the input reads as it did. -/
def fnCopyOrdersSpec : ChangeSpec := { name := "fnCopyOrders", fn := fun _ => fun
  | [d] => { results := [.lit (.bool true)], args := [d] }
  | _ => none }
def fnCopyOrdersRow : OpenClaim := { program := "ytjcpcnljhgfafaa", sum := "b78b9613ab1461800fda5a4d19c9db57d7e49be687a14e06affae9d8f2cfb4c8", func := "loop.example/g01060/laws.FnCopyOrders", spec := "fnCopyOrders", unfollowed := true, recurses := true, apart := false }
def FnCopyOrdersSaid : Prop := fnCopyOrdersRow.holds Try.pinned (OpenSpec.ofChange fnCopyOrdersSpec)

/-- ITS FALSE NEIGHBOUR: 'it returns false'. Refute it at one input. -/
def fnCopyOrdersWrong : ChangeSpec := { name := "fnCopyOrders", fn := fun _ => fun
  | [d] => { results := [.lit (.bool false)], args := [d] }
  | _ => none }
def FnCopyOrdersWrongFalsely : Prop := fnCopyOrdersRow.holds Try.pinned (OpenSpec.ofChange fnCopyOrdersWrong)

/- THE SECOND FORM. 'bulk': how many values and letters a reading holds, each counted each time it is reached (what is shared counts as often as it is met; a slice's spare places count too). A statement '..UptoSaid' is the law's where the arguments, and the package variables that the reading takes, are together of bulk at most 1048576: NARROWER than '..Said'. Prove '..Said' where nothing that the law and all that it calls make is longer than what came in: it says more and counts as full. Else prove '..UptoSaid'. A law counts once. -/
mutual
def uptoBulk {H : Type} : DataW H → Nat
  | .lit (.string bytes) => bytes.length + 1
  | .lit _ => 1
  | .nil => 1
  | .ptr d => uptoBulk d + 1
  | .slice elems spare => uptoBulkAll elems + uptoBulkAll spare + 1
  | .agg parts => uptoBulkAll parts + 1
  | .iface _ d => uptoBulk d + 1
  | .map entries => uptoBulkEntries entries + 1
  | .held _ => 1
def uptoBulkAll {H : Type} : List (DataW H) → Nat
  | [] => 0
  | d :: r => uptoBulk d + uptoBulkAll r
def uptoBulkEntries {H : Type} : List (Lit × DataW H) → Nat
  | [] => 0
  | x :: r => uptoBulkEntry x + uptoBulkEntries r
def uptoBulkEntry {H : Type} : Lit × DataW H → Nat
  | (.string bytes, d) => bytes.length + uptoBulk d + 1
  | (_, d) => uptoBulk d + 1
 end
def uptoSmall : (H : Type) → List (DataW H) → Bool := fun _ ds => decide (uptoBulkAll ds ≤ 1048576)
def OpenSpec.upto (s : _root_.Go.ChangeSpec) : _root_.Go.OpenSpec := { _root_.Go.OpenSpec.ofChange s with cond := some uptoSmall }

/-- 'laws.FnExactAreOrders', WHERE WHAT IT READS IS OF BULK AT MOST 1048576: true; the input reads as it did. -/
def fnExactAreOrdersUptoRow : OpenClaim := { program := "ytjcpcnljhgfafaa", sum := "b78b9613ab1461800fda5a4d19c9db57d7e49be687a14e06affae9d8f2cfb4c8", func := "loop.example/g01060/laws.FnExactAreOrders", spec := "fnExactAreOrders", apart := false, narrowed := true }
def FnExactAreOrdersUptoSaid : Prop := fnExactAreOrdersUptoRow.holds Try.pinned (OpenSpec.upto fnExactAreOrdersSpec)

/-- 'laws.FnExactWaitingPages', WHERE WHAT IT READS IS OF BULK AT MOST 1048576: true; the input reads as it did. -/
def fnExactWaitingPagesUptoRow : OpenClaim := { program := "ytjcpcnljhgfafaa", sum := "b78b9613ab1461800fda5a4d19c9db57d7e49be687a14e06affae9d8f2cfb4c8", func := "loop.example/g01060/laws.FnExactWaitingPages", spec := "fnExactWaitingPages", apart := false, narrowed := true }
def FnExactWaitingPagesUptoSaid : Prop := fnExactWaitingPagesUptoRow.holds Try.pinned (OpenSpec.upto fnExactWaitingPagesSpec)

/-- 'laws.FnExactSlowestOrder', WHERE WHAT IT READS IS OF BULK AT MOST 1048576: true; the input reads as it did. -/
def fnExactSlowestOrderUptoRow : OpenClaim := { program := "ytjcpcnljhgfafaa", sum := "b78b9613ab1461800fda5a4d19c9db57d7e49be687a14e06affae9d8f2cfb4c8", func := "loop.example/g01060/laws.FnExactSlowestOrder", spec := "fnExactSlowestOrder", apart := false, narrowed := true }
def FnExactSlowestOrderUptoSaid : Prop := fnExactSlowestOrderUptoRow.holds Try.pinned (OpenSpec.upto fnExactSlowestOrderSpec)

/-- 'laws.FnExactPriceOf', WHERE WHAT IT READS IS OF BULK AT MOST 1048576: true; the input reads as it did. -/
def fnExactPriceOfUptoRow : OpenClaim := { program := "ytjcpcnljhgfafaa", sum := "b78b9613ab1461800fda5a4d19c9db57d7e49be687a14e06affae9d8f2cfb4c8", func := "loop.example/g01060/laws.FnExactPriceOf", spec := "fnExactPriceOf", unfollowed := true, recurses := true, apart := false, narrowed := true }
def FnExactPriceOfUptoSaid : Prop := fnExactPriceOfUptoRow.holds Try.pinned (OpenSpec.upto fnExactPriceOfSpec)

/-- 'laws.FnExactLeastRate', WHERE WHAT IT READS IS OF BULK AT MOST 1048576: true; the input reads as it did. -/
def fnExactLeastRateUptoRow : OpenClaim := { program := "ytjcpcnljhgfafaa", sum := "b78b9613ab1461800fda5a4d19c9db57d7e49be687a14e06affae9d8f2cfb4c8", func := "loop.example/g01060/laws.FnExactLeastRate", spec := "fnExactLeastRate", apart := false, narrowed := true }
def FnExactLeastRateUptoSaid : Prop := fnExactLeastRateUptoRow.holds Try.pinned (OpenSpec.upto fnExactLeastRateSpec)

/-- 'laws.FnExactReadyDay', WHERE WHAT IT READS IS OF BULK AT MOST 1048576: true; the input reads as it did. -/
def fnExactReadyDayUptoRow : OpenClaim := { program := "ytjcpcnljhgfafaa", sum := "b78b9613ab1461800fda5a4d19c9db57d7e49be687a14e06affae9d8f2cfb4c8", func := "loop.example/g01060/laws.FnExactReadyDay", spec := "fnExactReadyDay", unfollowed := true, recurses := true, apart := false, narrowed := true }
def FnExactReadyDayUptoSaid : Prop := fnExactReadyDayUptoRow.holds Try.pinned (OpenSpec.upto fnExactReadyDaySpec)

/-- 'laws.FnExactPlaceOrder', WHERE WHAT IT READS IS OF BULK AT MOST 1048576: true; the input reads as it did. -/
def fnExactPlaceOrderUptoRow : OpenClaim := { program := "ytjcpcnljhgfafaa", sum := "b78b9613ab1461800fda5a4d19c9db57d7e49be687a14e06affae9d8f2cfb4c8", func := "loop.example/g01060/laws.FnExactPlaceOrder", spec := "fnExactPlaceOrder", apart := false, narrowed := true }
def FnExactPlaceOrderUptoSaid : Prop := fnExactPlaceOrderUptoRow.holds Try.pinned (OpenSpec.upto fnExactPlaceOrderSpec)

/-- 'laws.FnExactOrdersOf', WHERE WHAT IT READS IS OF BULK AT MOST 1048576: true; the input reads as it did. -/
def fnExactOrdersOfUptoRow : OpenClaim := { program := "ytjcpcnljhgfafaa", sum := "b78b9613ab1461800fda5a4d19c9db57d7e49be687a14e06affae9d8f2cfb4c8", func := "loop.example/g01060/laws.FnExactOrdersOf", spec := "fnExactOrdersOf", apart := false, narrowed := true }
def FnExactOrdersOfUptoSaid : Prop := fnExactOrdersOfUptoRow.holds Try.pinned (OpenSpec.upto fnExactOrdersOfSpec)

/-- 'laws.FnExactMadeBy', WHERE WHAT IT READS IS OF BULK AT MOST 1048576: true; the input reads as it did. -/
def fnExactMadeByUptoRow : OpenClaim := { program := "ytjcpcnljhgfafaa", sum := "b78b9613ab1461800fda5a4d19c9db57d7e49be687a14e06affae9d8f2cfb4c8", func := "loop.example/g01060/laws.FnExactMadeBy", spec := "fnExactMadeBy", apart := false, narrowed := true }
def FnExactMadeByUptoSaid : Prop := fnExactMadeByUptoRow.holds Try.pinned (OpenSpec.upto fnExactMadeBySpec)

/-- 'laws.FnExactFinishOrder', WHERE WHAT IT READS IS OF BULK AT MOST 1048576: true; the input reads as it did. -/
def fnExactFinishOrderUptoRow : OpenClaim := { program := "ytjcpcnljhgfafaa", sum := "b78b9613ab1461800fda5a4d19c9db57d7e49be687a14e06affae9d8f2cfb4c8", func := "loop.example/g01060/laws.FnExactFinishOrder", spec := "fnExactFinishOrder", unfollowed := true, recurses := true, apart := false, narrowed := true }
def FnExactFinishOrderUptoSaid : Prop := fnExactFinishOrderUptoRow.holds Try.pinned (OpenSpec.upto fnExactFinishOrderSpec)

/-- 'laws.FnExactDropOrder', WHERE WHAT IT READS IS OF BULK AT MOST 1048576: true; the input reads as it did. -/
def fnExactDropOrderUptoRow : OpenClaim := { program := "ytjcpcnljhgfafaa", sum := "b78b9613ab1461800fda5a4d19c9db57d7e49be687a14e06affae9d8f2cfb4c8", func := "loop.example/g01060/laws.FnExactDropOrder", spec := "fnExactDropOrder", unfollowed := true, recurses := true, apart := false, narrowed := true }
def FnExactDropOrderUptoSaid : Prop := fnExactDropOrderUptoRow.holds Try.pinned (OpenSpec.upto fnExactDropOrderSpec)

/-- 'laws.FnCopyOrders', WHERE WHAT IT READS IS OF BULK AT MOST 1048576: true; the input reads as it did. -/
def fnCopyOrdersUptoRow : OpenClaim := { program := "ytjcpcnljhgfafaa", sum := "b78b9613ab1461800fda5a4d19c9db57d7e49be687a14e06affae9d8f2cfb4c8", func := "loop.example/g01060/laws.FnCopyOrders", spec := "fnCopyOrders", unfollowed := true, recurses := true, apart := false, narrowed := true }
def FnCopyOrdersUptoSaid : Prop := fnCopyOrdersUptoRow.holds Try.pinned (OpenSpec.upto fnCopyOrdersSpec)

end Rows
end Go.Proofs.Ytjcpcnljhgfafaa
