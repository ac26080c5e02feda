/-
  No cell of these rows narrows 'for every input' (looked for: loops, veiled, ifaces, maps, wideKeys, modest, calm, conditions, laid).
  DERIVED. THE GIVEN ROWS OF THIS SEAT. 5 by the template 'for every input the law returns true; each argument reads behind the call as it read before'; 0 by the template 'total and deterministic' (their statements: YtlakfbbnhedcoaaTotals.lean).
  GIVEN WITH THE SEED: the statements are not yours to turn. If you find one false, say at which input.
  Laid BY PROGRAM, IN A SANDBOX (cutbox-rows.mjs): the forced cells as the released guide's own fill.sh prints them over the translation 442f021389053633… (all of the seat's roots in one cut). By AI agents, Wed Nov 11 2026. No macro, syntax, notation, axiom, sorry.
-/
import Derived.Test.YtlakfbbnhedcoaaChecked
import GoSem.Claim
import GoSem.ClaimJoined
import GoSem.ClaimMapViews
import Derived.JoinedTies
import Derived.KernelRfl
namespace Go.Proofs.Ytlakfbbnhedcoaa
/- THE CELL 'sum', in the pinned program and in every row, IS THE sha256 OF THE DUMP (.gsa) THAT YtlakfbbnhedcoaaProg.lean LOADS. Nothing in Lean hashes anything: it is a label: what it is worth is what the hold of that sum in a sandbox is worth. -/
noncomputable def Try.pinned : Pinned := { name := "ytlakfbbnhedcoaa", sum := "442f021389053633eac8dadd6a8a37fdf5bfb5be821912c8446c5dd45e5bd8ba", checked := Try.checked }
namespace Rows
def none {H : Type} : Left H := { results := [], args := [] }

/-- 'laws.FnExactAreVisits': WHATEVER THE INPUT: true; the input reads as it did. -/
def fnExactAreVisitsSpec : ChangeSpec := { name := "fnExactAreVisits", fn := fun _ => fun
  | [d] => { results := [.lit (.bool true)], args := [d] }
  | _ => none }
def fnExactAreVisitsRow : OpenClaim := { program := "ytlakfbbnhedcoaa", sum := "442f021389053633eac8dadd6a8a37fdf5bfb5be821912c8446c5dd45e5bd8ba", func := "loop.example/g01060/laws.FnExactAreVisits", spec := "fnExactAreVisits", unfollowed := true, recurses := true, apart := false }
def FnExactAreVisitsSaid : Prop := fnExactAreVisitsRow.holds Try.pinned (OpenSpec.ofChange fnExactAreVisitsSpec)

/-- ITS FALSE NEIGHBOUR: 'it returns false'. Refute it at one input. -/
def fnExactAreVisitsWrong : ChangeSpec := { name := "fnExactAreVisits", fn := fun _ => fun
  | [d] => { results := [.lit (.bool false)], args := [d] }
  | _ => none }
def FnExactAreVisitsWrongFalsely : Prop := fnExactAreVisitsRow.holds Try.pinned (OpenSpec.ofChange fnExactAreVisitsWrong)

/-- 'laws.FnExactSeatMinutes': WHATEVER THE INPUT: true; the input reads as it did. -/
def fnExactSeatMinutesSpec : ChangeSpec := { name := "fnExactSeatMinutes", fn := fun _ => fun
  | [d1, d2] => { results := [.lit (.bool true)], args := [d1, d2] }
  | _ => none }
def fnExactSeatMinutesRow : OpenClaim := { program := "ytlakfbbnhedcoaa", sum := "442f021389053633eac8dadd6a8a37fdf5bfb5be821912c8446c5dd45e5bd8ba", func := "loop.example/g01060/laws.FnExactSeatMinutes", spec := "fnExactSeatMinutes", unfollowed := true, recurses := true, apart := false }
def FnExactSeatMinutesSaid : Prop := fnExactSeatMinutesRow.holds Try.pinned (OpenSpec.ofChange fnExactSeatMinutesSpec)

/-- ITS FALSE NEIGHBOUR: 'it returns false'. Refute it at one input. -/
def fnExactSeatMinutesWrong : ChangeSpec := { name := "fnExactSeatMinutes", fn := fun _ => fun
  | [d1, d2] => { results := [.lit (.bool false)], args := [d1, d2] }
  | _ => none }
def FnExactSeatMinutesWrongFalsely : Prop := fnExactSeatMinutesRow.holds Try.pinned (OpenSpec.ofChange fnExactSeatMinutesWrong)

/-- 'laws.FnExactSeatOf': WHATEVER THE INPUT: true; the input reads as it did. -/
def fnExactSeatOfSpec : ChangeSpec := { name := "fnExactSeatOf", fn := fun _ => fun
  | [d1, d2, d3] => { results := [.lit (.bool true)], args := [d1, d2, d3] }
  | _ => none }
def fnExactSeatOfRow : OpenClaim := { program := "ytlakfbbnhedcoaa", sum := "442f021389053633eac8dadd6a8a37fdf5bfb5be821912c8446c5dd45e5bd8ba", func := "loop.example/g01060/laws.FnExactSeatOf", spec := "fnExactSeatOf", unfollowed := true, recurses := true, apart := false }
def FnExactSeatOfSaid : Prop := fnExactSeatOfRow.holds Try.pinned (OpenSpec.ofChange fnExactSeatOfSpec)

/-- ITS FALSE NEIGHBOUR: 'it returns false'. Refute it at one input. -/
def fnExactSeatOfWrong : ChangeSpec := { name := "fnExactSeatOf", fn := fun _ => fun
  | [d1, d2, d3] => { results := [.lit (.bool false)], args := [d1, d2, d3] }
  | _ => none }
def FnExactSeatOfWrongFalsely : Prop := fnExactSeatOfRow.holds Try.pinned (OpenSpec.ofChange fnExactSeatOfWrong)

/-- 'laws.FnExactLongestGap': WHATEVER THE INPUT: true; the input reads as it did. -/
def fnExactLongestGapSpec : ChangeSpec := { name := "fnExactLongestGap", fn := fun _ => fun
  | [d1, d2] => { results := [.lit (.bool true)], args := [d1, d2] }
  | _ => none }
def fnExactLongestGapRow : OpenClaim := { program := "ytlakfbbnhedcoaa", sum := "442f021389053633eac8dadd6a8a37fdf5bfb5be821912c8446c5dd45e5bd8ba", func := "loop.example/g01060/laws.FnExactLongestGap", spec := "fnExactLongestGap", unfollowed := true, recurses := true, apart := false }
def FnExactLongestGapSaid : Prop := fnExactLongestGapRow.holds Try.pinned (OpenSpec.ofChange fnExactLongestGapSpec)

/-- ITS FALSE NEIGHBOUR: 'it returns false'. Refute it at one input. -/
def fnExactLongestGapWrong : ChangeSpec := { name := "fnExactLongestGap", fn := fun _ => fun
  | [d1, d2] => { results := [.lit (.bool false)], args := [d1, d2] }
  | _ => none }
def FnExactLongestGapWrongFalsely : Prop := fnExactLongestGapRow.holds Try.pinned (OpenSpec.ofChange fnExactLongestGapWrong)

/-- 'laws.FnExactFreeSeats': WHATEVER THE INPUT: true; the input reads as it did. -/
def fnExactFreeSeatsSpec : ChangeSpec := { name := "fnExactFreeSeats", fn := fun _ => fun
  | [d1, d2, d3] => { results := [.lit (.bool true)], args := [d1, d2, d3] }
  | _ => none }
def fnExactFreeSeatsRow : OpenClaim := { program := "ytlakfbbnhedcoaa", sum := "442f021389053633eac8dadd6a8a37fdf5bfb5be821912c8446c5dd45e5bd8ba", func := "loop.example/g01060/laws.FnExactFreeSeats", spec := "fnExactFreeSeats", unfollowed := true, recurses := true, apart := false }
def FnExactFreeSeatsSaid : Prop := fnExactFreeSeatsRow.holds Try.pinned (OpenSpec.ofChange fnExactFreeSeatsSpec)

/-- ITS FALSE NEIGHBOUR: 'it returns false'. Refute it at one input. -/
def fnExactFreeSeatsWrong : ChangeSpec := { name := "fnExactFreeSeats", fn := fun _ => fun
  | [d1, d2, d3] => { results := [.lit (.bool false)], args := [d1, d2, d3] }
  | _ => none }
def FnExactFreeSeatsWrongFalsely : Prop := fnExactFreeSeatsRow.holds Try.pinned (OpenSpec.ofChange fnExactFreeSeatsWrong)

/- THE SECOND FORM. 'bulk': how many values and letters a reading holds, each counted each time it is reached (what is shared counts as often as it is met; a slice's spare places count too). A statement '..UptoSaid' is the law's where the arguments, and the package variables that the reading takes, are together of bulk at most 1048576: NARROWER than '..Said'. Prove '..Said' where nothing that the law and all that it calls make is longer than what came in: it says more and counts as full. Else prove '..UptoSaid'. A law counts once. -/
mutual
def uptoBulk {H : Type} : DataW H → Nat
  | .lit (.string bytes) => bytes.length + 1
  | .lit _ => 1
  | .nil => 1
  | .ptr d => uptoBulk d + 1
  | .slice elems spare => uptoBulkAll elems + uptoBulkAll spare + 1
  | .agg parts => uptoBulkAll parts + 1
  | .iface _ d => uptoBulk d + 1
  | .map entries => uptoBulkEntries entries + 1
  | .held _ => 1
def uptoBulkAll {H : Type} : List (DataW H) → Nat
  | [] => 0
  | d :: r => uptoBulk d + uptoBulkAll r
def uptoBulkEntries {H : Type} : List (Lit × DataW H) → Nat
  | [] => 0
  | x :: r => uptoBulkEntry x + uptoBulkEntries r
def uptoBulkEntry {H : Type} : Lit × DataW H → Nat
  | (.string bytes, d) => bytes.length + uptoBulk d + 1
  | (_, d) => uptoBulk d + 1
 end
def uptoSmall : (H : Type) → List (DataW H) → Bool := fun _ ds => decide (uptoBulkAll ds ≤ 1048576)
def OpenSpec.upto (s : _root_.Go.ChangeSpec) : _root_.Go.OpenSpec := { _root_.Go.OpenSpec.ofChange s with cond := some uptoSmall }

/-- 'laws.FnExactAreVisits', WHERE WHAT IT READS IS OF BULK AT MOST 1048576: true; the input reads as it did. -/
def fnExactAreVisitsUptoRow : OpenClaim := { program := "ytlakfbbnhedcoaa", sum := "442f021389053633eac8dadd6a8a37fdf5bfb5be821912c8446c5dd45e5bd8ba", func := "loop.example/g01060/laws.FnExactAreVisits", spec := "fnExactAreVisits", unfollowed := true, recurses := true, apart := false, narrowed := true }
def FnExactAreVisitsUptoSaid : Prop := fnExactAreVisitsUptoRow.holds Try.pinned (OpenSpec.upto fnExactAreVisitsSpec)

/-- 'laws.FnExactSeatMinutes', WHERE WHAT IT READS IS OF BULK AT MOST 1048576: true; the input reads as it did. -/
def fnExactSeatMinutesUptoRow : OpenClaim := { program := "ytlakfbbnhedcoaa", sum := "442f021389053633eac8dadd6a8a37fdf5bfb5be821912c8446c5dd45e5bd8ba", func := "loop.example/g01060/laws.FnExactSeatMinutes", spec := "fnExactSeatMinutes", unfollowed := true, recurses := true, apart := false, narrowed := true }
def FnExactSeatMinutesUptoSaid : Prop := fnExactSeatMinutesUptoRow.holds Try.pinned (OpenSpec.upto fnExactSeatMinutesSpec)

/-- 'laws.FnExactSeatOf', WHERE WHAT IT READS IS OF BULK AT MOST 1048576: true; the input reads as it did. -/
def fnExactSeatOfUptoRow : OpenClaim := { program := "ytlakfbbnhedcoaa", sum := "442f021389053633eac8dadd6a8a37fdf5bfb5be821912c8446c5dd45e5bd8ba", func := "loop.example/g01060/laws.FnExactSeatOf", spec := "fnExactSeatOf", unfollowed := true, recurses := true, apart := false, narrowed := true }
def FnExactSeatOfUptoSaid : Prop := fnExactSeatOfUptoRow.holds Try.pinned (OpenSpec.upto fnExactSeatOfSpec)

/-- 'laws.FnExactLongestGap', WHERE WHAT IT READS IS OF BULK AT MOST 1048576: true; the input reads as it did. -/
def fnExactLongestGapUptoRow : OpenClaim := { program := "ytlakfbbnhedcoaa", sum := "442f021389053633eac8dadd6a8a37fdf5bfb5be821912c8446c5dd45e5bd8ba", func := "loop.example/g01060/laws.FnExactLongestGap", spec := "fnExactLongestGap", unfollowed := true, recurses := true, apart := false, narrowed := true }
def FnExactLongestGapUptoSaid : Prop := fnExactLongestGapUptoRow.holds Try.pinned (OpenSpec.upto fnExactLongestGapSpec)

/-- 'laws.FnExactFreeSeats', WHERE WHAT IT READS IS OF BULK AT MOST 1048576: true; the input reads as it did. -/
def fnExactFreeSeatsUptoRow : OpenClaim := { program := "ytlakfbbnhedcoaa", sum := "442f021389053633eac8dadd6a8a37fdf5bfb5be821912c8446c5dd45e5bd8ba", func := "loop.example/g01060/laws.FnExactFreeSeats", spec := "fnExactFreeSeats", unfollowed := true, recurses := true, apart := false, narrowed := true }
def FnExactFreeSeatsUptoSaid : Prop := fnExactFreeSeatsUptoRow.holds Try.pinned (OpenSpec.upto fnExactFreeSeatsSpec)

end Rows
end Go.Proofs.Ytlakfbbnhedcoaa
