/- The new job. -/
import Derived.Test.YtlnihghpfikieaaDoorRows
import Derived.Test.YtlnihghpfikieaaDoorBase
namespace Go.Proofs.YtlnihghpfikieaaDoor
open Go Go.X Go.Proofs Go.ChangeShapes Go.WideShapes Go.ChangeAt Go.RowKit
open Go.ChangeMaps (open_string shut_string)
set_option maxHeartbeats 1000000
set_option maxRecDepth 20000
set_option linter.unusedVariables false
set_option linter.unusedSimpArgs false
structure Job where
  fState : Int
  fTiles : List Int
  fNext : Int
  fFails : Int
  fSize : Int
  deriving DecidableEq
def encJob (x : Job) (a : Option Addr) (n c : Nat) : List Value := [.int .i64 x.fState, .slice a n c, .int .i64 x.fNext, .int .i64 x.fFails, .int .i64 x.fSize]
theorem eqScanJob_c (x y : Job) (a b : Option Addr) (n c m d : Nat) (w : World) (hr : Row w a 1 (x.fTiles.map encI)) (hs : Row w b 1 (y.fTiles.map encI)) (hn : x.fTiles.length = n) (hm : y.fTiles.length = m) (hl : n ≤ 4611686018427387904) (hl2 : m ≤ 4611686018427387904) :
    Calls Tryd.prog 8 #[.agg (encJob x a n c).toArray, .agg (encJob y b m d).toArray] w fun e w' => e = .returned (.bool (decide (x = y))) ∧ E0 w w' := by
  refine enterK Non 31 Tryd.func8 rfl rfl rfl fun K hK => ?_
  repeat (any_goals (
    conv => whnf
    first
    | ((with_reducible refine callF (g := 15) ?_ ?_); kernel_rfl; refine ⟨_, eqIntS_c _ _ _ _ _ _ x.fTiles y.fTiles _ (by repeat (first | assumption | refine Row.e0 ?_ (by assumption))) (by repeat (first | assumption | refine Row.e0 ?_ (by assumption))) hn hm hl hl2, ?_⟩; intro w4 e4; have z4 := cutLe e4)
    | ((with_reducible refine BIF.bne ?_ ?_) <;> intro _)
    | ((with_reducible refine BIF.dec ?_ ?_) <;> intro _)
    | ((with_reducible refine BIF.s ?_ ?_) <;> intro _)
    | (with_reducible refine NEXTK.normal ?_)
    | (with_reducible refine NEXTK.ret ?_)
    | (with_reducible refine NEXTK.exit ?_)
    | (with_reducible refine SEQ.plain ?_)
    | (with_reducible refine hK _ _ ?_)
    | ((with_reducible refine RUNL.agg (fun _ => ?_) ?_); (focus kernel_rfl))
    | (with_reducible refine RUNL.run ?_)
    | ((with_reducible refine AR.ok ?_ ?_); exact ⟨by first | omega | (dsimp only; omega), by first | omega | (dsimp only; omega)⟩)
    | (with_reducible refine AR.wr ?_)
    | ((with_reducible intro w3 e3); try have z3 := cutLe e3)
    | ((with_reducible intro h3); have h4 := Nat.le_of_lt h3; clear h4)))
  all_goals
    intro hx
    refine ⟨?_, hx⟩
    cases x; cases y; simp_all [resV]
def newN (t : Int) : Nat := if inB t 1 8 then t.toNat else 0
def newJ (t : Int) : Job := ⟨0, List.replicate (newN t) 0, 0, 0, 0⟩
theorem newN_le (t : Int) : newN t ≤ 8 := by
  unfold newN
  split
  · rename_i h; have := inB_iff.1 h; omega
  · omega
theorem newJ_len (t : Int) : (newJ t).fTiles.length = newN t := by simp [newJ]
