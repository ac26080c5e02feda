/- A job is opened. -/
import Derived.Test.YtlnihghpfikieaaDoorRows
import Derived.Test.YtlnihghpfikieaaDoorScan
namespace Go.Proofs.YtlnihghpfikieaaDoor
open Go Go.X Go.Proofs Go.ChangeShapes Go.WideShapes Go.ChangeAt Go.RowKit
open Go.ChangeMaps (open_string shut_string)
set_option maxHeartbeats 1000000
set_option maxRecDepth 20000
set_option linter.unusedVariables false
set_option linter.unusedSimpArgs false
def fitJob (x : Job) : Prop := (-9223372036854775808 ≤ x.fState ∧ x.fState ≤ 9223372036854775807) ∧ (-9223372036854775808 ≤ x.fNext ∧ x.fNext ≤ 9223372036854775807) ∧ (-9223372036854775808 ≤ x.fFails ∧ x.fFails ≤ 9223372036854775807) ∧ (-9223372036854775808 ≤ x.fSize ∧ x.fSize ≤ 9223372036854775807)
theorem cellsI {H : Type} {en : TypeId × Value → H} {w : World} {base : Nat} {spare : Nat → Bool} {held : Bool} (n : Nat) (cs : List Value) (x : DataW H × List MemPlace) (hl : cs.length = 1)
    (h : DataW.trod en Tryd.prog w base spare held n 3 cs = some x) : ∃ y : Int, cs = encI y ∧ fitI y := by
  match cs, hl with
  | [c0], _ =>
    obtain ⟨z0, q0, -, g0⟩ := DataW.trod_int Tryd.underlying3 h
    simp at q0
    subst q0
    exact ⟨z0, rfl, wf64 g0⟩
theorem cellsJob {H : Type} {en : TypeId × Value → H} {w : World} {base : Nat} {spare : Nat → Bool} {held : Bool} (n : Nat) (cs : List Value) (x : DataW H × List MemPlace) (hl : cs.length = 5)
    (h : DataW.trod en Tryd.prog w base spare held n 24 cs = some x) : ∃ (y : Job) (a : Option Addr) (m c : Nat), cs = encJob y a m c ∧ Row w a 1 (y.fTiles.map encI) ∧ y.fTiles.length = m ∧ m ≤ 9223372036854775807 ∧ fitJob y := by
  obtain ⟨-, hf⟩ := open_cells Tryd.underlying24 (by kernel_rfl) (by kernel_rfl) h
  match cs, hl with
  | [c0, c1, c2, c3, c4], _ =>
    obtain ⟨v0, y0, n0, e0, t0⟩ := hf 0 _ rfl
    simp at e0
    subst e0
    obtain ⟨z0, q0, -, g0⟩ := DataW.trod_int Tryd.underlying3 t0
    simp at q0
    subst q0
    obtain ⟨v1, y1, n1, e1, t1⟩ := hf 1 _ rfl
    simp at e1
    subst e1
    obtain ⟨a, m, c, rfl⟩ : ∃ a m c, c1 = Value.slice a m c := by
      rcases Go.Deep.open_slice Tryd.underlying22 t1 with ⟨h0, _⟩ | ⟨ad, len, cap, m, n', D, Pl, hcs, _⟩
      · simp at h0
        exact ⟨_, _, _, h0⟩
      · simp at hcs
        exact ⟨_, _, _, hcs⟩
    obtain ⟨xs, w1, l1, b1, -⟩ := open_rows (en := encI) (good := fitI) Tryd.underlying22 (by kernel_rfl) cellsI (d := y1.1) (p := y1.2) ⟨n1, t1⟩
    obtain ⟨v2, y2, n2, e2, t2⟩ := hf 2 _ rfl
    simp at e2
    subst e2
    obtain ⟨z2, q2, -, g2⟩ := DataW.trod_int Tryd.underlying3 t2
    simp at q2
    subst q2
    obtain ⟨v3, y3, n3, e3, t3⟩ := hf 3 _ rfl
    simp at e3
    subst e3
    obtain ⟨z3, q3, -, g3⟩ := DataW.trod_int Tryd.underlying3 t3
    simp at q3
    subst q3
    obtain ⟨v4, y4, n4, e4, t4⟩ := hf 4 _ rfl
    simp at e4
    subst e4
    obtain ⟨z4, q4, -, g4⟩ := DataW.trod_int Tryd.underlying3 t4
    simp at q4
    subst q4
    exact ⟨⟨z0, xs, z2, z3, z4⟩, a, m, c, rfl, w1, l1, b1, wf64 g0, wf64 g2, wf64 g3, wf64 g4⟩

end Go.Proofs.YtlnihghpfikieaaDoor
