/- What the law holds of merged entries. -/
import Derived.Test.YtpddilkonkkppaaRows
import Derived.Test.YtpddilkonkkppaaTalk
namespace Go.Proofs.Ytpddilkonkkppaa
open Go Go.X Go.Proofs Go.ChangeShapes Go.WideShapes Go.ChangeAt Go.RowKit
open Go.ChangeMaps (open_string shut_string)
set_option maxHeartbeats 1000000
set_option maxRecDepth 20000
set_option linter.unusedVariables false
set_option linter.unusedSimpArgs false
theorem allP_good {es : List Ent} (h : areE es = true) : ∀ f, areE (allP f es).1 = true := by
  intro f
  induction f generalizing es with
  | zero => exact h
  | succ f ih =>
    cases ho : onceP es with
    | none => rw [allP_none ho]; exact h
    | some fs =>
      rw [allP_some ho]
      exact ih (once_next ho).1
theorem bndMergeAlike {us ts : List Tri} (h : us.map (·.1) = (mergeAllP (ts.map (·.1))).1) : lens us ≤ 96 ∧ (∀ t ∈ us, t.1.fSeen.length ≤ 8) ∧ us.length ≤ 12 := by
  refine areE_lens ?_
  rw [h]
  unfold mergeAllP
  split
  · rename_i hA
    exact allP_good hA 12
  · rfl

end Go.Proofs.Ytpddilkonkkppaa
