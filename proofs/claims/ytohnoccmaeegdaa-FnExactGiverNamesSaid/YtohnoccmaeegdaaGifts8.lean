/- MeanWait. -/
import Derived.Test.YtohnoccmaeegdaaRows
import Derived.Test.YtohnoccmaeegdaaGifts5
import Derived.Test.YtohnoccmaeegdaaGifts4
namespace Go.Proofs.Ytohnoccmaeegdaa
open Go Go.X Go.Proofs Go.ChangeShapes Go.WideShapes Go.ChangeAt Go.RowKit
open Go.ChangeMaps (open_string shut_string)
set_option maxHeartbeats 1000000
set_option maxRecDepth 20000
set_option linter.unusedVariables false
set_option linter.unusedSimpArgs false
def fil (d : Int) (xs : List Gft) : List Gft := xs.filter fun x => !decide (d < x.fDay)
theorem fil_len (d : Int) (xs : List Gft) : (fil d xs).length ≤ xs.length := List.length_filter_le _ _
theorem fil_mem {d : Int} {xs : List Gft} {x : Gft} (h : x ∈ fil d xs) : x ∈ xs ∧ x.fDay ≤ d := by
  obtain ⟨h1, h2⟩ := List.mem_filter.1 h
  refine ⟨h1, ?_⟩
  simp at h2; exact h2
theorem fil_take {d : Int} {xs : List Gft} {k : Nat} {x : Gft} (h : xs[k]? = some x) : fil d (xs.take (k + 1)) = fil d (xs.take k) ++ (if x.fDay ≤ d then [x] else []) := by
  unfold fil
  rw [List.take_add_one, h, List.filter_append]
  congr 1
  by_cases hx : x.fDay ≤ d
  · have : ¬ d < x.fDay := by omega
    simp [hx, this]
  · have : d < x.fDay := by omega
    simp [hx, this]
theorem waitG_bnd {d : Int} {x : Gft} (hok : okG x = true) (hd : 0 ≤ d ∧ d ≤ 4000) (hx : x.fDay ≤ d) : 0 ≤ waitG d x ∧ waitG d x ≤ 4000 := by
  have h := okG_spec hok
  unfold waitG
  by_cases ht : thB d x = true
  · rw [if_pos ht]
    simp only [thB, Bool.and_eq_true, Bool.not_eq_true', decide_eq_false_iff_not, decide_eq_true_eq] at ht
    omega
  · rw [if_neg ht]; omega
theorem tdiv_bnd {p r : Int} (hp : 0 ≤ p) (hr : 1 ≤ r) : 0 ≤ p.tdiv r ∧ p.tdiv r ≤ p := by
  rw [Int.tdiv_eq_ediv_of_nonneg hp]
  exact ⟨Int.ediv_nonneg hp (by omega), Int.ediv_le_self _ hp⟩
theorem tmod_nat (a b : Nat) : (a : Int).tmod (b : Int) = ((a % b : Nat) : Int) := by
  rw [Int.tmod_eq_emod_of_nonneg (by omega)]; omega
theorem gcd_step (a b : Nat) : Nat.gcd b (a % b) = Nat.gcd a b := by
  rw [Nat.gcd_comm b, ← Nat.gcd_rec b a, Nat.gcd_comm]
def sumW (d : Int) : List Gft → Int
  | [] => 0
  | x :: t => waitG d x + sumW d t
theorem sumW_append (d : Int) (xs ys : List Gft) : sumW d (xs ++ ys) = sumW d xs + sumW d ys := by
  induction xs with
  | nil => simp [sumW]
  | cons x t ih => simp [sumW, ih]; omega
theorem sumW_take (d : Int) {xs : List Gft} {k : Nat} {x : Gft} (h : xs[k]? = some x) : sumW d (xs.take (k + 1)) = sumW d (xs.take k) + waitG d x := by
  rw [List.take_add_one, h, sumW_append]; simp [sumW]
def meanOk (xs : List Gft) (d : Int) : Bool := areG xs && inB d 0 4000 && decide (0 < (fil d xs).length)
def meanP (xs : List Gft) (d : Int) : Int × Int × Bool :=
  if meanOk xs d then ((sumW d (fil d xs)).tdiv (Nat.gcd (sumW d (fil d xs)).toNat (fil d xs).length), ((fil d xs).length : Int).tdiv (Nat.gcd (sumW d (fil d xs)).toNat (fil d xs).length), true) else (0, 0, false)
