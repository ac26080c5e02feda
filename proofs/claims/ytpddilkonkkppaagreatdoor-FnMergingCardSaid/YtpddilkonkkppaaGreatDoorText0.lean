/- Part 12: tables of the library, and texts of numbers. -/
import Derived.Test.YtpddilkonkkppaaGreatDoorEqa
import Derived.Lib.ItoaNum
import Derived.Lib.ItoaLen
import Derived.Lib.LaidTab
namespace Go.X
open Go Go.RowKit
theorem TabIs.e0 {P : Program} {w w' : World} {name : String} {k : IntKind} {zs : List Int} (h : Lib.TabIs P w name k zs) (x : E0 w w') : Lib.TabIs P w' name k zs := by
  unfold Lib.TabIs World.var? at *
  cases hg : P.globalNamed name with
  | none => rw [hg] at h; cases h
  | some g =>
    rw [hg] at h
    simp only [Option.bind_some] at h ⊢
    cases hb : w.heap[g]? with
    | none => rw [hb] at h; cases h
    | some o => rw [hb] at h; rw [E0.heap x hb]; exact h
theorem E0.grow {w w' : World} (h : ∃ k os, w' = Sort.grow (w.drewN k) os) : E0 w w' := by
  obtain ⟨k, os, rfl⟩ := h
  refine ⟨rfl, rfl, rfl, by simp [Sort.grow, World.drewN], fun i hi _ => ?_⟩
  simp [Sort.grow, World.drewN, Array.getElem?_append_left hi]
def numS (n : Int) : ByteArray := ⟨(Lib.itoa n).toArray⟩
theorem numS_size {n : Int} (h0 : -9223372036854775808 ≤ n) (h1 : n ≤ 9223372036854775807) : (numS n).size ≤ 21 := by
  have := Lib.itoa_length_le n h0 h1
  show (Lib.itoa n).toArray.size ≤ 21
  simpa using this
theorem numS_small {n : Nat} (h : n < 10) : numS n = ⟨#[UInt8.ofNat (48 + n)]⟩ := by
  unfold numS Lib.itoa
  rw [if_neg (by omega), Int.toNat_natCast, Lib.decDigits, dif_pos h]
theorem numS_step {n : Nat} (h : ¬ n < 10) : numS n = numS ((n / 10 : Nat) : Int) ++ ⟨#[UInt8.ofNat (48 + n % 10)]⟩ := by
  unfold numS Lib.itoa
  rw [if_neg (by omega), if_neg (by omega), Int.toNat_natCast, Int.toNat_natCast]
  rw [show Lib.decDigits n = Lib.decDigits (n / 10) ++ [UInt8.ofNat (48 + n % 10)] from by rw [Lib.decDigits, dif_neg h]]
  apply ByteArray.ext
  simp
def digS : ByteArray := ⟨#[48, 49, 50, 51, 52, 53, 54, 55, 56, 57]⟩
theorem digS_at {d : Nat} (h : d < 10) : digS.extract d (d + 1) = ⟨#[UInt8.ofNat (48 + d)]⟩ := by
  have : d = 0 ∨ d = 1 ∨ d = 2 ∨ d = 3 ∨ d = 4 ∨ d = 5 ∨ d = 6 ∨ d = 7 ∨ d = 8 ∨ d = 9 := by omega
  rcases this with h | h | h | h | h | h | h | h | h | h <;> subst h <;> rfl
theorem szA1 (a : UInt8) : (ByteArray.mk #[a]).size = 1 := rfl
theorem szA2 (a b : UInt8) : (ByteArray.mk #[a, b]).size = 2 := rfl
theorem szA3 (a b c : UInt8) : (ByteArray.mk #[a, b, c]).size = 3 := rfl
theorem szA4 (a b c d : UInt8) : (ByteArray.mk #[a, b, c, d]).size = 4 := rfl
theorem szA8 (a b c d e f g h : UInt8) : (ByteArray.mk #[a, b, c, d, e, f, g, h]).size = 8 := rfl
theorem szA9 (a b c d e f g h i : UInt8) : (ByteArray.mk #[a, b, c, d, e, f, g, h, i]).size = 9 := rfl
theorem szE : ByteArray.empty.size = 0 := rfl
end Go.X
