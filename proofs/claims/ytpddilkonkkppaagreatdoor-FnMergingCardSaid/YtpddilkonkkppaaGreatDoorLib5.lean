/- Part 11: texts and their bytes. -/
import Derived.Test.YtpddilkonkkppaaGreatDoorLib4
import Derived.Laws.IdiomStrings
namespace Go.X
open Go Go.RowKit

def encB (b : Int) : List Value := [.int .u8 b]
def bytesI (s : ByteArray) : List Int := s.data.toList.map fun b => (b.toNat : Int)
theorem bytesI_len (s : ByteArray) : (bytesI s).length = s.size := by
  unfold bytesI
  rw [List.length_map]; rfl
theorem bytesI_get (s : ByteArray) (n : Nat) (h : n < s.size) : (bytesI s)[n]? = some (bget s n) := by
  have h' : n < s.data.size := h
  unfold bytesI bget
  rw [List.getElem?_map, Array.getElem?_toList, Array.getElem?_eq_getElem h']; rfl
/-- '[]byte(s)'. -/
theorem cvS {c : Ctx} {E : List (Nat × TV)} {B : List Bx} {w : World} {k : Value → World → Prop} {src dst e : TypeId} {s : ByteArray} (hs : c.P.underlying src = some .string) (hd : c.P.underlying dst = some (.slice e)) (he : c.P.underlying e = some (.int .u8))
    (h : ∀ w' g cp, E0 w w' → Row w' (some ⟨g, 0, none⟩) 1 ((bytesI s).map encB) → k (.slice (some ⟨g, 0, none⟩) s.size cp) w') : WOP c ⟨E, B, w⟩ (convert src dst (.string s)) k := by
  have hrun := run_bytes_of_string (P := c.P) w src dst e s hs hd he
  have hx : E0 w (w.drew.alloc (.cells (bytesRow s (grownCap w s.size 0 e)) e ((bytesRow s (grownCap w s.size 0 e)).size, (bytesRow s (grownCap w s.size 0 e)).size + 1))) := by
    have a : E0 w w.drew := ⟨rfl, rfl, rfl, Nat.le_refl _, fun _ _ _ => rfl⟩
    exact a.trans (E0.ofGrown (World.grownBy_alloc w.drew _ none))
  refine WOP.e0 _ _ hrun hx (h _ w.heap.size _ hx fun i l hl => ?_)
  rw [List.getElem?_map] at hl
  have hi : i < s.size := by
    rcases Nat.lt_or_ge i s.size with h | h
    · exact h
    · rw [List.getElem?_eq_none (by rw [bytesI_len]; exact h)] at hl; cases hl
  rw [bytesI_get s i hi] at hl
  cases hl
  refine ⟨rfl, _, rfl, fun j v hv => ?_⟩
  cases j with
  | succ j => simp [encB] at hv
  | zero =>
    simp only [encB, List.getElem?_cons_zero, Option.some.injEq] at hv
    subst hv
    rw [Addr.add_add, Addr.add_lit, show 0 + (i * 1 + 0) = i from by omega]
    have e1 := World.cell?_alloc_mark w.drew (bytesRow s (grownCap w s.size 0 e)) e ((bytesRow s (grownCap w s.size 0 e)).size, (bytesRow s (grownCap w s.size 0 e)).size + 1) i
    have e2 := bytesRow_at s (grownCap w s.size 0 e) i hi
    rw [e2] at e1
    refine e1.trans ?_
    unfold bget
    rw [Array.getElem?_eq_getElem (show i < s.data.size from hi)]; rfl
/-- 'string(b)' of bytes in a row. -/
theorem cvB {c : Ctx} {E : List (Nat × TV)} {B : List Bx} {w : World} {k : Value → World → Prop} {src dst e : TypeId} {a : Addr} {n cp : Nat} (l : List UInt8) (hs : c.P.underlying src = some (.slice e)) (he : c.P.underlying e = some (.int .u8)) (hd : c.P.underlying dst = some .string)
    (hr : Row w (some a) 1 (l.map fun b => [.int .u8 (b.toNat : Int)])) (hn : l.length = n) (h : k (.string ⟨l.toArray⟩) w) : WOP c ⟨E, B, w⟩ (convert src dst (.slice (some a) n cp)) k := by
  subst hn
  refine WOP.e0 _ _ (run_convert_bytes_back w src dst e a cp l hs he hd fun j hj => ?_) (Ext.refl _ _) h
  obtain ⟨-, ad, e1, e2⟩ := hr j [.int .u8 (l[j].toNat : Int)] (by simp [hj])
  cases e1
  have := e2 0 _ rfl
  rw [Addr.add_add] at this
  simpa using this
end Go.X
