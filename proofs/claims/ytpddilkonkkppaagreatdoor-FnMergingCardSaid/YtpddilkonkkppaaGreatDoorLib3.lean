/- Part 9: more about slices of one's own: literals, cuts, cleared ends; what two calls made lies apart. -/
import Derived.Test.YtpddilkonkkppaaGreatDoorLib2
import Derived.Great.BuildSlice
namespace Go.X
open Go Go.RowKit

theorem Own.apart {w w' : World} {lo : Nat} {e e' : TypeId} {sz sz' : Nat} {v v' : Value} {ls ls' : List (List Value)} (h : Own w lo e sz v ls) (h' : Own w' w.heap.size e' sz' v' ls') :
    ∀ k, v.ownBlock = some k → ¬ v'.ownBlock = some k := by
  intro k h1 h2
  have := (h.block h1).2
  have := (h'.block h2).1
  omega
theorem ne_symm' {v v' : Value} (h : ∀ k, v.ownBlock = some k → ¬ v'.ownBlock = some k) : ∀ k, v'.ownBlock = some k → ¬ v.ownBlock = some k :=
  fun k h1 h2 => h k h2 h1
/-- a block that was made after the call began. -/
theorem Own.fresh {w : World} {lo n : Nat} {e : TypeId} {sz : Nat} {v : Value} {ls : List (List Value)} (h : Own w lo e sz v ls) (hl : n ≤ lo) : ∀ k, k < n → v.ownBlock = some k → False := by
  intro k h1 h2
  have := (h.block h2).1
  omega
/-! ### a slice literal -/
theorem bsS {c : Ctx} {E : List (Nat × TV)} {B : List Bx} {w : World} {k : Value → World → Prop} {t e : TypeId} {sz by_ : Nat} {z : List Value} (he : ElemT c.P t e sz by_ z) (vs : List Value) {n : Nat} {ps : Array (Nat × Value)}
    (hp : ps.toList = (vs.zipIdx 0).map fun x => (x.2, x.1)) (hn : vs.length = n) (hv : ∀ v ∈ vs, v.cells.size = sz) (hs : n * sz ≤ 16777216)
    (h : ∀ w', E0 w w' → Own w' w.heap.size e sz (.slice (some ⟨w.heap.size, 0, none⟩) n n) (vs.map fun v => v.cells.toList) → k (.slice (some ⟨w.heap.size, 0, none⟩) n n) w') : WOP c ⟨E, B, w⟩ (Instr.buildSlice t n ps) k := by
  obtain ⟨und, ⟨i, hi, hsz, hb, zv, hz, hc⟩, hl, hpos⟩ := he
  have hrun : (Instr.buildSlice t n ps).run c.P w = .ok (.slice (some ⟨w.heap.size, 0, none⟩) n n) (w.alloc (.cells (vs.flatMap fun v => v.cells.toList).toArray e)) := by
    by_cases h0 : n = 0
    · subst h0
      obtain rfl : vs = [] := List.eq_nil_of_length_eq_zero hn
      have hp' : ps = #[] := by cases ps; simpa using hp
      subst hp'
      simp [Instr.buildSlice, run_underlying und, sizeOf, typeInfo, zeroValue, hi, Instr.fill, newRow]
      rw [show (Array.map (fun _ => (default : Value)) (Array.range 0)) = #[] from by simp]
    · refine run_buildSlice w t e n ps _ i zv und hi hz (by rw [hsz]; omega) ?_ ?_
      · rw [hsz]
        exact Nat.mul_ne_zero h0 (by omega)
      · rw [hp, hsz]
        exact Go.Great.fill_whole hpos vs _ hv (by simp [hn])
  have hw := World.ownsRow_lit (base := w.heap.size) (e := e) (size := sz) w (vs.flatMap fun v => v.cells.toList).toArray n (Nat.le_refl _) (by
    have : n * 1 ≤ n * sz := Nat.mul_le_mul_left _ hpos
    simp only [maxLen]; omega) (by
    have : (vs.flatMap fun v => v.cells.toList).length = vs.length * sz := by
      rw [List.flatMap_def, length_flat (sz := sz) (by intro l hl; obtain ⟨v, hv', rfl⟩ := List.mem_map.1 hl; simpa using hv v hv')]
      simp
    simpa [hn] using this)
  refine WOP.e0 _ _ hrun (E0.ofGrown (World.grownBy_alloc w _ none)) (h _ (E0.ofGrown (World.grownBy_alloc w _ none)) ⟨?_, ?_⟩)
  · rw [List.flatMap_def] at hw ⊢
    simpa [hn] using hw
  · intro l hl
    obtain ⟨v, hv', rfl⟩ := List.mem_map.1 hl
    simpa using hv v hv'
/-- the first elements of a slice of one's own. -/
theorem Own.cut {w : World} {lo : Nat} {e : TypeId} {sz : Nat} {a : Option Addr} {n c : Nat} {ls : List (List Value)} (h : Own w lo e sz (.slice a n c) ls) (k : Nat) (hk : k ≤ n) : Own w lo e sz (.slice a k c) (ls.take k) := by
  obtain ⟨hr, hn⟩ := h.row
  obtain ⟨⟨h1, h2⟩, hw⟩ := h
  have hwk : Wide sz (ls.take k) := fun l hl => hw l (List.mem_of_mem_take hl)
  have hlk : (ls.take k).length = k := by simp; omega
  refine ⟨?_, hwk⟩
  rw [hlk]
  refine ⟨by rw [length_flat hwk, hlk], ?_⟩
  rcases h2 with ⟨h2, h3⟩ | ⟨g, cap, cur, h2, hg, hh, hnc, hmm, hs, ht⟩
  · cases h2
    exact .inl ⟨by simp at hk ⊢; omega, by omega⟩
  · cases h2
    refine .inr ⟨g, c, cur, rfl, hg, hh, by omega, hmm, hs, ?_⟩
    have e1 : ls.flatten = (ls.take k).flatten ++ (ls.drop k).flatten := by rw [← List.flatten_append, List.take_append_drop]
    have e2 : (ls.take k).flatten.length = k * sz := by rw [length_flat hwk, hlk]
    have e3 : (ls.flatten).take (k * sz) = (ls.take k).flatten := by rw [e1, ← e2, List.take_left]
    rw [← e3, ← ht, List.take_take]
    congr 1
    have : k * sz ≤ ls.length * sz := Nat.mul_le_mul_right _ (by omega)
    omega
/-- 'clear' of what lies behind a slice of one's own. -/
theorem clS {c : Ctx} {E : List (Nat × TV)} {B : List Bx} {w : World} {k : Value → World → Prop} {t ty e : TypeId} {sz by_ : Nat} {z : List Value} (he : ElemT c.P t e sz by_ z) (hz1 : allOne z = true) {lo : Nat} {a : Option Addr} {n cp : Nat} {ls : List (List Value)} {p : Option Addr} {m cc : Nat}
    (ho : Own w lo e sz (.slice a n cp) ls) (hp : 0 < m → p = a.map (·.add (n * sz))) (hm : n + m ≤ cp)
    (hlo : ∀ k, k < c.w0.heap.size → (Value.slice a n cp).ownBlock = some k → c.m k) (hn : NotIn (fun k => (Value.slice a n cp).ownBlock = some k) B)
    (h : ∀ w', Ext (fun k => (Value.slice a n cp).ownBlock = some k) w w' → Own w' lo e sz (.slice a n cp) ls → k (.tuple #[]) w') : WOP c ⟨E, B, w⟩ (Builtin.clear_ #[t] ty #[.slice p m cc]) k := by
  obtain ⟨und, ⟨i, hi, hsz, hb, zv, hz, hc⟩, hl, hpos⟩ := he
  refine WOP.mk fun _ _ => ?_
  by_cases hm0 : m = 0
  · subst hm0
    refine ⟨.tuple #[], w, ?_, _, Ext.refl _ _, hn, hlo, h w (Ext.refl _ _) ho⟩
    cases p <;> simp [Builtin.clear_, run_underlying und]
  · obtain ⟨⟨h1, h2⟩, hw⟩ := ho
    rcases h2 with ⟨h2, h3⟩ | ⟨g, cap, cur, h2, hg, hh, hnc, hmm, hs, ht⟩
    · cases h2; omega
    · cases h2
      have hp' := hp (by omega)
      simp only [Option.map_some, Addr.add_lit] at hp'
      subst hp'
      have hzl : (Builtin.zeroCells zv.cells m).toList.length = m * sz := by rw [hc]; simp [Builtin.zeroCells, hl]
      have hzo : ∀ v ∈ (Builtin.zeroCells zv.cells m).toList, v.oneCell' = true := by
        intro v hv
        rw [hc] at hv
        have e1 : (Builtin.zeroCells z.toArray m).toList = (List.replicate m z).flatten := by
          rw [← madeCells_flat z (by omega) m]; rfl
        rw [e1] at hv
        obtain ⟨l, hl', hv'⟩ := List.mem_flatten.1 hv
        rw [(List.mem_replicate.1 hl').2] at hv'
        exact allOne_spec hz1 v hv'
      have hfit : ls.length * sz + m * sz ≤ cur.size := by
        rw [hs, ← Nat.add_mul]; exact Nat.mul_le_mul_right _ hm
      have hrun := run_storeCells_at (P := c.P) g (ls.length * sz) e (Builtin.zeroCells zv.cells m).toList 0 cur w hh (by rw [hzl]; omega) hzo
      have x := setRow_ext w g (cur.toList.take (ls.length * sz + 0) ++ (Builtin.zeroCells zv.cells m).toList ++ cur.toList.drop (ls.length * sz + 0 + (Builtin.zeroCells zv.cells m).toList.length)).toArray
      have x' := x.mono (m' := fun k => (Value.slice (some ⟨g, 0, none⟩) ls.length cp).ownBlock = some k) fun k _ hk => by subst hk; rfl
      refine ⟨.tuple #[], _, ?_, _, x', hn, hlo, h _ x' ⟨⟨h1, .inr ⟨g, cp, _, rfl, hg, setRow_heap' _ _ _ _ _ hh, hnc, hmm, ?_, ?_⟩⟩, hw⟩⟩
      · obtain ⟨m', rfl⟩ : ∃ m', m = m' + 1 := ⟨m - 1, by omega⟩
        simp [Builtin.clear_, run_underlying und, zeroValue, typeInfo, hi, hz]
        simp at hrun
        simp [hrun]
      · simp only [List.size_toArray, List.length_append, List.length_take, List.length_drop, Array.length_toList, hzl]
        omega
      · simp only [Nat.add_zero]
        rw [← ht, List.append_assoc, take_append_le _ _ _ (by simp; omega), List.take_take]
        congr 1
        omega
/-- a row of the first world, past a call that writes only what was made later. -/
theorem Row.past {w w1 w2 : World} {m : Nat → Prop} {a : Option Addr} {sz : Nat} {ls : List (List Value)} (h : Row w a sz ls) (h1 : Row w1 a sz ls) (x : Ext m w1 w2) (hm : ∀ k, k < w.heap.size → ¬ m k) : Row w2 a sz ls := by
  intro i c hc
  obtain ⟨e1, ad, rfl, e2⟩ := h i c hc
  obtain ⟨-, ad', e, e3⟩ := h1 i c hc
  cases e
  refine ⟨e1, ad, rfl, fun j v hv => ?_⟩
  have c1 := e2 j v hv
  refine x.cell (e3 j v hv) (hm _ ?_)
  simp only [World.cell?] at c1
  have hblk : ((ad.add (i * sz)).add j).block < w.heap.size := by
    rcases Nat.lt_or_ge ((ad.add (i * sz)).add j).block w.heap.size with h | h
    · exact h
    · rw [Array.getElem?_eq_none h] at c1; simp at c1
  exact hblk
/-- a slice of one's own, past a call that writes only another one. -/
theorem Own.past {w w1 : World} {v' : Value} {lo : Nat} {e : TypeId} {sz : Nat} {v : Value} {ls : List (List Value)} (h : Own w lo e sz v ls) (x : Ext (fun b => v'.ownBlock = some b) w w1) (hm : ∀ k, v.ownBlock = some k → ¬ v'.ownBlock = some k) : Own w1 lo e sz v ls := h.ext x hm
end Go.X
