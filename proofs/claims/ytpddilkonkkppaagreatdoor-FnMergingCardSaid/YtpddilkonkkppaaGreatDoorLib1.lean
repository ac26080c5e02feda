/- Part 7: rows that a call owns; laws of the operations on memory, in the evaluator's words. -/
import Derived.Test.YtpddilkonkkppaaGreatDoorEng6
namespace Go.X
open Go Go.RowKit

/-! ### rows as lists of elements -/
theorem flat_get {sz : Nat} {ls : List (List Value)} (h : ∀ l ∈ ls, l.length = sz) (i : Nat) (c : List Value) (hc : ls[i]? = some c) (j : Nat) (v : Value) (hv : c[j]? = some v) : ls.flatten[i * sz + j]? = some v := by
  induction ls generalizing i with
  | nil => simp at hc
  | cons x xs ih =>
    have hx : x.length = sz := h x (by simp)
    cases i with
    | zero =>
      simp only [List.getElem?_cons_zero, Option.some.injEq] at hc
      subst hc
      have : j < x.length := by
        rcases Nat.lt_or_ge j x.length with h | h
        · exact h
        · rw [List.getElem?_eq_none h] at hv; cases hv
      simp only [Nat.zero_mul, Nat.zero_add, List.flatten_cons]
      rw [List.getElem?_append_left this]; exact hv
    | succ i =>
      simp only [List.getElem?_cons_succ] at hc
      have := ih (fun l hl => h l (by simp [hl])) i hc
      rw [List.flatten_cons, List.getElem?_append_right (by rw [hx, Nat.succ_mul]; omega), hx]
      rw [show (i + 1) * sz + j - sz = i * sz + j from by rw [Nat.succ_mul]; omega]
      exact this
theorem length_flat {sz : Nat} {ls : List (List Value)} (h : ∀ l ∈ ls, l.length = sz) : ls.flatten.length = ls.length * sz := by
  induction ls with
  | nil => simp
  | cons x xs ih =>
    rw [List.flatten_cons, List.length_append, ih (fun l hl => h l (by simp [hl])), h x (by simp), List.length_cons, Nat.succ_mul]; omega
def Wide (sz : Nat) (ls : List (List Value)) : Prop := ∀ l ∈ ls, l.length = sz
/-- v is a slice of the call's own (blocks from lo on), of the elements ls. -/
def Own (w : World) (lo : Nat) (e : TypeId) (sz : Nat) (v : Value) (ls : List (List Value)) : Prop := w.ownsRow lo e sz v ls.length ls.flatten ∧ Wide sz ls
theorem Own.form {w : World} {lo : Nat} {e : TypeId} {sz : Nat} {v : Value} {ls : List (List Value)} (h : Own w lo e sz v ls) : ∃ a c, v = .slice a ls.length c ∧ Row w a sz ls := by
  obtain ⟨⟨h1, h2⟩, hw⟩ := h
  rcases h2 with ⟨rfl, h3⟩ | ⟨g, cap, cur, rfl, hg, hh, hn, hm, hs, ht⟩
  · have : ls = [] := List.eq_nil_of_length_eq_zero h3
    subst this
    exact ⟨none, 0, rfl, Row.nil _ _ _⟩
  · refine ⟨some ⟨g, 0, none⟩, cap, rfl, fun i c hc => ⟨hw c (List.mem_of_getElem? hc), _, rfl, fun j v hv => ?_⟩⟩
    rw [Addr.add_add, Addr.add_lit]
    have := flat_get hw i c hc j v hv
    rw [← ht, List.getElem?_take] at this
    split at this
    · simp only [Nat.zero_add]
      rw [cell_of_row w g _ cur e (0, 0) hh]
      simpa using this
    · cases this
theorem Own.row {w : World} {lo : Nat} {e : TypeId} {sz : Nat} {a : Option Addr} {n c : Nat} {ls : List (List Value)} (h : Own w lo e sz (.slice a n c) ls) : Row w a sz ls ∧ ls.length = n := by
  obtain ⟨a', c', e', hr⟩ := h.form
  cases e'
  exact ⟨hr, rfl⟩
theorem Own.ext {w w' : World} {m : Nat → Prop} {lo : Nat} {e : TypeId} {sz : Nat} {v : Value} {ls : List (List Value)} (h : Own w lo e sz v ls) (x : Ext m w w') (hm : ∀ k, v.ownBlock = some k → ¬ m k) : Own w' lo e sz v ls := by
  obtain ⟨⟨h1, h2⟩, hw⟩ := h
  refine ⟨⟨h1, ?_⟩, hw⟩
  rcases h2 with h2 | ⟨g, cap, cur, rfl, hg, hh, hn, hmm, hs, ht⟩
  · exact .inl h2
  · exact .inr ⟨g, cap, cur, rfl, hg, x.heap hh (hm g rfl), hn, hmm, hs, ht⟩
theorem Own.e0 {w w' : World} {lo : Nat} {e : TypeId} {sz : Nat} {v : Value} {ls : List (List Value)} (h : Own w lo e sz v ls) (x : E0 w w') : Own w' lo e sz v ls := h.ext x (fun _ _ => id)
theorem Own.lo {w : World} {lo lo' : Nat} {e : TypeId} {sz : Nat} {v : Value} {ls : List (List Value)} (h : Own w lo e sz v ls) (hl : lo' ≤ lo) : Own w lo' e sz v ls := by
  obtain ⟨⟨h1, h2⟩, hw⟩ := h
  refine ⟨⟨h1, ?_⟩, hw⟩
  rcases h2 with h2 | ⟨g, cap, cur, rfl, hg, hh, r⟩
  · exact .inl h2
  · exact .inr ⟨g, cap, cur, rfl, Nat.le_trans hl hg, hh, r⟩
theorem Own.block {w : World} {lo : Nat} {e : TypeId} {sz : Nat} {v : Value} {ls : List (List Value)} (h : Own w lo e sz v ls) {k : Nat} (hk : v.ownBlock = some k) : lo ≤ k ∧ k < w.heap.size := h.1.lt k hk
theorem Own.nil (w : World) (lo : Nat) (e : TypeId) (sz : Nat) : Own w lo e sz (.slice none 0 0) [] := ⟨World.ownsRow_nil w lo e sz, fun l hl => by simp at hl⟩
theorem E0.ofGrown {w w' : World} (h : w.grownBy w' none) : E0 w w' := ⟨h.os, h.tape, h.output, h.size, fun k hk _ => h.block k hk (by simp)⟩
theorem Ext.ofGrown {w w' : World} {r : Option Nat} (h : w.grownBy w' r) : Ext (fun k => r = some k) w w' := ⟨h.os, h.tape, h.output, h.size, fun k hk hn => h.block k hk (fun e => hn e.symm)⟩

/-! ### element types -/
structure ElemT (P : Program) (t e : TypeId) (sz by_ : Nat) (z : List Value) : Prop where
  und : P.underlying t = some (.slice e)
  inf : ∃ i, P.info? e = some i ∧ i.size = sz ∧ i.bytes = by_ ∧ ∃ zv, i.zero = some zv ∧ zv.cells = z.toArray
  len : z.length = sz
  pos : 0 < sz
def elemB (P : Program) (t e : TypeId) (sz by_ : Nat) (z : List Value) : Bool :=
  (match P.underlying t with | some (.slice e') => Nat.beq e' e | _ => false) && (match P.info? e with | some i => Nat.beq i.size sz && Nat.beq i.bytes by_ | none => false) && Nat.beq z.length sz && Nat.blt 0 sz
theorem ElemT.mk' {P : Program} {t e : TypeId} {sz by_ : Nat} {z : List Value} (hb : elemB P t e sz by_ z = true) (hz : ((P.info? e).bind (·.zero)).map (·.cells) = some z.toArray) : ElemT P t e sz by_ z := by
  unfold elemB at hb
  simp only [Bool.and_eq_true] at hb
  obtain ⟨⟨⟨h1, h2⟩, h3⟩, h4⟩ := hb
  refine ⟨?_, ?_, Nat.eq_of_beq_eq_true h3, Nat.le_of_ble_eq_true h4⟩
  · split at h1
    · rename_i e' he
      rw [he, Nat.eq_of_beq_eq_true h1]
    · cases h1
  · cases hi : P.info? e with
    | none => rw [hi] at h2; cases h2
    | some i =>
      rw [hi] at h2 hz
      simp only [Bool.and_eq_true] at h2
      simp only [Option.bind_some] at hz
      cases hzz : i.zero with
      | none => rw [hzz] at hz; cases hz
      | some zv =>
        rw [hzz] at hz
        exact ⟨i, rfl, Nat.eq_of_beq_eq_true h2.1, Nat.eq_of_beq_eq_true h2.2, zv, hzz, by simpa using hz⟩

/-! ### make -/
theorem madeCells_flat (z : List Value) (hz : 0 < z.length) : ∀ n, (madeCells z.toArray (n * z.length)).toList = (List.replicate n z).flatten := by
  intro n
  apply List.ext_getElem?
  intro j
  have hw : ∀ l ∈ List.replicate n z, l.length = z.length := by intro l hl; rw [(List.mem_replicate.1 hl).2]
  by_cases hj : j < n * z.length
  · have hq : j / z.length < n := Nat.div_lt_of_lt_mul (by rw [Nat.mul_comm]; exact hj)
    have hr : j % z.length < z.length := Nat.mod_lt _ hz
    have := flat_get hw (j / z.length) z (by simp [hq]) (j % z.length) z[j % z.length] (by simp [hr])
    rw [show j / z.length * z.length + j % z.length = j from by rw [Nat.mul_comm]; exact Nat.div_add_mod j z.length] at this
    rw [this]
    simp [madeCells, hj, hr]
  · rw [List.getElem?_eq_none (by simpa [madeCells] using hj), List.getElem?_eq_none (by rw [length_flat hw]; simpa using hj)]
theorem WOP.make {c : Ctx} {S : St} {k : Value → World → Prop} {t e : TypeId} {sz by_ : Nat} {z : List Value} (he : ElemT c.P t e sz by_ z) {n : Nat} (hn : by_ * n ≤ 281474976710656) (hm : n < 9223372036854775808)
    (h : ∀ w' cp, E0 S.w w' → Own w' S.w.heap.size e sz (.slice (some ⟨S.w.heap.size, 0, none⟩) n cp) (List.replicate n z) → k (.slice (some ⟨S.w.heap.size, 0, none⟩) n cp) w') : WOP c S (Instr.makeSlice t (.int .i64 n) (.int .i64 n)) k := by
  obtain ⟨und, ⟨i, hi, hs, hb, zv, hz, hc⟩, hl, hp⟩ := he
  obtain ⟨w', h1, h2, h3⟩ := run_make_full (P := c.P) S.w S.w.heap.size t e i zv sz und hi hz hs .i64 .i64 n (by rw [hb]; exact hn) (by simp only [maxLen]; omega) (Nat.le_refl _)
  refine WOP.e0 _ w' h1 (E0.ofGrown h3) (h w' n (E0.ofGrown h3) ⟨?_, ?_⟩)
  · rw [hc] at h2
    have := madeCells_flat z (by omega) n
    rw [hl] at this
    rw [this] at h2
    simpa using h2
  · intro l hl'; rw [(List.mem_replicate.1 hl').2, hl]

/-! ### append -/
theorem allOneW {w : World} {a : Option Addr} {sz : Nat} {ls : List (List Value)} (_h : Row w a sz ls) (h1 : ∀ l ∈ ls, allOne l = true) : ∀ u ∈ ls.flatten, u.oneCell' = true := by
  intro u hu
  obtain ⟨l, hl, hu⟩ := List.mem_flatten.1 hu
  exact allOne_spec (h1 l hl) u hu
theorem run_append_none {P : Program} {w : World} {base : Nat} {t ty e : TypeId} {i : TypeInfo} {size : Nat} (ht : P.underlying t = some (.slice e)) (hi : P.info? e = some i)
    {v : Value} {n : Nat} {xs : List Value} (hown : w.ownsRow base e size v n xs) (c : Nat) : (Builtin.append_ #[t, t] ty #[v, .slice none 0 c]).run P w = .ok v w := by
  rcases hown.2 with ⟨rfl, rfl⟩ | ⟨g, cap, cur, rfl, _, _, hnc, _⟩
  · simp [Builtin.append_, run_underlying ht, sizeOf, typeInfo, hi, Builtin.lenOf, Builtin.firstCells]
  · simp [Builtin.append_, run_underlying ht, sizeOf, typeInfo, hi, Builtin.lenOf, Builtin.firstCells, hnc, storeCells]
/-- 'append(v, x...)' onto a slice of one's own. -/
theorem WOP.append {c : Ctx} {S : St} {k : Value → World → Prop} {t ty e : TypeId} {sz by_ : Nat} {z : List Value} (he : ElemT c.P t e sz by_ z) {v : Value} {lo : Nat} {ls ns : List (List Value)} {b : Option Addr} {m cp : Nat}
    (ho : Own S.w lo e sz v ls) (hr : Row S.w b sz ns) (hm : ns.length = m) (h1 : ∀ l ∈ ns, allOne l = true) (hb : (ls.length + m) * by_ ≤ 140737488355328) (h63 : ls.length + m < 9223372036854775808)
    (hlo : c.w0.heap.size ≤ lo) (hsz : lo ≤ S.w.heap.size) (hn : NotIn (fun k => v.ownBlock = some k) S.B)
    (h : ∀ v' w', Ext (fun k => v.ownBlock = some k) S.w w' → Own w' lo e sz v' (ls ++ ns) → k v' w') : WOP c S (Builtin.append_ #[t, t] ty #[v, .slice b m cp]) k := by
  obtain ⟨und, ⟨i, hi, hs, hby, zv, hz, hc⟩, hl, hp⟩ := he
  obtain ⟨how, hwd⟩ := ho
  have wd : Wide sz (ls ++ ns) := by
    intro l hl'
    rcases List.mem_append.1 hl' with h | h
    · exact hwd l h
    · obtain ⟨i, hi', hh⟩ := List.getElem_of_mem h
      exact (hr i l (by rw [List.getElem?_eq_getElem hi', hh])).1
  have hns : Wide sz ns := fun l hl' => wd l (List.mem_append_right _ hl')
  have old : ∀ k, k < c.w0.heap.size → v.ownBlock = some k → c.m k := by
    intro k hk hv
    have := (how.lt k hv).1
    omega
  cases b with
  | none =>
    have hns0 : ns = [] := by
      cases ns with
      | nil => rfl
      | cons x xs => obtain ⟨-, ad, e', -⟩ := hr 0 x rfl; cases e'
    subst hns0
    simp only [List.length_nil] at hm
    subst hm
    refine WOP.mk fun _ _ => ⟨v, S.w, run_append_none und hi how cp, fun k => v.ownBlock = some k, Ext.refl _ _, hn, old, h v S.w (Ext.refl _ _) ⟨by simpa using how, by simpa using hwd⟩⟩
  | some ad =>
    have news : ∀ j u, ns.flatten[j]? = some u → S.w.cell? (ad.add j) = some u := by
      intro j u hj
      have hlt : j < ns.flatten.length := by
        rcases Nat.lt_or_ge j ns.flatten.length with h | h
        · exact h
        · rw [List.getElem?_eq_none h] at hj; cases hj
      rw [length_flat hns] at hlt
      have hq : j / sz < ns.length := Nat.div_lt_of_lt_mul (by rw [Nat.mul_comm]; exact hlt)
      have hrm : j % sz < sz := Nat.mod_lt _ hp
      obtain ⟨e1, ad', e2, e3⟩ := hr (j / sz) ns[j / sz] (by simp [hq])
      cases e2
      have hlen : j % sz < ns[j / sz].length := by omega
      have e4 := e3 (j % sz) ns[j / sz][j % sz] (by simp [hlen])
      have e5 := flat_get hns (j / sz) ns[j / sz] (by simp [hq]) (j % sz) ns[j / sz][j % sz] (by simp [hlen])
      have e6 : j / sz * sz + j % sz = j := by rw [Nat.mul_comm]; exact Nat.div_add_mod j sz
      rw [e6] at e5
      rw [Addr.add_add, e6] at e4
      rw [e4]
      rw [hj] at e5
      exact e5.symm
    refine WOP.mk fun _ _ => ?_
    obtain ⟨v', w', r1, r2, r3, -⟩ := run_append_own (P := c.P) S.w lo t ty e i zv sz by_ und hi hz hs hby (by rw [hc]; simpa using hl) hp v ls.length ls.flatten how ad m cp ns.flatten (by rw [length_flat hns, hm]) news
      (allOneW hr h1) (by simp only [maxLen]; omega) hb hsz
    have x := Ext.ofGrown r3
    refine ⟨v', w', r1, _, x, hn, old, h v' w' x ⟨?_, wd⟩⟩
    have : (ls ++ ns).length = ls.length + m := by simp [hm]
    rw [this, List.flatten_append]
    exact r2

/-! ### a store into an element of a slice of one's own -/
theorem Own.heap {w : World} {lo : Nat} {e : TypeId} {sz : Nat} {a : Option Addr} {n c : Nat} {ls : List (List Value)} (h : Own w lo e sz (.slice a n c) ls) (hl : 0 < ls.length) :
    ∃ g cur, a = some ⟨g, 0, none⟩ ∧ lo ≤ g ∧ w.heap[g]? = some (.cells cur e (0, 0)) ∧ n ≤ c ∧ c ≤ maxLen ∧ cur.size = c * sz ∧ cur.toList.take (n * sz) = ls.flatten ∧ n = ls.length := by
  obtain ⟨⟨h1, h2⟩, hw⟩ := h
  rcases h2 with ⟨h2, h3⟩ | ⟨g, cap, cur, h2, hg, hh, hn, hmm, hs, ht⟩
  · omega
  · simp only [Value.slice.injEq] at h2
    obtain ⟨rfl, rfl, rfl⟩ := h2
    exact ⟨g, cur, rfl, hg, hh, hn, hmm, hs, ht, rfl⟩
def splice (l : List Value) (off : Nat) (cs : List Value) : List Value := l.take off ++ cs ++ l.drop (off + cs.length)
theorem length_splice {l cs : List Value} {off : Nat} (h : off + cs.length ≤ l.length) : (splice l off cs).length = l.length := by
  simp [splice]; omega
theorem take_append_le {α : Type} (l m : List α) (n : Nat) (h : n ≤ l.length) : (l ++ m).take n = l.take n := by
  rw [List.take_append, Nat.sub_eq_zero_of_le h]; simp
theorem flat_set {sz : Nat} : ∀ {ls : List (List Value)} (_ : Wide sz ls) (i : Nat) (c cs : List Value) (off : Nat), ls[i]? = some c → off + cs.length ≤ sz →
    (ls.set i (splice c off cs)).flatten = ls.flatten.take (i * sz + off) ++ cs ++ ls.flatten.drop (i * sz + off + cs.length)
  | [], _, i, _, _, _, h, _ => by simp at h
  | x :: xs, hw, 0, c, cs, off, h, ho => by
    simp only [List.getElem?_cons_zero, Option.some.injEq] at h
    subst h
    have hx := hw x (by simp)
    simp only [List.set_cons_zero, List.flatten_cons, Nat.zero_mul, Nat.zero_add, splice]
    rw [take_append_le _ _ _ (by omega), List.drop_append, Nat.sub_eq_zero_of_le (by omega)]
    simp
  | x :: xs, hw, i + 1, c, cs, off, h, ho => by
    have hx := hw x (by simp)
    have ih := flat_set (sz := sz) (ls := xs) (fun l hl => hw l (by simp [hl])) i c cs off (by simpa using h) ho
    simp only [List.set_cons_succ, List.flatten_cons, ih]
    have e1 : (i + 1) * sz + off = x.length + (i * sz + off) := by rw [hx, Nat.succ_mul]; omega
    have e2 : (i + 1) * sz + off + cs.length = x.length + (i * sz + off + cs.length) := by rw [hx, Nat.succ_mul]; omega
    rw [e2, e1, List.take_length_add_append, List.drop_length_add_append]
    simp [List.append_assoc]
theorem wide_set {sz : Nat} {ls : List (List Value)} (hw : Wide sz ls) (i : Nat) (c cs : List Value) (off : Nat) (h : ls[i]? = some c) (ho : off + cs.length ≤ sz) : Wide sz (ls.set i (splice c off cs)) := by
  intro l hl
  rcases List.mem_or_eq_of_mem_set hl with h' | rfl
  · exact hw l h'
  · have := hw c (List.mem_of_getElem? h)
    rw [length_splice (by omega)]; exact this
theorem WOP.store {c : Ctx} {S : St} {k : Unit → World → Prop} {T e : TypeId} {sz : Nat} {lo : Nat} {a : Option Addr} {n cp : Nat} {ls : List (List Value)} {i : Int} {off q : Nat} {v : Value} {cl : List Value}
    (ho : Own S.w lo e sz (.slice a n cp) ls) (hT : c.P.cellsOf T = q + 1) (hv : v.cells.size = q + 1) (h1 : allOne v.cells.toList = true) (j : Nat) (hi : (j : Int) = i) (hc : ls[j]? = some cl) (hoff : off + (q + 1) ≤ sz)
    (hlo : ∀ k, k < c.w0.heap.size → (Value.slice a n cp).ownBlock = some k → c.m k) (hn : NotIn (fun k => (Value.slice a n cp).ownBlock = some k) S.B)
    (h : ∀ w', Ext (fun k => (Value.slice a n cp).ownBlock = some k) S.w w' → Own w' lo e sz (.slice a n cp) (ls.set j (splice cl off v.cells.toList)) → k () w') :
    WOP c S (Instr.storeAt T (.pointer (a.map fun ad => (ad.add (i.toNat * sz)).add off)) v) k := by
  subst hi
  have hj : j < ls.length := by
    rcases Nat.lt_or_ge j ls.length with h | h
    · exact h
    · rw [List.getElem?_eq_none h] at hc; cases hc
  obtain ⟨g, cur, rfl, hg, hh, hnc, hcm, hcs, ht, rfl⟩ := ho.heap (by omega)
  have hwd := ho.2
  have hfit : j * sz + off + v.cells.size ≤ cur.size := by
    rw [hcs, hv]
    have : (j + 1) * sz ≤ cp * sz := Nat.mul_le_mul_right _ (by omega)
    rw [Nat.succ_mul] at this
    omega
  have hrun := run_storeVar (P := c.P) (w := S.w) (t := T) (v := v) (g := g) (off := j * sz + off) hT hv hh hfit (allOne_spec h1)
  have x := setRow_ext S.w g (cur.toList.take (j * sz + off) ++ v.cells.toList ++ cur.toList.drop (j * sz + off + v.cells.size)).toArray
  have x' : Ext (fun k => (Value.slice (some ⟨g, 0, none⟩) ls.length cp).ownBlock = some k) S.w (S.w.setRow g (cur.toList.take (j * sz + off) ++ v.cells.toList ++ cur.toList.drop (j * sz + off + v.cells.size)).toArray) :=
    x.mono fun k _ hk => by subst hk; rfl
  refine WOP.mk fun hx _ => ⟨(), _, ?_, _, x', hn, ?_, h _ x' ⟨⟨?_, .inr ⟨g, cp, (cur.toList.take (j * sz + off) ++ v.cells.toList ++ cur.toList.drop (j * sz + off + v.cells.size)).toArray, ?_, hg, setRow_heap' _ _ _ _ _ hh, ?_, hcm, ?_, ?_⟩⟩, ?_⟩⟩
  · simp only [Option.map_some, Int.toNat_natCast, Addr.add_add, Addr.add_lit, Nat.zero_add, Instr.storeAt, Instr.sureAddr]
    simp [hrun]
  · exact hlo
  · rw [length_flat (wide_set hwd j cl _ off hc (by simp [hv]; omega))]
  · simp
  · simpa using hnc
  · simp only [List.size_toArray, List.length_append, List.length_take, List.length_drop, Array.length_toList]
    omega
  · rw [flat_set hwd j cl v.cells.toList off hc (by simp [hv]; omega), List.length_set, ← ht]
    simp only [Array.length_toList]
    have hle : j * sz + off + v.cells.size ≤ ls.length * sz := by
      have : (j + 1) * sz ≤ ls.length * sz := Nat.mul_le_mul_right _ (by omega)
      rw [Nat.succ_mul] at this
      omega
    have hlc : ls.length * sz ≤ cur.toList.length := by
      have e : cur.toList.length = cur.size := Array.length_toList
      rw [e, hcs]; exact Nat.mul_le_mul_right _ hnc
    apply List.ext_getElem?
    intro q
    simp only [List.getElem?_take, List.getElem?_append, List.length_take, List.length_append, List.getElem?_drop, Array.length_toList] at *
    by_cases hq : q < ls.length * sz
    · rw [if_pos hq]
      by_cases h1 : q < min (j * sz + off) cur.size + v.cells.size
      · have : q < min (j * sz + off) (min (ls.length * sz) cur.size) + v.cells.size := by omega
        rw [if_pos h1, if_pos this]
        by_cases h2 : q < min (j * sz + off) cur.size
        · have h3 : q < min (j * sz + off) (min (ls.length * sz) cur.size) := by omega
          rw [if_pos h2, if_pos h3]
          have h4 : q < j * sz + off := by omega
          simp [h4, hq]
        · have h3 : ¬ q < min (j * sz + off) (min (ls.length * sz) cur.size) := by omega
          rw [if_neg h2, if_neg h3]
          congr 1; omega
      · have : ¬ q < min (j * sz + off) (min (ls.length * sz) cur.size) + v.cells.size := by omega
        rw [if_neg h1, if_neg this]
        have e1 : j * sz + off + v.cells.size + (q - (min (j * sz + off) cur.size + v.cells.size)) = q := by omega
        have e2 : j * sz + off + v.cells.size + (q - (min (j * sz + off) (min (ls.length * sz) cur.size) + v.cells.size)) = q := by omega
        rw [e1, e2, if_pos hq]
    · rw [if_neg hq]
      have h1 : ¬ q < min (j * sz + off) (min (ls.length * sz) cur.size) + v.cells.size := by omega
      rw [if_neg h1]
      have e2 : j * sz + off + v.cells.size + (q - (min (j * sz + off) (min (ls.length * sz) cur.size) + v.cells.size)) = q := by omega
      rw [e2, if_neg hq]
  · exact wide_set hwd j cl _ off hc (by simp [hv]; omega)

end Go.X
