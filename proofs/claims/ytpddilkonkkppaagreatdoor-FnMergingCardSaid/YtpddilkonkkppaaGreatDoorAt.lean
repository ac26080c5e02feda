/- Two entries of a list made one. -/
import Derived.Test.YtpddilkonkkppaaGreatDoorRows
import Derived.Test.YtpddilkonkkppaaGreatDoorMerged
namespace Go.Proofs.YtpddilkonkkppaaGreatDoor
open Go Go.X Go.Proofs Go.ChangeShapes Go.WideShapes Go.ChangeAt Go.RowKit
open Go.ChangeMaps (open_string shut_string)
set_option maxHeartbeats 1000000
set_option maxRecDepth 20000
set_option linter.unusedVariables false
set_option linter.unusedSimpArgs false
theorem OwnT.put {w w' : World} {lo : Nat} {v : Value} {ts : List Tri} (h : OwnT w lo v ts) {j : Nat} {t u : Tri} (hj : ts[j]? = some t)
    (ht : Own w' lo 46 6 v ((ts.map encT).set j (encT u))) (hu : Own w' lo 3 1 u.sl (u.1.fSeen.map encI)) (hn : ∀ x ∈ ts, ∀ b, x.sl.ownBlock = some b → u.sl.ownBlock ≠ some b) (e : Ext (fun b => v.ownBlock = some b) w w') : OwnT w' lo v (ts.set j u) := by
  have hmem : ∀ x ∈ ts.set j u, x = u ∨ x ∈ ts := fun x hx => (List.mem_or_eq_of_mem_set hx).symm
  refine OwnT.mk' (by rw [List.map_set]; exact ht) (fun x hx => ?_) ?_
  · rcases hmem x hx with rfl | hx
    · exact hu
    · exact (h.sub x hx).ext e (fun b hb hb2 => h.off x hx b hb2 hb)
  · rw [List.pairwise_iff_getElem]
    intro p q hp hq hpq b hb hb2
    rw [List.length_set] at hp hq
    rw [List.getElem_set] at hb hb2
    split at hb
    · split at hb2
      · omega
      · exact hn _ (List.getElem_mem hq) b hb2 hb
    · split at hb2
      · exact hn _ (List.getElem_mem hp) b hb hb2
      · exact h.dif (by omega : p ≠ q) (List.getElem?_eq_getElem hp) (List.getElem?_eq_getElem hq) hb hb2
theorem OwnT.erase {w w' : World} {lo : Nat} {v v' : Value} {ts : List Tri} (h : OwnT w lo v ts) (k : Nat) (ht : Own w' lo 46 6 v' ((ts.eraseIdx k).map encT)) (e : Ext (fun b => v.ownBlock = some b) w w') : OwnT w' lo v' (ts.eraseIdx k) :=
  OwnT.mk' ht (fun x hx => (h.sub x (List.mem_of_mem_eraseIdx hx)).ext e (fun b hb hb2 => h.off x (List.mem_of_mem_eraseIdx hx) b hb2 hb)) (h.two.sublist (List.eraseIdx_sublist ts k))
theorem DeleteT_c (lo : Nat) (a : Option Addr) (n c k : Nat) (xs : List Tri) (w : World) (i j : Int) (hi : i = k) (hj : j = k + 1) (ho : Own w lo 46 6 (.slice a n c) (xs.map encT)) (hn : xs.length = n) (hk : k < n) (hm : n ≤ 1048577) (hc : n ≤ c ∧ c < 9223372036854775808) :
    Calls Tryz.prog 70 #[.slice a n c, .int .i64 i, .int .i64 j] w fun e w' => ∃ r, e = .returned r ∧ Ext (fun b => (Value.slice a n c).ownBlock = some b) w w' ∧ Own w' lo 46 6 r ((xs.eraseIdx k).map encT) := by
  subst hi hj
  obtain ⟨g, rfl⟩ := ho.base (by omega)
  have hb : ∀ b, g = b → (Value.slice (some ⟨g, 0, none⟩) n c).ownBlock = some b := fun b h => by subst h; rfl
  refine enterK (fun b => (Value.slice (some ⟨g, 0, none⟩) n c).ownBlock = some b) 33 Tryz.func70 rfl rfl rfl fun K hK => ?_
  repeat (any_goals (
    conv => whnf
    first
    | ((with_reducible refine OBL.mk ?_ (fun _ => ?_)); omega)
    | ((with_reducible refine DRAW.plan (id := 5) (.one 0 (.one 1 (.one 2 (.one 3 (.one 4 (.one 5 (.start (.alt 6 (.one 7 .done) .stop)))))))) ?_ ?_ ?_ ?_); kernel_rfl; kernel_rfl; kernel_rfl)
    | (with_reducible refine And.intro ?_ ?_)
    | (exact True.intro)
    | ((with_reducible refine BIF.beq ?_ ?_) <;> intro _)
    | ((exfalso; omega))
    | ((with_reducible refine BIF.dec ?_ ?_) <;> intro _)
    | ((with_reducible refine BIF.s ?_ ?_) <;> intro _)
    | (with_reducible refine NEXTK.normal ?_)
    | (with_reducible refine NEXTK.ret ?_)
    | (with_reducible refine NEXTK.exit ?_)
    | (with_reducible refine SEQ.plain ?_)
    | (with_reducible refine hK _ _ ?_)
    | ((with_reducible refine RUNL.agg (fun _ => ?_) ?_); (focus kernel_rfl))
    | (with_reducible refine RUNL.run ?_)
    | ((with_reducible refine AR.ok ?_ ?_); exact ⟨by first | omega | (dsimp only; omega), by first | omega | (dsimp only; omega)⟩)
    | (with_reducible refine AR.wr ?_)
    | ((with_reducible intro w3 e3); try have z3 := cutLe e3)
    | ((with_reducible intro h3); have h4 := Nat.le_of_lt h3; clear h4)))
  conv => whnf
  have h3 := ho.e0 e3
  have hcut := h3.cut k (by omega)
  obtain ⟨b, hx, hrow⟩ : ∃ b : Addr, Value.slice (if (c : Int).toNat = ((k : Int) + 1).toNat then some ⟨g, 0, none⟩ else Option.map (fun x : Addr => x.add (((k : Int) + 1).toNat * (5 + 1))) (some ⟨g, 0, none⟩)) ((n : Int).toNat - ((k : Int) + 1).toNat) ((c : Int).toNat - ((k : Int) + 1).toNat) = .slice (some b) (n - (k + 1)) (c - (k + 1)) ∧ Row w3 (some b) 6 ((xs.drop (k + 1)).map encT) := by
    by_cases h : k + 1 < c
    · refine ⟨⟨g, (k + 1) * 6, none⟩, cutAt g c (k + 1) n 6 h _ (by omega), ?_⟩
      have := h3.row.1.sub (k + 1) n (n + 1) (by omega)
      rw [if_neg (by omega)] at this
      have e1 : ((n : Int).toNat - (k + 1 : Int).toNat) = (xs.drop (k + 1)).length := by simp; omega
      rw [e1, show ((k + 1 : Int).toNat) = k + 1 from by omega, List.take_length] at this
      simpa [Addr.add_lit] using this
    · refine ⟨⟨g, 0, none⟩, ?_, ?_⟩
      · rw [if_pos (by omega)]
        congr 1 <;> omega
      · have : xs.drop (k + 1) = [] := List.drop_eq_nil_of_le (by omega)
        rw [this]; exact Row.nil _ _ _
  refine apFit elemT (g := g) (b := b) (n := k) (m := n - (k + 1)) (cp := c) (cc := c - (k + 1)) (cut0 g c k 6) hx (ls := (xs.take k).map encT) (by rw [List.map_take]; exact hcut) hrow (by simp; omega) (by intro l hl; obtain ⟨x, -, rfl⟩ := List.mem_map.1 hl; rfl) (by omega) (fun b _ h => hb b h) trivial (fun w4 e4 o4 => ?_)
  have e5 : k + (n - (k + 1)) = n - 1 := by omega
  rw [e5] at o4 ⊢
  replace o4 : Own w4 lo 46 6 (.slice (some ⟨g, 0, none⟩) (n - 1) c) ((xs.eraseIdx k).map encT) := by
    rw [List.eraseIdx_eq_take_drop_succ, List.map_append]; exact o4
  repeat (any_goals (
    conv => whnf
    first
    | ((with_reducible refine OBL.mk ?_ (fun _ => ?_)); omega)
    | ((with_reducible refine BIF.dec ?_ ?_) <;> intro _)
    | ((with_reducible refine BIF.s ?_ ?_) <;> intro _)
    | (with_reducible refine NEXTK.normal ?_)
    | (with_reducible refine NEXTK.ret ?_)
    | (with_reducible refine NEXTK.exit ?_)
    | (with_reducible refine SEQ.plain ?_)
    | (with_reducible refine hK _ _ ?_)
    | ((with_reducible refine RUNL.agg (fun _ => ?_) ?_); (focus kernel_rfl))
    | (with_reducible refine RUNL.run ?_)
    | ((with_reducible refine AR.ok ?_ ?_); exact ⟨by first | omega | (dsimp only; omega), by first | omega | (dsimp only; omega)⟩)
    | (with_reducible refine AR.wr ?_)
    | ((with_reducible intro w3 e3); try have z3 := cutLe e3)
    | ((with_reducible intro h3); have h4 := Nat.le_of_lt h3; clear h4)))
  conv => whnf
  refine clS elemT rfl (n := n - 1) (cp := c) o4 (fun _ => ?_) (by omega) (fun b _ h => h) trivial (fun w5 e5 o5 => ?_)
  · rw [if_neg (by omega)]
    congr 2
  repeat (any_goals (
    conv => whnf
    first
    | ((with_reducible refine BIF.dec ?_ ?_) <;> intro _)
    | ((with_reducible refine BIF.s ?_ ?_) <;> intro _)
    | (with_reducible refine NEXTK.normal ?_)
    | (with_reducible refine NEXTK.ret ?_)
    | (with_reducible refine NEXTK.exit ?_)
    | (with_reducible refine SEQ.plain ?_)
    | (with_reducible refine hK _ _ ?_)
    | ((with_reducible refine RUNL.agg (fun _ => ?_) ?_); (focus kernel_rfl))
    | (with_reducible refine RUNL.run ?_)
    | ((with_reducible refine AR.ok ?_ ?_); exact ⟨by first | omega | (dsimp only; omega), by first | omega | (dsimp only; omega)⟩)
    | (with_reducible refine AR.wr ?_)
    | ((with_reducible intro w3 e3); try have z3 := cutLe e3)
    | ((with_reducible intro h3); have h4 := Nat.le_of_lt h3; clear h4)))
  intro hx'
  exact ⟨_, rfl, hx', o5⟩
def mergeP (es : List Ent) (i k : Nat) : List Ent :=
  match es[i]?, es[k]? with
  | some x, some y => (es.set i (mergedE x y)).eraseIdx k
  | _, _ => es
theorem mergeP_at {es : List Ent} {i k : Nat} {x y : Ent} (hx : es[i]? = some x) (hy : es[k]? = some y) : mergeP es i k = (es.set i (mergedE x y)).eraseIdx k := by unfold mergeP; rw [hx, hy]
theorem map_erase_set (us : List Tri) (i k : Nat) (r : Tri) : ((us.set i r).eraseIdx k).map (·.1) = ((us.map (·.1)).set i r.1).eraseIdx k := by
  rw [List.eraseIdx_eq_take_drop_succ, List.eraseIdx_eq_take_drop_succ, List.map_append, List.map_take, List.map_drop, List.map_set]
theorem mem_erase_set {us : List Tri} {i k : Nat} {r x : Tri} (h : x ∈ (us.set i r).eraseIdx k) : x = r ∨ x ∈ us := (List.mem_or_eq_of_mem_set (List.mem_of_mem_eraseIdx h)).symm
theorem seg_put {us : List Tri} {j : Nat} {t r : Tri} (hj : us[j]? = some t) {w : World} {lo : Nat} {v : Value} (h : Own w lo 46 6 v ((us.map encT).set j (splice (encT t) 0 (encT r)))) : Own w lo 46 6 v ((us.map encT).set j (encT r)) := by
  rw [splice_all (by rfl)] at h
  exact h
theorem mergeAt_c (a : Option Addr) (n c i k : Nat) (ts : List Tri) (w : World) (hr : Row w a 6 (ts.map encT)) (hs : SeenAt w ts) (hn : ts.length = n) (hm : n ≤ 1000) (hi : i < n) (hk : k < n)
    (hz : ∀ t ∈ ts, t.1.fSeen.length ≤ 1000) (hc : ∀ t ∈ ts, 0 ≤ t.1.fCount ∧ t.1.fCount ≤ 1000000) :
    Calls Tryz.prog 37 #[.slice a n c, .int .i64 i, .int .i64 k] w fun e w' => ∃ v, e = .returned v ∧ E0 w w' ∧ ∃ s us, v = .tuple #[s, .bool (areE (mergeP (ts.map (·.1)) i k))] ∧ us.map (·.1) = mergeP (ts.map (·.1)) i k ∧ OwnT w' w.heap.size s us := by
  refine enterK Non 31 Tryz.func37 rfl rfl rfl fun K hK => ?_
  have his := hr.isSome (by simp; omega)
  obtain ⟨x, hx⟩ : ∃ x, ts[i]? = some x := ⟨ts[i], by simp⟩
  obtain ⟨y, hy⟩ : ∃ y, ts[k]? = some y := ⟨ts[k], by simp⟩
  have hmx := List.mem_of_getElem? hx
  have hmy := List.mem_of_getElem? hy
  have hlt1 : i < ts.length := by omega
  have hlt2 : k < ts.length := by omega
  have hzx := hz x hmx
  have hzy := hz y hmy
  repeat (any_goals (
    conv => whnf
    first
    | ((with_reducible refine BIF.dec ?_ ?_) <;> intro _)
    | ((with_reducible refine BIF.s ?_ ?_) <;> intro _)
    | (with_reducible refine NEXTK.normal ?_)
    | (with_reducible refine NEXTK.ret ?_)
    | (with_reducible refine NEXTK.exit ?_)
    | (with_reducible refine SEQ.plain ?_)
    | (with_reducible refine hK _ _ ?_)
    | ((with_reducible refine RUNL.agg (fun _ => ?_) ?_); (focus kernel_rfl))
    | (with_reducible refine RUNL.run ?_)
    | ((with_reducible refine AR.ok ?_ ?_); exact ⟨by first | omega | (dsimp only; omega), by first | omega | (dsimp only; omega)⟩)
    | (with_reducible refine AR.wr ?_)
    | ((with_reducible intro w3 e3); try have z3 := cutLe e3)
    | ((with_reducible intro h3); have h4 := Nat.le_of_lt h3; clear h4)))
  conv => whnf
  refine callY (g := 53) (by kernel_rfl) ⟨_, fun hX => copyEntries_c a n c ts _ (hr.ext hX (mAddr_Non _)) (fun t ht => (hs t ht).ext hX (mAddr_Non _)) hn (by omega) (fun t ht => by have := hz t ht; omega), fun r w1 e1 h1 => ?_⟩
  obtain ⟨us, hus, hO⟩ := h1
  have z1 := cutLe e1
  have hul : us.length = n := by have := congrArg List.length hus; simpa [hn] using this
  obtain ⟨a1, c1, rfl, q1, p1⟩ := hO.top.rowx
  rw [hul]
  rw [hul] at hO
  obtain ⟨u, hu⟩ : ∃ u, us[i]? = some u := ⟨us[i], by simp⟩
  have his1 := q1.isSome (by simp; omega)
  repeat (any_goals (
    conv => whnf
    first
    | ((with_reducible intro w3 e3); have z3 := cutLe e3; replace hO := hO.e0 e3)
    | ((with_reducible refine DRAW.plan (id := 2) (.one 0 (.one 1 (.one 2 (.one 3 (.one 4 (.one 6 (.one 7 (.one 8 (.start (.alt 5 (.start (.alt 9 (.start (.alt 10 (.one 11 (.start (.alt 12 .done .stop))) .stop)) .stop)) (.alt 9 (.start (.alt 5 (.start (.alt 10 (.one 11 (.start (.alt 12 .done .stop))) .stop)) .stop)) .stop))))))))))) ?_ ?_ ?_ ?_); kernel_rfl; kernel_rfl; kernel_rfl)
    | (with_reducible refine And.intro ?_ ?_)
    | (exact True.intro)
    | ((with_reducible refine OBL.mk ?_ (fun _ => ?_)); exact ⟨by omega, by omega, by first | exact his | exact his1⟩)
    | ((with_reducible refine ELD.at (i) hr ?_ ?_ ?_ (fun x' hx' => ?_)); exact mAddr_Non _; (first | rfl | omega); exact hlt1; obtain rfl : x = x' := by (rw [hx] at hx'; exact Option.some.inj hx'))
    | ((with_reducible refine ELD.at (k) hr ?_ ?_ ?_ (fun x' hx' => ?_)); exact mAddr_Non _; (first | rfl | omega); exact hlt2; obtain rfl : y = x' := by (rw [hy] at hx'; exact Option.some.inj hx'))
    | ((with_reducible refine callY (g := 69) ?_ ?_); kernel_rfl; refine ⟨_, fun hX => merged_c x y _ ((hs x hmx).ext hX (mAddr_Non _)) ((hs y hmy).ext hX (mAddr_Non _)) hzx hzy (hc x hmx) (hc y hmy), ?_⟩; intro r5 w5 e5 h5; have z5 := cutLe e5; obtain ⟨r, rfl, hre, oR⟩ := h5)
    | ((with_reducible refine BIF.dec ?_ ?_) <;> intro _)
    | ((with_reducible refine BIF.s ?_ ?_) <;> intro _)
    | (with_reducible refine NEXTK.normal ?_)
    | (with_reducible refine NEXTK.ret ?_)
    | (with_reducible refine NEXTK.exit ?_)
    | (with_reducible refine SEQ.plain ?_)
    | (with_reducible refine hK _ _ ?_)
    | ((with_reducible refine RUNL.agg (fun _ => ?_) ?_); (focus kernel_rfl))
    | (with_reducible refine RUNL.run ?_)
    | ((with_reducible refine AR.ok ?_ ?_); exact ⟨by first | omega | (dsimp only; omega), by first | omega | (dsimp only; omega)⟩)
    | (with_reducible refine AR.wr ?_)
    | ((with_reducible intro w3 e3); try have z3 := cutLe e3)
    | ((with_reducible intro h3); have h4 := Nat.le_of_lt h3; clear h4)))
  all_goals
    conv => whnf
    have hold : ∀ t ∈ us, ∀ b, t.sl.ownBlock = some b → b < w3.heap.size := fun t ht b hb => ((hO.sub t ht).block hb).2
    replace hO := hO.e0 e5
    refine stS (i := i) hO.top rfl rfl rfl i rfl (by rw [List.getElem?_map, hu]; rfl) (by decide) (Nat.le_refl _) trivial (fun w6 e6 o6 => ?_)
    replace o6 := seg_put hu (r := r) o6
    have z6 := cutLe e6
    have hfr : ∀ t ∈ us, ∀ b, t.sl.ownBlock = some b → r.sl.ownBlock ≠ some b := fun t ht b hb hb2 => by
      have h1 := hold t ht b hb
      have h2 := (oR.block hb2).1
      omega
    have oR6 := (oR.ext e6 (fun b hb hb2 => own_ne hO.top oR (by decide) hb2 hb)).lo (lo' := w.heap.size) (by omega)
    have hO6 := hO.put hu o6 oR6 hfr e6
    have hml : (us.set i r).length = n := by rw [List.length_set]; exact hul
    repeat (any_goals (
      conv => whnf
      first
      | ((with_reducible refine BIF.dec ?_ ?_) <;> intro _)
      | ((with_reducible refine BIF.s ?_ ?_) <;> intro _)
      | (with_reducible refine NEXTK.normal ?_)
      | (with_reducible refine NEXTK.ret ?_)
      | (with_reducible refine NEXTK.exit ?_)
      | (with_reducible refine SEQ.plain ?_)
      | (with_reducible refine hK _ _ ?_)
      | ((with_reducible refine RUNL.agg (fun _ => ?_) ?_); (focus kernel_rfl))
      | (with_reducible refine RUNL.run ?_)
      | ((with_reducible refine AR.ok ?_ ?_); exact ⟨by first | omega | (dsimp only; omega), by first | omega | (dsimp only; omega)⟩)
      | (with_reducible refine AR.wr ?_)
      | ((with_reducible intro w3 e3); try have z3 := cutLe e3)
      | ((with_reducible intro h3); have h4 := Nat.le_of_lt h3; clear h4)))
    conv => whnf
    refine callM (g := 70) (by kernel_rfl) ⟨_, _, trivial, fun b hb h => hO6.top.fresh (Nat.le_refl _) b hb h, DeleteT_c _ _ _ _ k (us.set i r) _ _ _ rfl (by omega) hO6.top hml hk (by omega) (by omega), fun r7 w7 e7 o7 => ?_⟩
    have z7 := cutLe e7
    have hO7 := hO6.erase k o7 e7
    obtain ⟨b7, d7, rfl, q7, s7, p7⟩ := hO7.rowx
    obtain ⟨vs, hvs⟩ : ∃ vs, vs = (us.set i r).eraseIdx k := ⟨_, rfl⟩
    have hfin : vs.map (·.1) = mergeP (ts.map (·.1)) i k := by
      rw [hvs, map_erase_set, mergeP_at (fst_at hx) (fst_at hy), hus, hre]
    have hvz : ∀ t ∈ vs, t.1.fSeen.length ≤ 1048577 := fun t ht => by
      rw [hvs] at ht
      rcases mem_erase_set ht with rfl | ht
      · rw [hre]; simp only [mergedE, sortI_len, List.length_append, List.length_cons, List.length_nil]; omega
      · have : t.1 ∈ ts.map (·.1) := by rw [← hus]; exact List.mem_map_of_mem ht
        obtain ⟨t', h1, h2⟩ := List.mem_map.1 this
        have := hz t' h1
        rw [← h2]; omega
    have hvl : vs.length ≤ n := by rw [hvs]; have := List.length_eraseIdx_le (us.set i r) k; omega
    rw [← hvs] at hO7 q7 s7 p7 ⊢
    repeat (any_goals (
      conv => whnf
      first
      | ((with_reducible refine callF (g := 19) ?_ ?_); kernel_rfl; refine ⟨_, AreEntries_c _ _ _ vs _ q7 s7 rfl (by omega) p7 hvz, ?_⟩; intro w8 e8; have z8 := cutLe e8; replace hO7 := hO7.e0 e8)
      | ((with_reducible refine BIF.dec ?_ ?_) <;> intro _)
      | ((with_reducible refine BIF.s ?_ ?_) <;> intro _)
      | (with_reducible refine NEXTK.normal ?_)
      | (with_reducible refine NEXTK.ret ?_)
      | (with_reducible refine NEXTK.exit ?_)
      | (with_reducible refine SEQ.plain ?_)
      | (with_reducible refine hK _ _ ?_)
      | ((with_reducible refine RUNL.agg (fun _ => ?_) ?_); (focus kernel_rfl))
      | (with_reducible refine RUNL.run ?_)
      | ((with_reducible refine AR.ok ?_ ?_); exact ⟨by first | omega | (dsimp only; omega), by first | omega | (dsimp only; omega)⟩)
      | (with_reducible refine AR.wr ?_)
      | ((with_reducible intro w3 e3); try have z3 := cutLe e3)
      | ((with_reducible intro h3); have h4 := Nat.le_of_lt h3; clear h4)))
    intro hx'
    rw [← hfin]
    exact ⟨_, rfl, hx', _, vs, rfl, rfl, hO7⟩

end Go.Proofs.YtpddilkonkkppaaGreatDoor
