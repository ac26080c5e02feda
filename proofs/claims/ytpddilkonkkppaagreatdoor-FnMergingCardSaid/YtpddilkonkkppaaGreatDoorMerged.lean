/- Two entries made one. -/
import Derived.Test.YtpddilkonkkppaaGreatDoorRows
import Derived.Test.YtpddilkonkkppaaGreatDoorGrow
import Derived.Test.YtpddilkonkkppaaGreatDoorCut
namespace Go.Proofs.YtpddilkonkkppaaGreatDoor
open Go Go.X Go.Proofs Go.ChangeShapes Go.WideShapes Go.ChangeAt Go.RowKit
open Go.ChangeMaps (open_string shut_string)
set_option maxHeartbeats 1000000
set_option maxRecDepth 20000
set_option linter.unusedVariables false
set_option linter.unusedSimpArgs false
theorem Or_c (a : Option Addr) (x y : Int) (cp : Nat) (w : World) (hr : Row w a 1 ([x, y].map encI)) :
    Calls Tryz.prog 92 #[.slice a 2 cp] w fun e w' => e = .returned (.int .i64 (if x = 0 then y else x)) ∧ E0 w w' := by
  refine enterK Non 18 Tryz.func92 rfl rfl rfl fun K hK => ?_
  have his := hr.isSome (by simp)
  conv => whnf
  repeat (first | ((with_reducible refine NEXTK.normal ?_); conv => whnf) | ((with_reducible refine NEXTK.exit ?_); conv => whnf) | ((with_reducible refine NEXTK.ret ?_); conv => whnf) | ((with_reducible refine SEQ.plain ?_); conv => whnf) | ((with_reducible refine AR.ok ?_ ?_); exact ⟨by omega, by omega⟩; conv => whnf))
  refine LOOP.mk Nat (fun k => [(8, .v (.int .i64 k))]) (fun k _ => k ≤ 2 ∧ (1 ≤ k → x = 0) ∧ (2 ≤ k → y = 0)) (fun k => 2 - k) 0 rfl ⟨rfl, trivial⟩ ⟨by omega, fun h => by omega, fun h => by omega⟩ ?_
  rintro k wr - ⟨hk, h1, h2⟩
  conv => whnf
  repeat (first | ((with_reducible refine NEXTK.normal ?_); conv => whnf) | ((with_reducible refine NEXTK.exit ?_); conv => whnf) | ((with_reducible refine NEXTK.ret ?_); conv => whnf) | ((with_reducible refine SEQ.plain ?_); conv => whnf) | ((with_reducible refine AR.ok ?_ ?_); exact ⟨by omega, by omega⟩; conv => whnf))
  refine BIF.dec (fun hlt => ?_) (fun hlt => ?_)
  · have hlt' : k < ([x, y] : List Int).length := by show k < 2; omega
    obtain ⟨v, hv⟩ : ∃ v, ([x, y] : List Int)[k]? = some v := ⟨_, List.getElem?_eq_getElem hlt'⟩
    repeat (any_goals (
      conv => whnf
      first
      | ((with_reducible refine OBL.mk ?_ (fun _ => ?_)); exact ⟨by first | omega | (dsimp only; omega), by first | omega | (dsimp only; omega), his⟩)
      | ((with_reducible refine ELD.at (k) hr ?_ ?_ ?_ (fun x' hx' => ?_)); exact mAddr_Non _; (first | rfl | omega); exact hlt'; obtain rfl : v = x' := by (rw [hv] at hx'; exact Option.some.inj hx'))
      | ((with_reducible refine BIF.bne ?_ ?_) <;> intro _)
      | ((with_reducible refine BIF.dec ?_ ?_) <;> intro _)
      | ((with_reducible refine BIF.s ?_ ?_) <;> intro _)
      | (with_reducible refine NEXTK.normal ?_)
      | (with_reducible refine NEXTK.ret ?_)
      | (with_reducible refine NEXTK.exit ?_)
      | (with_reducible refine SEQ.plain ?_)
      | (with_reducible refine hK _ _ ?_)
      | ((with_reducible refine RUNL.agg (fun _ => ?_) ?_); (focus kernel_rfl))
      | (with_reducible refine RUNL.run ?_)
      | ((with_reducible refine AR.ok ?_ ?_); exact ⟨by first | omega | (dsimp only; omega), by first | omega | (dsimp only; omega)⟩)
      | (with_reducible refine AR.wr ?_)
      | ((with_reducible intro w3 e3); try have z3 := cutLe e3)
      | ((with_reducible intro h3); have h4 := Nat.le_of_lt h3; clear h4)))
    · intro hx
      refine ⟨?_, hx⟩
      rcases (by omega : k = 0 ∨ k = 1) with h | h
      · subst h
        simp at hv; subst hv
        rw [if_neg (by assumption)]; rfl
      · subst h
        simp at hv; subst hv
        rw [if_pos (h1 (by omega))]; rfl
    · refine ⟨k + 1, rfl, ⟨rfl, trivial⟩, rfl, rfl, ⟨by omega, fun _ => ?_, fun _ => ?_⟩, by omega⟩
      · rcases (by omega : k = 0 ∨ k = 1) with h | h
        · subst h; simp at hv; subst hv; assumption
        · exact h1 (by omega)
      · obtain rfl : k = 1 := by omega
        simp at hv; subst hv; assumption
  · repeat (any_goals (
      conv => whnf
      first
      | ((with_reducible refine BIF.dec ?_ ?_) <;> intro _)
      | ((with_reducible refine BIF.s ?_ ?_) <;> intro _)
      | (with_reducible refine NEXTK.normal ?_)
      | (with_reducible refine NEXTK.ret ?_)
      | (with_reducible refine NEXTK.exit ?_)
      | (with_reducible refine SEQ.plain ?_)
      | (with_reducible refine hK _ _ ?_)
      | ((with_reducible refine RUNL.agg (fun _ => ?_) ?_); (focus kernel_rfl))
      | (with_reducible refine RUNL.run ?_)
      | ((with_reducible refine AR.ok ?_ ?_); exact ⟨by first | omega | (dsimp only; omega), by first | omega | (dsimp only; omega)⟩)
      | (with_reducible refine AR.wr ?_)
      | ((with_reducible intro w3 e3); try have z3 := cutLe e3)
      | ((with_reducible intro h3); have h4 := Nat.le_of_lt h3; clear h4)))
    intro hx
    refine ⟨?_, hx⟩
    rw [if_pos (h1 (by omega)), h2 (by omega)]; rfl
def zeroL : List Value := [.slice none 0 0]
theorem elemL : ElemT Tryz.prog 104 44 1 24 zeroL := ElemT.mk' (by kernel_rfl) (by kernel_rfl)
def mergedE (x y : Ent) : Ent := ⟨x.fId, x.fTitle, if x.fPlace = ByteArray.empty then y.fPlace else x.fPlace, if x.fYear = 0 then y.fYear else x.fYear, x.fCount + y.fCount, sortI (x.fSeen ++ y.fSeen ++ [y.fId])⟩
theorem merged_c (t u : Tri) (w : World) (hr : Row w t.2.1 1 (t.1.fSeen.map encI)) (hs : Row w u.2.1 1 (u.1.fSeen.map encI)) (hm : t.1.fSeen.length ≤ 1000) (hm2 : u.1.fSeen.length ≤ 1000) (hc : 0 ≤ t.1.fCount ∧ t.1.fCount ≤ 1000000) (hc2 : 0 ≤ u.1.fCount ∧ u.1.fCount ≤ 1000000) :
    Calls Tryz.prog 69 #[.agg (encT t).toArray, .agg (encT u).toArray] w fun e w' => ∃ v, e = .returned v ∧ E0 w w' ∧ ∃ r : Tri, v = .agg (encT r).toArray ∧ r.1 = mergedE t.1 u.1 ∧ Own w' w.heap.size 3 1 r.sl (r.1.fSeen.map encI) := by
  refine enterK Non 43 Tryz.func69 rfl rfl rfl fun K hK => ?_
  repeat (any_goals (
    conv => whnf
    first
    | ((with_reducible refine BIF.dec ?_ ?_) <;> intro _)
    | ((with_reducible refine BIF.s ?_ ?_) <;> intro _)
    | (with_reducible refine NEXTK.normal ?_)
    | (with_reducible refine NEXTK.ret ?_)
    | (with_reducible refine NEXTK.exit ?_)
    | (with_reducible refine SEQ.plain ?_)
    | (with_reducible refine hK _ _ ?_)
    | ((with_reducible refine RUNL.agg (fun _ => ?_) ?_); (focus kernel_rfl))
    | (with_reducible refine RUNL.run ?_)
    | ((with_reducible refine AR.ok ?_ ?_); exact ⟨by first | omega | (dsimp only; omega), by first | omega | (dsimp only; omega)⟩)
    | (with_reducible refine AR.wr ?_)
    | ((with_reducible intro w3 e3); try have z3 := cutLe e3)
    | ((with_reducible intro h3); have h4 := Nat.le_of_lt h3; clear h4)))
  conv => whnf
  refine DRAW.cut Nat (fun _ => [(5, .bx 3 0)]) (fun _ => []) (fun g => [⟨g, [.int .i64 t.1.fId, .string t.1.fTitle, .string (if t.1.fPlace = ByteArray.empty then u.1.fPlace else t.1.fPlace), .int .i64 (if t.1.fYear = 0 then u.1.fYear else t.1.fYear), .int .i64 (t.1.fCount + u.1.fCount), .slice none 0 0], 46⟩]) (fun g wr => w3.heap.size ≤ g ∧ g < wr.heap.size) ?_ ?_
  · (with_reducible refine DRAW.held (id := 1) (Non) [0, 1, 2, 3, 4, 5, 6, 7, 10, 11, 12, 13, 16, 17, 18, 19, 20] (.start (.alt 8 (.start (.alt 9 (.start (.alt 14 (.start (.alt 15 (.one 21 (.start (.alt 22 (.start (.alt 23 .done .stop)) .stop))) (.alt 22 (.start (.alt 15 (.one 21 (.start (.alt 23 .done .stop))) .stop)) .stop))) (.alt 22 (.start (.alt 14 (.start (.alt 15 (.one 21 (.start (.alt 23 .done .stop))) .stop)) .stop)) .stop))) (.alt 14 (.start (.alt 9 (.start (.alt 15 (.one 21 (.start (.alt 22 (.start (.alt 23 .done .stop)) .stop))) (.alt 22 (.start (.alt 15 (.one 21 (.start (.alt 23 .done .stop))) .stop)) .stop))) (.alt 22 (.start (.alt 9 (.start (.alt 15 (.one 21 (.start (.alt 23 .done .stop))) .stop)) .stop)) .stop))) (.alt 22 (.start (.alt 9 (.start (.alt 14 (.start (.alt 15 (.one 21 (.start (.alt 23 .done .stop))) .stop)) .stop)) (.alt 14 (.start (.alt 9 (.start (.alt 15 (.one 21 (.start (.alt 23 .done .stop))) .stop)) .stop)) .stop))) .stop)))) (.alt 14 (.start (.alt 8 (.start (.alt 9 (.start (.alt 15 (.one 21 (.start (.alt 22 (.start (.alt 23 .done .stop)) .stop))) (.alt 22 (.start (.alt 15 (.one 21 (.start (.alt 23 .done .stop))) .stop)) .stop))) (.alt 22 (.start (.alt 9 (.start (.alt 15 (.one 21 (.start (.alt 23 .done .stop))) .stop)) .stop)) .stop))) (.alt 22 (.start (.alt 8 (.start (.alt 9 (.start (.alt 15 (.one 21 (.start (.alt 23 .done .stop))) .stop)) .stop)) .stop)) .stop))) (.alt 22 (.start (.alt 8 (.start (.alt 9 (.start (.alt 14 (.start (.alt 15 (.one 21 (.start (.alt 23 .done .stop))) .stop)) .stop)) (.alt 14 (.start (.alt 9 (.start (.alt 15 (.one 21 (.start (.alt 23 .done .stop))) .stop)) .stop)) .stop))) (.alt 14 (.start (.alt 8 (.start (.alt 9 (.start (.alt 15 (.one 21 (.start (.alt 23 .done .stop))) .stop)) .stop)) .stop)) .stop))) .stop)))) ?_ ?_ ?_ ?_); kernel_rfl; kernel_rfl; kernel_rfl
    intro w3 e3 hE
    have z3 := cutLe e3
    repeat (any_goals (
      conv => whnf
      first
      | ((with_reducible intro w3 e3); have z3 := cutLe e3; replace hE := hE.trans' e3 (fun k hk h => by first | exact False.elim h | exact h | (exfalso; simp only [bk] at h; omega) | (simp only [bk] at h; omega)); (try replace oB := oB.e0 e3); (try replace oD := oD.e0 e3))
      | ((with_reducible refine And.intro ?_ ?_); (focus (first | exact mAddr_Non _ | (intro h; first | exact h | (simp only [bk] at h; omega)))))
      | (with_reducible refine And.intro hE ?_)
      | ((with_reducible refine bsS elemS [.string t.1.fPlace, .string u.1.fPlace] ?_ ?_ ?_ ?_ ?_); (focus rfl); (focus rfl); (focus (intro v hv; simp at hv; rcases hv with rfl | rfl <;> rfl)); (focus omega); intro w9 e9 oB; have z9 := cutLe e9; replace oB : Own w9 _ 9 1 _ ([t.1.fPlace, u.1.fPlace].map encS) := oB; replace hE := hE.trans (Ext.of0 e9); (try replace oD := oD.e0 e9))
      | ((with_reducible refine callF (g := 91) ?_ ?_); kernel_rfl; refine ⟨_, OrS_c _ t.1.fPlace u.1.fPlace _ _ oB.row.1, ?_⟩; intro w4 e4; have z4 := cutLe e4; replace hE := hE.trans (Ext.of0 e4); (try replace oB := oB.e0 e4); (try replace oD := oD.e0 e4))
      | ((with_reducible refine bsS elemI [.int .i64 t.1.fYear, .int .i64 u.1.fYear] ?_ ?_ ?_ ?_ ?_); (focus rfl); (focus rfl); (focus (intro v hv; simp at hv; rcases hv with rfl | rfl <;> rfl)); (focus omega); intro w9 e9 oD; have z9 := cutLe e9; replace oD : Own w9 _ 3 1 _ ([t.1.fYear, u.1.fYear].map encI) := oD; replace hE := hE.trans (Ext.of0 e9); (try replace oB := oB.e0 e9))
      | ((with_reducible refine callF (g := 92) ?_ ?_); kernel_rfl; refine ⟨_, Or_c _ t.1.fYear u.1.fYear _ _ oD.row.1, ?_⟩; intro w4 e4; have z4 := cutLe e4; replace hE := hE.trans (Ext.of0 e4); (try replace oB := oB.e0 e4); (try replace oD := oD.e0 e4))
      | ((with_reducible refine RUNL.lit (.agg #[.int .i64 t.1.fId, .string t.1.fTitle, .string (if t.1.fPlace = ByteArray.empty then u.1.fPlace else t.1.fPlace), .int .i64 (if t.1.fYear = 0 then u.1.fYear else t.1.fYear), .int .i64 (t.1.fCount + u.1.fCount), .slice none 0 0]) (fun _ => ?_) ?_); (focus kernel_rfl))
      | (with_reducible refine And.intro ?_ ?_)
      | (exact True.intro)
      | ((with_reducible refine BIF.dec ?_ ?_) <;> intro _)
      | ((with_reducible refine BIF.s ?_ ?_) <;> intro _)
      | (with_reducible refine NEXTK.normal ?_)
      | (with_reducible refine NEXTK.ret ?_)
      | (with_reducible refine NEXTK.exit ?_)
      | (with_reducible refine SEQ.plain ?_)
      | (with_reducible refine hK _ _ ?_)
      | ((with_reducible refine RUNL.agg (fun _ => ?_) ?_); (focus kernel_rfl))
      | (with_reducible refine RUNL.run ?_)
      | ((with_reducible refine AR.ok ?_ ?_); exact ⟨by first | omega | (dsimp only; omega), by first | omega | (dsimp only; omega)⟩)
      | (with_reducible refine AR.wr ?_)
      | ((with_reducible intro w3 e3); try have z3 := cutLe e3)
      | ((with_reducible intro h3); have h4 := Nat.le_of_lt h3; clear h4)))
    all_goals
      refine ⟨_, ⟨rfl, trivial⟩, rfl, rfl, ?_, ?_⟩
    all_goals first | omega | (dsimp only; omega)
  · rintro g wr ⟨hg1, hg2⟩
    conv => whnf
    repeat (first | ((with_reducible refine NEXTK.normal ?_); conv => whnf) | ((with_reducible refine NEXTK.exit ?_); conv => whnf) | ((with_reducible refine NEXTK.ret ?_); conv => whnf) | ((with_reducible refine SEQ.plain ?_); conv => whnf) | ((with_reducible refine AR.ok ?_ ?_); exact ⟨by omega, by omega⟩; conv => whnf))
    obtain ⟨xs, hxs⟩ : ∃ xs, xs = t.1.fSeen ++ u.1.fSeen ++ [u.1.fId] := ⟨_, rfl⟩
    have hxl : xs.length = t.1.fSeen.length + u.1.fSeen.length + 1 := by rw [hxs]; simp; omega
    refine DRAW.cut (Option Addr × Nat) (fun _ => []) (fun v => [(3, [.int .i64 t.1.fId, .string t.1.fTitle, .string (if t.1.fPlace = ByteArray.empty then u.1.fPlace else t.1.fPlace), .int .i64 (if t.1.fYear = 0 then u.1.fYear else t.1.fYear), .int .i64 (t.1.fCount + u.1.fCount), .slice v.1 xs.length v.2])]) (fun _ => []) (fun v ws => Own ws wr.heap.size 3 1 (.slice v.1 xs.length v.2) (xs.map encI)) ?_ ?_
    · (with_reducible refine DRAW.held (id := 2) (fun k => k = g) [0, 1, 2, 3, 6, 7] (.start (.alt 4 (.start (.alt 5 (.start (.alt 8 (.start (.alt 9 (.one 10 (.start (.alt 11 .done .stop))) .stop)) .stop)) (.alt 8 (.start (.alt 5 (.start (.alt 9 (.one 10 (.start (.alt 11 .done .stop))) .stop)) .stop)) .stop))) (.alt 8 (.start (.alt 4 (.start (.alt 5 (.start (.alt 9 (.one 10 (.start (.alt 11 .done .stop))) .stop)) .stop)) .stop)) .stop))) ?_ ?_ ?_ ?_); kernel_rfl; kernel_rfl; kernel_rfl
      intro w5 e5 hE
      have z5 := cutLe e5
      repeat (any_goals (
        conv => whnf
        first
        | ((with_reducible intro w3 e3); have z3 := cutLe e3; replace hE := hE.trans' e3 (fun k hk h => by first | exact False.elim h | exact h | (exfalso; simp only [bk] at h; omega) | (simp only [bk] at h; omega)); (try replace oB := oB.e0 e3); (try replace oD := oD.e0 e3); (try replace o2 := o2.ext e3 (fun k hk h => by have := (o2.block hk).1; simp only [bk] at h; omega)))
        | ((with_reducible refine And.intro ?_ ?_); (focus (first | exact mAddr_Non _ | (intro h; first | exact h | (simp only [bk] at h; omega)))))
        | (with_reducible refine And.intro hE ?_)
        | ((with_reducible refine bsS elemL [.slice t.2.1 t.1.fSeen.length t.2.2, .slice u.2.1 u.1.fSeen.length u.2.2] ?_ ?_ ?_ ?_ ?_); (focus rfl); (focus rfl); (focus (intro v hv; simp at hv; rcases hv with rfl | rfl <;> rfl)); (focus omega); intro w9 e9 oB; have z9 := cutLe e9; replace oB : Own w9 _ 44 1 _ ([(t.1.fSeen, t.2), (u.1.fSeen, u.2)].map encL) := oB; replace hE := hE.trans (Ext.of0 e9); (try replace oD := oD.e0 e9))
        | ((with_reducible refine callY (g := 93) ?_ ?_); kernel_rfl; refine ⟨_, fun hX => ConcatI_c _ _ _ [(t.1.fSeen, t.2), (u.1.fSeen, u.2)] _ oB.row.1 rfl (by omega) (by intro y hy; simp at hy; rcases hy with rfl | rfl; exact hr.ext hX (mAddr_Non _); exact hs.ext hX (mAddr_Non _)) (by simp [catL]; omega), ?_⟩; intro r4 w4 e4 oC; have z4 := cutLe e4; replace hE := hE.trans (Ext.of0 e4); (try replace oB := oB.e0 e4); (try replace oD := oD.e0 e4); obtain ⟨bC, dC, rfl, qC, pC⟩ := oC.rowx; have oLC := fun k h => oC.block (k := k) h)
        | ((with_reducible refine bsS elemI [.int .i64 u.1.fId] ?_ ?_ ?_ ?_ ?_); (focus rfl); (focus rfl); (focus (intro v hv; simp at hv; subst hv; rfl)); (focus omega); intro w9 e9 oD; have z9 := cutLe e9; replace hE := hE.trans (Ext.of0 e9); (try replace oB := oB.e0 e9); (try replace oC := oC.e0 e9))
        | ((with_reducible refine apS (ns := [encI u.1.fId]) elemI oC ?_ ?_ ?_ ?_ ?_ ?_ (fun v2 w2 x2 o2 => ?_)); (focus exact oD.row.1); (focus rfl); (focus (intro l hl; simp at hl; subst hl; rfl)); (focus exact ⟨by simp [catL]; omega, by simp [catL]; omega⟩); (focus exact ⟨by show w.heap.size ≤ _; omega, by omega⟩); (focus exact (by repeat (first | exact trivial | (refine ⟨?_, ?_⟩; (focus (intro h; have hh := oLC _ h; dsimp only at hh; omega)))))); have z2 := cutLe x2; replace hE := hE.trans' x2 (fun k hk h => by have := (oLC k h).1; omega); replace o2 : Own w2 wr.heap.size 3 1 v2 (xs.map encI) := (by rw [hxs]; simpa [catL] using o2.lo (lo' := wr.heap.size) (by omega)); obtain ⟨b2, d2, rfl, q2, p2⟩ := o2.rowx)
        | (with_reducible refine And.intro ?_ ?_)
        | (exact True.intro)
        | ((with_reducible refine BIF.dec ?_ ?_) <;> intro _)
        | ((with_reducible refine BIF.s ?_ ?_) <;> intro _)
        | (with_reducible refine NEXTK.normal ?_)
        | (with_reducible refine NEXTK.ret ?_)
        | (with_reducible refine NEXTK.exit ?_)
        | (with_reducible refine SEQ.plain ?_)
        | (with_reducible refine hK _ _ ?_)
        | ((with_reducible refine RUNL.agg (fun _ => ?_) ?_); (focus kernel_rfl))
        | (with_reducible refine RUNL.run ?_)
        | ((with_reducible refine AR.ok ?_ ?_); exact ⟨by first | omega | (dsimp only; omega), by first | omega | (dsimp only; omega)⟩)
        | (with_reducible refine AR.wr ?_)
        | ((with_reducible intro w3 e3); try have z3 := cutLe e3)
        | ((with_reducible intro h3); have h4 := Nat.le_of_lt h3; clear h4)))
      all_goals exact ⟨(b2, d2), trivial, rfl, rfl, o2⟩
    · rintro ⟨a2, c2⟩ w2 o2
      simp only at o2
      dsimp only
      have oL2 := fun k h => o2.block (k := k) h
      repeat (any_goals (
        conv => whnf
        first
        | ((with_reducible refine BIF.dec ?_ ?_) <;> intro _)
        | ((with_reducible refine BIF.s ?_ ?_) <;> intro _)
        | (with_reducible refine NEXTK.normal ?_)
        | (with_reducible refine NEXTK.ret ?_)
        | (with_reducible refine NEXTK.exit ?_)
        | (with_reducible refine SEQ.plain ?_)
        | (with_reducible refine hK _ _ ?_)
        | ((with_reducible refine RUNL.agg (fun _ => ?_) ?_); (focus kernel_rfl))
        | (with_reducible refine RUNL.run ?_)
        | ((with_reducible refine AR.ok ?_ ?_); exact ⟨by first | omega | (dsimp only; omega), by first | omega | (dsimp only; omega)⟩)
        | (with_reducible refine AR.wr ?_)
        | ((with_reducible intro w3 e3); try have z3 := cutLe e3)
        | ((with_reducible intro h3); have h4 := Nat.le_of_lt h3; clear h4)))
      conv => whnf
      refine callM (g := 94) (by kernel_rfl) ⟨_, _, (by repeat (first | exact trivial | (refine ⟨?_, ?_⟩; (focus (intro h; have hh := oL2 _ h; dsimp only at hh; omega))))), fun b hb h => o2.fresh (by omega) b hb h, SortI_c _ _ _ _ xs _ o2 rfl (by omega), fun r w6 e6 h => ?_⟩
      obtain ⟨rfl, o6⟩ := h
      have oL6 := fun k h => o6.block (k := k) h
      repeat (any_goals (
        conv => whnf
        first
        | ((with_reducible intro w3 e3); have z3 := cutLe e3; replace o6 := o6.ext e3 (by first | exact fun _ _ h => h | (intro k hk h; have hh := oL6 k hk; simp only [bk] at h; omega)))
        | ((with_reducible refine BIF.dec ?_ ?_) <;> intro _)
        | ((with_reducible refine BIF.s ?_ ?_) <;> intro _)
        | (with_reducible refine NEXTK.normal ?_)
        | (with_reducible refine NEXTK.ret ?_)
        | (with_reducible refine NEXTK.exit ?_)
        | (with_reducible refine SEQ.plain ?_)
        | (with_reducible refine hK _ _ ?_)
        | ((with_reducible refine RUNL.agg (fun _ => ?_) ?_); (focus kernel_rfl))
        | (with_reducible refine RUNL.run ?_)
        | ((with_reducible refine AR.ok ?_ ?_); exact ⟨by first | omega | (dsimp only; omega), by first | omega | (dsimp only; omega)⟩)
        | (with_reducible refine AR.wr ?_)
        | ((with_reducible intro w3 e3); try have z3 := cutLe e3)
        | ((with_reducible intro h3); have h4 := Nat.le_of_lt h3; clear h4)))
      intro hx'
      have hsl : (mergedE t.1 u.1).fSeen = sortI xs := by rw [hxs]; rfl
      have hsl2 : (mergedE t.1 u.1).fSeen.length = xs.length := by rw [hsl, sortI_len]
      refine ⟨_, rfl, hx', (mergedE t.1 u.1, a2, c2), ?_, rfl, ?_⟩
      · simp only [encT, hsl2]; rfl
      · replace o6 := o6.lo (lo' := w.heap.size) (by omega)
        refine Eq.subst (motive := fun z => Own _ _ _ _ (.slice a2 z.length c2) (z.map encI)) hsl.symm ?_
        rw [sortI_len]; exact o6

end Go.Proofs.YtpddilkonkkppaaGreatDoor
