/- CountWorks, and AddRepair and GradeOf of the specification. -/
import Derived.Test.YtgopcppegjhmiaaDoorRows
import Derived.Test.YtgopcppegjhmiaaDoorRep9
namespace Go.Proofs.YtgopcppegjhmiaaDoor
open Go Go.X Go.Proofs Go.ChangeShapes Go.WideShapes Go.ChangeAt Go.RowKit
open Go.ChangeMaps (open_string shut_string)
set_option maxHeartbeats 1000000
set_option maxRecDepth 20000
set_option linter.unusedVariables false
set_option linter.unusedSimpArgs false
theorem AddRepairS_c (a b : Option Addr) (n c m d : Nat) (xs : List Dmg) (ys : List Rep) (r : Rep) (w : World) (hr : Row w a 4 (xs.map encDmg)) (hs : Row w b 3 (ys.map encRep)) (hn : xs.length = n) (hm : ys.length = m) (hn1 : n ≤ 1048577) (hm1 : m ≤ 1048577) (hc : m ≤ d ∧ d < 9223372036854775808) :
    Calls Tryd.prog 7 #[.slice a n c, .slice b m d, .agg (encRep r).toArray] w fun e w' => ∃ v, e = .returned v ∧ E0 w w' ∧ ∃ s, v = .tuple #[s, .bool (addP xs ys r).2] ∧ Own w' w.heap.size 27 3 s ((addP xs ys r).1.map encRep) := by
  refine enterK Non 27 Tryd.func7 rfl rfl rfl fun K hK => ?_
  obtain ⟨sX, hsX⟩ : ∃ sX, sX = w.heap.size + 1 := ⟨_, rfl⟩
  repeat (any_goals (
    conv => whnf
    first
    | ((with_reducible refine DRAW.plan (id := 1) (.one 1 (.start (.alt 0 (.start (.alt 2 (.start (.alt 3 (.start (.alt 4 (.start (.alt 5 (.one 6 .done) .stop)) .stop)) .stop)) (.alt 3 (.start (.alt 2 (.start (.alt 4 (.start (.alt 5 (.one 6 .done) .stop)) .stop)) (.alt 4 (.start (.alt 2 (.start (.alt 5 (.one 6 .done) .stop)) .stop)) .stop))) .stop))) (.alt 3 (.start (.alt 0 (.start (.alt 2 (.start (.alt 4 (.start (.alt 5 (.one 6 .done) .stop)) .stop)) (.alt 4 (.start (.alt 2 (.start (.alt 5 (.one 6 .done) .stop)) .stop)) .stop))) (.alt 4 (.start (.alt 0 (.start (.alt 2 (.start (.alt 5 (.one 6 .done) .stop)) .stop)) .stop)) .stop))) .stop)))) ?_ ?_ ?_ ?_); kernel_rfl; kernel_rfl; kernel_rfl)
    | (with_reducible refine And.intro ?_ ?_)
    | (exact True.intro)
    | ((with_reducible refine bsS elemRep [] rfl rfl (by simp) (by omega) (fun w9 e9 oC => ?_)); have z9 := cutLe e9; (try have apBC := oB.apart oC); (try replace oB := oB.e0 e9))
    | ((with_reducible refine bsS elemRep [.agg (encRep r).toArray] ?_ ?_ ?_ ?_ ?_); (focus rfl); (focus rfl); (focus (intro v hv; simp at hv; subst hv; rfl)); (focus omega); intro w9 e9 oB; have z9 := cutLe e9; (try have apCB := oC.apart oB); (try replace oC := oC.e0 e9); (try replace o2 := o2.e0 e9))
    | ((with_reducible refine WOP.x (fun hX => ?_)); (with_reducible refine apS (ns := (ys).map encRep) elemRep oC ?_ ?_ ?_ ?_ ?_ ?_ (fun v2 w2 x2 o2 => ?_)); (focus exact hs.ext hX (mAddr_Non _)); (focus (simp; omega)); (focus exact (by intro l hl; obtain ⟨x, -, rfl⟩ := List.mem_map.1 hl; rfl)); (focus exact ⟨by simp; omega, by simp; omega⟩); (focus exact ⟨(by show w.heap.size ≤ _; omega), by omega⟩); (focus exact ⟨fun h => by have := (oC.block h).1; dsimp only at this; omega, trivial⟩); clear hX; have z2 := cutLe x2; (try replace oB := oB.past x2 (by first | exact apBC | exact ne_symm' apCB)); replace o2 : Own w2 sX 27 3 v2 ((ys).map encRep) := (by simpa using o2.lo (by omega)); obtain ⟨b2, d2, rfl, q2, p2⟩ := o2.rowx)
    | ((with_reducible refine apS (ns := [encRep r]) elemRep o2 ?_ ?_ ?_ ?_ ?_ ?_ (fun v5 w5 x5 o5 => ?_)); (focus exact oB.row.1); (focus rfl); (focus (intro l hl; simp at hl; subst hl; rfl)); (focus exact ⟨by simp; omega, by simp; omega⟩); (focus exact ⟨by show w.heap.size ≤ _; omega, by omega⟩); (focus exact ⟨fun h => by have := (o2.block h).1; dsimp only at this; omega, trivial⟩); have z5 := cutLe x5; clear o2; replace o5 : Own w5 w.heap.size 27 3 v5 ((ys ++ [(r : Rep)]).map encRep) := (by simpa using o5.lo (lo' := w.heap.size) (by omega)))
    | ((with_reducible refine BIF.dec ?_ ?_) <;> intro _)
    | ((with_reducible refine BIF.s ?_ ?_) <;> intro _)
    | (with_reducible refine NEXTK.normal ?_)
    | (with_reducible refine NEXTK.ret ?_)
    | (with_reducible refine NEXTK.exit ?_)
    | (with_reducible refine SEQ.plain ?_)
    | (with_reducible refine hK _ _ ?_)
    | ((with_reducible refine RUNL.agg (fun _ => ?_) ?_); (focus kernel_rfl))
    | (with_reducible refine RUNL.run ?_)
    | ((with_reducible refine AR.ok ?_ ?_); exact ⟨by first | omega | (dsimp only; omega), by first | omega | (dsimp only; omega)⟩)
    | (with_reducible refine AR.wr ?_)
    | ((with_reducible intro w3 e3); try have z3 := cutLe e3)
    | ((with_reducible intro h3); have h4 := Nat.le_of_lt h3; clear h4)))
  all_goals
    obtain ⟨zs, hzs⟩ : ∃ zs, zs = ys ++ [r] := ⟨_, rfl⟩
    have hzl : zs.length = m + 1 := by rw [hzs]; simp; omega
    rw [← hzs] at o5
    obtain ⟨b5, d5, rfl, q5, p5⟩ := o5.rowx
    repeat (any_goals (
      conv => whnf
      first
      | ((with_reducible refine callX (g := 33) ?_ ?_); kernel_rfl; intro hX; refine ⟨_, l22Good_c _ _ _ _ _ _ xs ys _ (hr.ext hX (mAddr_Non _)) (hs.ext hX (mAddr_Non _)) hn hm (by omega) (by omega) hc, ?_⟩; intro w4 e4; have z4 := cutLe e4; clear hX ; replace o5 := o5.e0 e4)
      | ((with_reducible refine callX (g := 33) ?_ ?_); kernel_rfl; intro hX; refine ⟨_, l22Good_c _ _ _ _ _ _ xs zs _ (hr.ext hX (mAddr_Non _)) o5.row.1 hn rfl (by omega) (by omega) p5, ?_⟩; intro w4 e4; have z4 := cutLe e4; clear hX ; replace o5 := o5.e0 e4)
      | ((with_reducible refine BIF.s (fun (h1 : areR xs ys = true) => ?_) (fun h1 => ?_)))
      | ((with_reducible refine BIF.s (fun (h2 : areR xs zs = true) => ?_) (fun h2 => ?_)))
      | ((with_reducible refine bsS elemRep [] rfl rfl (by simp) (by omega) (fun w9 e9 o9 => ?_)); have z9 := cutLe e9)
      | ((with_reducible refine BIF.dec ?_ ?_) <;> intro _)
      | ((with_reducible refine BIF.s ?_ ?_) <;> intro _)
      | (with_reducible refine NEXTK.normal ?_)
      | (with_reducible refine NEXTK.ret ?_)
      | (with_reducible refine NEXTK.exit ?_)
      | (with_reducible refine SEQ.plain ?_)
      | (with_reducible refine hK _ _ ?_)
      | ((with_reducible refine RUNL.agg (fun _ => ?_) ?_); (focus kernel_rfl))
      | (with_reducible refine RUNL.run ?_)
      | ((with_reducible refine AR.ok ?_ ?_); exact ⟨by first | omega | (dsimp only; omega), by first | omega | (dsimp only; omega)⟩)
      | (with_reducible refine AR.wr ?_)
      | ((with_reducible intro w3 e3); try have z3 := cutLe e3)
      | ((with_reducible intro h3); have h4 := Nat.le_of_lt h3; clear h4)))
    all_goals
      intro hx'
      first
      | (have hf : addP xs ys r = ([], false) := by rw [hzs] at *; simp_all [addP]
         rw [hf]; exact ⟨_, rfl, hx', _, rfl, (by clear hx'; repeat (first | exact o9 | exact o9.lo (by omega) | refine Own.e0 ?_ (by assumption)))⟩)
      | (have hf : addP xs ys r = (zs, true) := by rw [hzs] at *; simp_all [addP]
         rw [hf]; exact ⟨_, rfl, hx', _, rfl, (by clear hx'; repeat (first | exact o5 | exact o5.lo (by omega) | refine Own.e0 ?_ (by assumption)))⟩)
theorem GradeOfS_c (x : Dmg) (w : World) : Calls Tryd.prog 24 #[.agg (encDmg x).toArray] w fun e w' => e = .returned (.tuple #[.int .i64 (if okD x then gradeD x else 0), .bool (okD x)]) ∧ E0 w w' := by
  refine enterK Non 9 Tryd.func24 rfl rfl rfl fun K hK => ?_
  cases g1 : okD x with
  | true =>
    repeat (any_goals (
      conv => whnf
      first
      | ((with_reducible refine callF (g := 50) ?_ ?_); kernel_rfl; refine ⟨_, l22One_c _ _, ?_⟩; intro w4 e4; have z4 := cutLe e4)
      | ((with_reducible refine BIF.s (fun h => absurd h ?_) (fun _ => ?_)); focus (simp [g1]; done))
      | ((with_reducible refine BIF.s (fun _ => ?_) (fun h => absurd h ?_)); rotate_left; focus (simp [g1]; done))
      | ((with_reducible refine callF (g := 42) ?_ ?_); kernel_rfl; refine ⟨_, l22Grade_c _ _ g1, ?_⟩; intro w4 e4; have z4 := cutLe e4)
      | ((with_reducible refine BIF.dec ?_ ?_) <;> intro _)
      | ((with_reducible refine BIF.s ?_ ?_) <;> intro _)
      | (with_reducible refine NEXTK.normal ?_)
      | (with_reducible refine NEXTK.ret ?_)
      | (with_reducible refine NEXTK.exit ?_)
      | (with_reducible refine SEQ.plain ?_)
      | (with_reducible refine hK _ _ ?_)
      | ((with_reducible refine RUNL.agg (fun _ => ?_) ?_); (focus kernel_rfl))
      | (with_reducible refine RUNL.run ?_)
      | ((with_reducible refine AR.ok ?_ ?_); exact ⟨by first | omega | (dsimp only; omega), by first | omega | (dsimp only; omega)⟩)
      | (with_reducible refine AR.wr ?_)
      | ((with_reducible intro w3 e3); try have z3 := cutLe e3)
      | ((with_reducible intro h3); have h4 := Nat.le_of_lt h3; clear h4)))
    intro hx
    refine ⟨?_, hx⟩
    rw [g1]; first | rfl | (simp [resV]; rfl)
  | false =>
    repeat (any_goals (
      conv => whnf
      first
      | ((with_reducible refine callF (g := 50) ?_ ?_); kernel_rfl; refine ⟨_, l22One_c _ _, ?_⟩; intro w4 e4; have z4 := cutLe e4)
      | ((with_reducible refine BIF.s (fun h => absurd h ?_) (fun _ => ?_)); focus (simp [g1]; done))
      | ((with_reducible refine BIF.s (fun _ => ?_) (fun h => absurd h ?_)); rotate_left; focus (simp [g1]; done))
      | ((with_reducible refine BIF.dec ?_ ?_) <;> intro _)
      | ((with_reducible refine BIF.s ?_ ?_) <;> intro _)
      | (with_reducible refine NEXTK.normal ?_)
      | (with_reducible refine NEXTK.ret ?_)
      | (with_reducible refine NEXTK.exit ?_)
      | (with_reducible refine SEQ.plain ?_)
      | (with_reducible refine hK _ _ ?_)
      | ((with_reducible refine RUNL.agg (fun _ => ?_) ?_); (focus kernel_rfl))
      | (with_reducible refine RUNL.run ?_)
      | ((with_reducible refine AR.ok ?_ ?_); exact ⟨by first | omega | (dsimp only; omega), by first | omega | (dsimp only; omega)⟩)
      | (with_reducible refine AR.wr ?_)
      | ((with_reducible intro w3 e3); try have z3 := cutLe e3)
      | ((with_reducible intro h3); have h4 := Nat.le_of_lt h3; clear h4)))
    intro hx
    refine ⟨?_, hx⟩
    rw [g1]; first | rfl | (simp [resV]; rfl)
def cntK (ys : List Rep) (k : Int) : Int := (ys.countP fun r => decide (r.fWork = k) : Nat)
def cntsL (ys : List Rep) : List Int := [cntK ys 1, cntK ys 2, cntK ys 3, cntK ys 4]
def countP' (xs : List Dmg) (ys : List Rep) : List Int × Bool := if areR xs ys then (cntsL ys, true) else ([], false)
theorem cntK_take {ys : List Rep} {k : Nat} {r : Rep} (h : ys[k]? = some r) (v : Int) : cntK (ys.take (k + 1)) v = cntK (ys.take k) v + (if r.fWork = v then 1 else 0) := by
  unfold cntK
  rw [List.take_add_one, h, List.countP_append]
  simp only [Option.toList_some, List.countP_cons, List.countP_nil]
  split <;> simp_all
theorem cntK_bnd (ys : List Rep) (v : Int) : 0 ≤ cntK ys v ∧ cntK ys v ≤ ys.length := by
  unfold cntK
  have := List.countP_le_length (p := fun r : Rep => decide (r.fWork = v)) (l := ys)
  omega
theorem cnts_get {ys : List Rep} {i : Int} (h : 1 ≤ i ∧ i ≤ 4) : ((cntsL ys).map encI)[(i - 1).toNat]? = some (encI (cntK ys i)) := by
  have : i = 1 ∨ i = 2 ∨ i = 3 ∨ i = 4 := by omega
  rcases this with rfl | rfl | rfl | rfl <;> rfl
theorem cnts_set {ys : List Rep} {k : Nat} {r : Rep} (h : ys[k]? = some r) (h4 : 1 ≤ r.fWork ∧ r.fWork ≤ 4) :
    ((cntsL (ys.take k)).map encI).set (r.fWork - 1).toNat [.int .i64 (cntK (ys.take k) r.fWork + 1)] = (cntsL (ys.take (k + 1))).map encI := by
  have c1 := cntK_take h 1
  have c2 := cntK_take h 2
  have c3 := cntK_take h 3
  have c4 := cntK_take h 4
  unfold cntsL
  rw [c1, c2, c3, c4]
  have : r.fWork = 1 ∨ r.fWork = 2 ∨ r.fWork = 3 ∨ r.fWork = 4 := by omega
  rcases this with e | e | e | e <;> rw [e] <;> simp [encI]
theorem countP'_len (xs : List Dmg) (ys : List Rep) : (countP' xs ys).1.length ≤ 4 := by
  unfold countP'
  split <;> simp [cntsL]
theorem CountWorks_c (a b : Option Addr) (n c m d : Nat) (xs : List Dmg) (ys : List Rep) (w : World) (hr : Row w a 4 (xs.map encDmg)) (hs : Row w b 3 (ys.map encRep)) (hn : xs.length = n) (hm : ys.length = m) (hn1 : n ≤ 4611686018427387904) (hm1 : m ≤ 4611686018427387904) (hc : m ≤ d ∧ d < 9223372036854775808) :
    Calls Tryd.prog 9 #[.slice a n c, .slice b m d] w fun e w' => ∃ v, e = .returned v ∧ E0 w w' ∧ ∃ s, v = .tuple #[s, .bool (countP' xs ys).2] ∧ Own w' w.heap.size 3 1 s ((countP' xs ys).1.map encI) := by
  refine enterK Non 30 Tryd.func9 rfl rfl rfl fun K hK => ?_
  cases g1 : areR xs ys with
  | false =>
    have hf : countP' xs ys = ([], false) := by simp [countP', g1]
    repeat (any_goals (
      conv => whnf
      first
      | ((with_reducible refine callF (g := 31) ?_ ?_); kernel_rfl; refine ⟨_, AreRepairs_c _ _ _ _ _ _ xs ys _ (by repeat (first | assumption | refine Row.e0 ?_ (by assumption))) (by repeat (first | assumption | refine Row.e0 ?_ (by assumption))) hn hm hn1 hm1 hc, ?_⟩; intro w4 e4; have z4 := cutLe e4)
      | ((with_reducible refine BIF.s (fun h => absurd h ?_) (fun _ => ?_)); focus (simp [g1]; done))
      | ((with_reducible refine BIF.s (fun _ => ?_) (fun h => absurd h ?_)); rotate_left; focus (simp [g1]; done))
      | ((with_reducible refine bsS elemI [] rfl rfl (by simp) (by omega) (fun w9 e9 o9 => ?_)); have z9 := cutLe e9)
      | ((with_reducible refine BIF.dec ?_ ?_) <;> intro _)
      | ((with_reducible refine BIF.s ?_ ?_) <;> intro _)
      | (with_reducible refine NEXTK.normal ?_)
      | (with_reducible refine NEXTK.ret ?_)
      | (with_reducible refine NEXTK.exit ?_)
      | (with_reducible refine SEQ.plain ?_)
      | (with_reducible refine hK _ _ ?_)
      | ((with_reducible refine RUNL.agg (fun _ => ?_) ?_); (focus kernel_rfl))
      | (with_reducible refine RUNL.run ?_)
      | ((with_reducible refine AR.ok ?_ ?_); exact ⟨by first | omega | (dsimp only; omega), by first | omega | (dsimp only; omega)⟩)
      | (with_reducible refine AR.wr ?_)
      | ((with_reducible intro w3 e3); try have z3 := cutLe e3)
      | ((with_reducible intro h3); have h4 := Nat.le_of_lt h3; clear h4)))
    intro hx'
    rw [hf]
    first
    | exact ⟨_, rfl, hx', _, rfl, Own.nil _ _ _ _⟩
    | exact ⟨_, rfl, hx', _, rfl, (by clear hx'; repeat (first | exact o9 | exact o9.lo (by omega) | refine Own.e0 ?_ (by assumption)))⟩
  | true =>
    have hf : countP' xs ys = (cntsL ys, true) := by simp [countP', g1]
    repeat (any_goals (
      conv => whnf
      first
      | ((with_reducible refine callF (g := 31) ?_ ?_); kernel_rfl; refine ⟨_, AreRepairs_c _ _ _ _ _ _ xs ys _ (by repeat (first | assumption | refine Row.e0 ?_ (by assumption))) (by repeat (first | assumption | refine Row.e0 ?_ (by assumption))) hn hm hn1 hm1 hc, ?_⟩; intro w4 e4; have z4 := cutLe e4)
      | ((with_reducible refine BIF.s (fun h => absurd h ?_) (fun _ => ?_)); focus (simp [g1]; done))
      | ((with_reducible refine BIF.s (fun _ => ?_) (fun h => absurd h ?_)); rotate_left; focus (simp [g1]; done))
      | ((with_reducible refine BIF.dec ?_ ?_) <;> intro _)
      | ((with_reducible refine BIF.s ?_ ?_) <;> intro _)
      | (with_reducible refine NEXTK.normal ?_)
      | (with_reducible refine NEXTK.ret ?_)
      | (with_reducible refine NEXTK.exit ?_)
      | (with_reducible refine SEQ.plain ?_)
      | (with_reducible refine hK _ _ ?_)
      | ((with_reducible refine RUNL.agg (fun _ => ?_) ?_); (focus kernel_rfl))
      | (with_reducible refine RUNL.run ?_)
      | ((with_reducible refine AR.ok ?_ ?_); exact ⟨by first | omega | (dsimp only; omega), by first | omega | (dsimp only; omega)⟩)
      | (with_reducible refine AR.wr ?_)
      | ((with_reducible intro w3 e3); try have z3 := cutLe e3)
      | ((with_reducible intro h3); have h4 := Nat.le_of_lt h3; clear h4)))
    conv => whnf
    refine mkS (n := 4) (by exact elemI) (by omega) (fun w1 cp e1 o1 => ?_)
    have z1 := cutLe e1
    replace o1 : Own w1 w.heap.size 3 1 (.slice (some ⟨w4.heap.size, 0, none⟩) 4 cp) ((cntsL (ys.take 0)).map encI) := o1.lo (by omega)
    conv => whnf
    repeat (first | ((with_reducible refine NEXTK.normal ?_); conv => whnf) | ((with_reducible refine NEXTK.exit ?_); conv => whnf) | ((with_reducible refine NEXTK.ret ?_); conv => whnf) | ((with_reducible refine SEQ.plain ?_); conv => whnf) | ((with_reducible refine AR.ok ?_ ?_); exact ⟨by omega, by omega⟩; conv => whnf))
    refine LOOP.mk Nat (fun k => [(16, .v (.int .i64 k))]) (fun k wr => k ≤ m ∧ Own wr w.heap.size 3 1 (.slice (some ⟨w4.heap.size, 0, none⟩) 4 cp) ((cntsL (ys.take k)).map encI)) (fun k => m - k) 0 rfl ⟨rfl, trivial⟩ ⟨Nat.zero_le _, o1⟩ ?_
    rintro k wr - ⟨hk, hown⟩
    have oL := fun k h => hown.block (k := k) h
    have hml := hown.row.2
    conv => whnf
    repeat (first | ((with_reducible refine NEXTK.normal ?_); conv => whnf) | ((with_reducible refine NEXTK.exit ?_); conv => whnf) | ((with_reducible refine NEXTK.ret ?_); conv => whnf) | ((with_reducible refine SEQ.plain ?_); conv => whnf) | ((with_reducible refine AR.ok ?_ ?_); exact ⟨by omega, by omega⟩; conv => whnf))
    refine BIF.dec (fun hlt => ?_) (fun hlt => ?_)
    · have hlt' : k < ys.length := by omega
      have his := hs.isSome (by simp; omega)
      obtain ⟨r, hr1⟩ : ∃ r, ys[k]? = some r := ⟨ys[k]'hlt', by simp⟩
      have hw4 := (areR_at g1 hr1).2.1
      have hbn := cntK_bnd (ys.take k) r.fWork
      have hlen12 := (areR_spec g1).2.1
      have htk : (ys.take k).length = k := by simp; omega
      have hget := cnts_get (ys := ys.take k) hw4
      have hset := cnts_set hr1 hw4
      repeat (any_goals (
        conv => whnf
        first
        | ((with_reducible refine OBL.mk ?_ (fun _ => ?_)); exact ⟨by first | omega | (dsimp only; omega), by first | omega | (dsimp only; omega), his⟩)
        | ((with_reducible refine ELD.at (k) hs ?_ ?_ ?_ (fun x' hx' => ?_)); exact mAddr_Non _; (first | rfl | omega); exact hlt'; obtain rfl : r = x' := by (rw [hr1] at hx'; exact Option.some.inj hx'))
        | ((with_reducible intro w3 e3); have z3 := cutLe e3; replace hown := hown.ext e3 (by first | exact fun _ _ h => h | (intro k hk h; have hh := oL k hk; simp only [bk] at h; omega)))
        | ((with_reducible refine OBL.mk ?_ (fun _ => ?_)); exact ⟨by omega, by omega, rfl⟩)
        | ((with_reducible refine ELD.now _ _ hown.row.1 hget ?_))
        | ((with_reducible refine stS (i := r.fWork - 1) hown rfl rfl rfl (r.fWork - 1).toNat ?_ hget (by decide) (Nat.le_refl _) ?_ (fun w6 e6 o6 => ?_)); (focus omega); (focus (first | exact trivial | exact ⟨fun h => by have := (oL _ h).2; dsimp only at this; omega, trivial⟩)); replace o6 : Own w6 w.heap.size 3 1 (.slice (some ⟨w4.heap.size, 0, none⟩) 4 cp) ((cntsL (ys.take (k + 1))).map encI) := (by rw [← hset]; exact o6); clear hown)
        | ((with_reducible refine BIF.dec ?_ ?_) <;> intro _)
        | ((with_reducible refine BIF.s ?_ ?_) <;> intro _)
        | (with_reducible refine NEXTK.normal ?_)
        | (with_reducible refine NEXTK.ret ?_)
        | (with_reducible refine NEXTK.exit ?_)
        | (with_reducible refine SEQ.plain ?_)
        | (with_reducible refine hK _ _ ?_)
        | ((with_reducible refine RUNL.agg (fun _ => ?_) ?_); (focus kernel_rfl))
        | (with_reducible refine RUNL.run ?_)
        | ((with_reducible refine AR.ok ?_ ?_); exact ⟨by first | omega | (dsimp only; omega), by first | omega | (dsimp only; omega)⟩)
        | (with_reducible refine AR.wr ?_)
        | ((with_reducible intro w3 e3); try have z3 := cutLe e3)
        | ((with_reducible intro h3); have h4 := Nat.le_of_lt h3; clear h4)))
      exact ⟨k + 1, rfl, ⟨rfl, trivial⟩, rfl, rfl, ⟨by omega, o6⟩, by omega⟩
    · have hkj : k = ys.length := by omega
      rw [hkj, List.take_length] at hown
      repeat (any_goals (
        conv => whnf
        first
        | ((with_reducible refine BIF.dec ?_ ?_) <;> intro _)
        | ((with_reducible refine BIF.s ?_ ?_) <;> intro _)
        | (with_reducible refine NEXTK.normal ?_)
        | (with_reducible refine NEXTK.ret ?_)
        | (with_reducible refine NEXTK.exit ?_)
        | (with_reducible refine SEQ.plain ?_)
        | (with_reducible refine hK _ _ ?_)
        | ((with_reducible refine RUNL.agg (fun _ => ?_) ?_); (focus kernel_rfl))
        | (with_reducible refine RUNL.run ?_)
        | ((with_reducible refine AR.ok ?_ ?_); exact ⟨by first | omega | (dsimp only; omega), by first | omega | (dsimp only; omega)⟩)
        | (with_reducible refine AR.wr ?_)
        | ((with_reducible intro w3 e3); try have z3 := cutLe e3)
        | ((with_reducible intro h3); have h4 := Nat.le_of_lt h3; clear h4)))
      intro hx'
      rw [hf]
      exact ⟨_, rfl, hx', _, rfl, hown⟩
theorem CountWorksS_c (a b : Option Addr) (n c m d : Nat) (xs : List Dmg) (ys : List Rep) (w : World) (hr : Row w a 4 (xs.map encDmg)) (hs : Row w b 3 (ys.map encRep)) (hn : xs.length = n) (hm : ys.length = m) (hn1 : n ≤ 4611686018427387904) (hm1 : m ≤ 4611686018427387904) (hc : m ≤ d ∧ d < 9223372036854775808) :
    Calls Tryd.prog 10 #[.slice a n c, .slice b m d] w fun e w' => ∃ v, e = .returned v ∧ E0 w w' ∧ ∃ s, v = .tuple #[s, .bool (countP' xs ys).2] ∧ Own w' w.heap.size 3 1 s ((countP' xs ys).1.map encI) := by
  refine enterK Non 36 Tryd.func10 rfl rfl rfl fun K hK => ?_
  cases g1 : areR xs ys with
  | false =>
    have hf : countP' xs ys = ([], false) := by simp [countP', g1]
    repeat (any_goals (
      conv => whnf
      first
      | ((with_reducible refine callF (g := 33) ?_ ?_); kernel_rfl; refine ⟨_, l22Good_c _ _ _ _ _ _ xs ys _ (by repeat (first | assumption | refine Row.e0 ?_ (by assumption))) (by repeat (first | assumption | refine Row.e0 ?_ (by assumption))) hn hm hn1 hm1 hc, ?_⟩; intro w4 e4; have z4 := cutLe e4)
      | ((with_reducible refine BIF.s (fun h => absurd h ?_) (fun _ => ?_)); focus (simp [g1]; done))
      | ((with_reducible refine BIF.s (fun _ => ?_) (fun h => absurd h ?_)); rotate_left; focus (simp [g1]; done))
      | ((with_reducible refine bsS elemI [] rfl rfl (by simp) (by omega) (fun w9 e9 o9 => ?_)); have z9 := cutLe e9)
      | ((with_reducible refine BIF.dec ?_ ?_) <;> intro _)
      | ((with_reducible refine BIF.s ?_ ?_) <;> intro _)
      | (with_reducible refine NEXTK.normal ?_)
      | (with_reducible refine NEXTK.ret ?_)
      | (with_reducible refine NEXTK.exit ?_)
      | (with_reducible refine SEQ.plain ?_)
      | (with_reducible refine hK _ _ ?_)
      | ((with_reducible refine RUNL.agg (fun _ => ?_) ?_); (focus kernel_rfl))
      | (with_reducible refine RUNL.run ?_)
      | ((with_reducible refine AR.ok ?_ ?_); exact ⟨by first | omega | (dsimp only; omega), by first | omega | (dsimp only; omega)⟩)
      | (with_reducible refine AR.wr ?_)
      | ((with_reducible intro w3 e3); try have z3 := cutLe e3)
      | ((with_reducible intro h3); have h4 := Nat.le_of_lt h3; clear h4)))
    intro hx'
    rw [hf]
    first
    | exact ⟨_, rfl, hx', _, rfl, Own.nil _ _ _ _⟩
    | exact ⟨_, rfl, hx', _, rfl, (by clear hx'; repeat (first | exact o9 | exact o9.lo (by omega) | refine Own.e0 ?_ (by assumption)))⟩
  | true =>
    have hf : countP' xs ys = (cntsL ys, true) := by simp [countP', g1]
    repeat (any_goals (
      conv => whnf
      first
      | ((with_reducible refine callF (g := 33) ?_ ?_); kernel_rfl; refine ⟨_, l22Good_c _ _ _ _ _ _ xs ys _ (by repeat (first | assumption | refine Row.e0 ?_ (by assumption))) (by repeat (first | assumption | refine Row.e0 ?_ (by assumption))) hn hm hn1 hm1 hc, ?_⟩; intro w4 e4; have z4 := cutLe e4)
      | ((with_reducible refine BIF.s (fun h => absurd h ?_) (fun _ => ?_)); focus (simp [g1]; done))
      | ((with_reducible refine BIF.s (fun _ => ?_) (fun h => absurd h ?_)); rotate_left; focus (simp [g1]; done))
      | ((with_reducible refine BIF.dec ?_ ?_) <;> intro _)
      | ((with_reducible refine BIF.s ?_ ?_) <;> intro _)
      | (with_reducible refine NEXTK.normal ?_)
      | (with_reducible refine NEXTK.ret ?_)
      | (with_reducible refine NEXTK.exit ?_)
      | (with_reducible refine SEQ.plain ?_)
      | (with_reducible refine hK _ _ ?_)
      | ((with_reducible refine RUNL.agg (fun _ => ?_) ?_); (focus kernel_rfl))
      | (with_reducible refine RUNL.run ?_)
      | ((with_reducible refine AR.ok ?_ ?_); exact ⟨by first | omega | (dsimp only; omega), by first | omega | (dsimp only; omega)⟩)
      | (with_reducible refine AR.wr ?_)
      | ((with_reducible intro w3 e3); try have z3 := cutLe e3)
      | ((with_reducible intro h3); have h4 := Nat.le_of_lt h3; clear h4)))
    conv => whnf
    refine mkS (n := 4) (by exact elemI) (by omega) (fun w1 cp e1 o1 => ?_)
    have z1 := cutLe e1
    replace o1 : Own w1 w.heap.size 3 1 (.slice (some ⟨w4.heap.size, 0, none⟩) 4 cp) ((cntsL (ys.take 0)).map encI) := o1.lo (by omega)
    conv => whnf
    repeat (first | ((with_reducible refine NEXTK.normal ?_); conv => whnf) | ((with_reducible refine NEXTK.exit ?_); conv => whnf) | ((with_reducible refine NEXTK.ret ?_); conv => whnf) | ((with_reducible refine SEQ.plain ?_); conv => whnf) | ((with_reducible refine AR.ok ?_ ?_); exact ⟨by omega, by omega⟩; conv => whnf))
    refine LOOP.mk Nat (fun k => [(7, .v (.int .i64 k))]) (fun k wr => k ≤ m ∧ Own wr w.heap.size 3 1 (.slice (some ⟨w4.heap.size, 0, none⟩) 4 cp) ((cntsL (ys.take k)).map encI)) (fun k => m - k) 0 rfl ⟨rfl, trivial⟩ ⟨Nat.zero_le _, o1⟩ ?_
    rintro k wr - ⟨hk, hown⟩
    have oL := fun k h => hown.block (k := k) h
    have hml := hown.row.2
    conv => whnf
    repeat (first | ((with_reducible refine NEXTK.normal ?_); conv => whnf) | ((with_reducible refine NEXTK.exit ?_); conv => whnf) | ((with_reducible refine NEXTK.ret ?_); conv => whnf) | ((with_reducible refine SEQ.plain ?_); conv => whnf) | ((with_reducible refine AR.ok ?_ ?_); exact ⟨by omega, by omega⟩; conv => whnf))
    refine BIF.dec (fun hlt => ?_) (fun hlt => ?_)
    · have hlt' : k < ys.length := by omega
      have his := hs.isSome (by simp; omega)
      obtain ⟨r, hr1⟩ : ∃ r, ys[k]? = some r := ⟨ys[k]'hlt', by simp⟩
      have hw4 := (areR_at g1 hr1).2.1
      have hbn := cntK_bnd (ys.take k) r.fWork
      have hlen12 := (areR_spec g1).2.1
      have htk : (ys.take k).length = k := by simp; omega
      have hget := cnts_get (ys := ys.take k) hw4
      have hset := cnts_set hr1 hw4
      repeat (any_goals (
        conv => whnf
        first
        | ((with_reducible refine OBL.mk ?_ (fun _ => ?_)); exact ⟨by first | omega | (dsimp only; omega), by first | omega | (dsimp only; omega), his⟩)
        | ((with_reducible refine ELD.at (k) hs ?_ ?_ ?_ (fun x' hx' => ?_)); exact mAddr_Non _; (first | rfl | omega); exact hlt'; obtain rfl : r = x' := by (rw [hr1] at hx'; exact Option.some.inj hx'))
        | ((with_reducible intro w3 e3); have z3 := cutLe e3; replace hown := hown.ext e3 (by first | exact fun _ _ h => h | (intro k hk h; have hh := oL k hk; simp only [bk] at h; omega)))
        | ((with_reducible refine OBL.mk ?_ (fun _ => ?_)); exact ⟨by omega, by omega, rfl⟩)
        | ((with_reducible refine ELD.now _ _ hown.row.1 hget ?_))
        | ((with_reducible refine stS (i := r.fWork - 1) hown rfl rfl rfl (r.fWork - 1).toNat ?_ hget (by decide) (Nat.le_refl _) ?_ (fun w6 e6 o6 => ?_)); (focus omega); (focus (first | exact trivial | exact ⟨fun h => by have := (oL _ h).2; dsimp only at this; omega, trivial⟩)); replace o6 : Own w6 w.heap.size 3 1 (.slice (some ⟨w4.heap.size, 0, none⟩) 4 cp) ((cntsL (ys.take (k + 1))).map encI) := (by rw [← hset]; exact o6); clear hown)
        | ((with_reducible refine BIF.dec ?_ ?_) <;> intro _)
        | ((with_reducible refine BIF.s ?_ ?_) <;> intro _)
        | (with_reducible refine NEXTK.normal ?_)
        | (with_reducible refine NEXTK.ret ?_)
        | (with_reducible refine NEXTK.exit ?_)
        | (with_reducible refine SEQ.plain ?_)
        | (with_reducible refine hK _ _ ?_)
        | ((with_reducible refine RUNL.agg (fun _ => ?_) ?_); (focus kernel_rfl))
        | (with_reducible refine RUNL.run ?_)
        | ((with_reducible refine AR.ok ?_ ?_); exact ⟨by first | omega | (dsimp only; omega), by first | omega | (dsimp only; omega)⟩)
        | (with_reducible refine AR.wr ?_)
        | ((with_reducible intro w3 e3); try have z3 := cutLe e3)
        | ((with_reducible intro h3); have h4 := Nat.le_of_lt h3; clear h4)))
      exact ⟨k + 1, rfl, ⟨rfl, trivial⟩, rfl, rfl, ⟨by omega, o6⟩, by omega⟩
    · have hkj : k = ys.length := by omega
      rw [hkj, List.take_length] at hown
      repeat (any_goals (
        conv => whnf
        first
        | ((with_reducible refine BIF.dec ?_ ?_) <;> intro _)
        | ((with_reducible refine BIF.s ?_ ?_) <;> intro _)
        | (with_reducible refine NEXTK.normal ?_)
        | (with_reducible refine NEXTK.ret ?_)
        | (with_reducible refine NEXTK.exit ?_)
        | (with_reducible refine SEQ.plain ?_)
        | (with_reducible refine hK _ _ ?_)
        | ((with_reducible refine RUNL.agg (fun _ => ?_) ?_); (focus kernel_rfl))
        | (with_reducible refine RUNL.run ?_)
        | ((with_reducible refine AR.ok ?_ ?_); exact ⟨by first | omega | (dsimp only; omega), by first | omega | (dsimp only; omega)⟩)
        | (with_reducible refine AR.wr ?_)
        | ((with_reducible intro w3 e3); try have z3 := cutLe e3)
        | ((with_reducible intro h3); have h4 := Nat.le_of_lt h3; clear h4)))
      intro hx'
      rw [hf]
      exact ⟨_, rfl, hx', _, rfl, hown⟩

end Go.Proofs.YtgopcppegjhmiaaDoor
