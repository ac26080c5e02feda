/- The draws of numbers. -/
import Derived.Test.YtpddilkonkkppaaGreatDoorRows
import Derived.Test.YtpddilkonkkppaaGreatDoorTalk
namespace Go.Proofs.YtpddilkonkkppaaGreatDoor
open Go Go.X Go.Proofs Go.ChangeShapes Go.WideShapes Go.ChangeAt Go.RowKit
open Go.ChangeMaps (open_string shut_string)
set_option maxHeartbeats 1000000
set_option maxRecDepth 20000
set_option linter.unusedVariables false
set_option linter.unusedSimpArgs false
abbrev Cu := Cur 74
theorem tmod_b {x m : Int} (hx : 0 ≤ x) (hm : 0 < m) : 0 ≤ x.tmod m ∧ (x.tmod m < m ∨ x.tmod m = 0) := ⟨Int.tmod_nonneg _ hx, .inl (Int.tmod_lt_of_pos _ hm)⟩
theorem tdiv_b {x m : Int} (hx : 0 ≤ x) (hm : 0 < m) : 0 ≤ x.tdiv m ∧ x.tdiv m * m ≤ x := by
  rw [Int.tdiv_eq_ediv_of_nonneg hx]
  exact ⟨Int.ediv_nonneg hx (by omega), Int.ediv_mul_le x (by omega)⟩
def intsOf (ps : List (Nat × Value)) : List Int := ps.map fun p => match p.2 with | .int _ z => z | _ => 0
theorem bsI {c : Ctx} {E : List (Nat × TV)} {B : List Bx} {w : World} {k : Value → World → Prop} {n : Nat} {ps : Array (Nat × Value)} (hp : ps.toList = ((intsOf ps.toList).zipIdx 0).map fun x => (x.2, Value.int .i64 x.1)) (hn : (intsOf ps.toList).length = n) (hs : n ≤ 1000)
    (hP : c.P = Tryz.prog) (h : ∀ w', E0 w w' → Own w' w.heap.size 3 1 (.slice (some ⟨w.heap.size, 0, none⟩) n n) ((intsOf ps.toList).map encI) → k (.slice (some ⟨w.heap.size, 0, none⟩) n n) w') : WOP c ⟨E, B, w⟩ (Instr.buildSlice 44 n ps) k := by
  subst hn
  generalize intsOf ps.toList = xs at *
  refine bsS (hP ▸ elemI) (xs.map fun x => Value.int .i64 x) ?_ (by simp) (by intro v hv; obtain ⟨x, -, rfl⟩ := List.mem_map.1 hv; rfl) (by omega) (fun w' e o => h w' e ?_)
  · rw [hp, List.zipIdx_map, List.map_map]; rfl
  · have : (xs.map fun x => Value.int .i64 x).map (fun v => v.cells.toList) = xs.map encI := by rw [List.map_map]; rfl
    rw [this] at o; exact o
theorem notOn {b g : Nat} (h : b < g) : ¬ mAddr (onB b) (some ⟨g, 0, none⟩) := fun e => by
  have : g = b := e
  omega
theorem ownOff {w : World} {b lo : Nat} {e : TypeId} {sz : Nat} {a : Option Addr} {n c : Nat} {ls : List (List Value)} (h : Own w lo e sz (.slice a n c) ls) (hb : b < lo) : n = 0 ∨ ¬ mAddr (onB b) a := by
  refine .inr ?_
  cases a with
  | none => exact id
  | some ad =>
    intro e
    have e : ad.block = b := e
    have := (h.block (k := ad.block) rfl).1
    omega
theorem notOnSub {b : Nat} (a : Option Addr) {q : Prop} [Decidable q] (n : Nat) (h : ¬ mAddr (onB b) a) : ¬ mAddr (onB b) (if q then a else a.map (·.add n)) := by
  split
  · exact h
  · cases a with
    | none => exact id
    | some ad => intro e; apply h; have e : (ad.add n).block = b := e; rw [Addr.add_block] at e; exact e
def RI (p : Int → Prop) (v : Value) : Prop := ∃ r : Int, v = .int .i64 r ∧ p r
theorem next_c (b : Nat) (cd : Cd) (k : Int) (w : World) (h : Cu w b cd k) (hk : 0 ≤ k ∧ k ≤ 1099511627776) :
    Calls Tryz.prog 105 #[.pointer (some ⟨b, 0, none⟩)] w fun e w' => ∃ v, e = .returned v ∧ Ext (onB b) w w' ∧ RI (fun r => 0 ≤ r ∧ r ≤ 255) v ∧ Cu w' b cd (k + 1) := by
  refine enterK (onB b) 62 Tryz.func105 rfl rfl rfl fun K hK => ?_
  obtain ⟨at_, sd, ha0, hak, ho⟩ := h.live
  have hb := h.lt
  have hlen := h.len
  have hsm := h.small
  by_cases hin : at_ < cd.n
  · have his := h.row.isSome (by simp; omega)
    have hap := h.apart.resolve_left (fun hn => by rw [hn] at hlen; simp at hlen; omega)
    obtain ⟨y, hy⟩ : ∃ y, cd.bs[at_.toNat]? = some y := ⟨cd.bs[at_.toNat]'(by omega), by simp⟩
    have hyb := h.byte y (List.mem_of_getElem? hy)
    repeat (any_goals (
      conv => whnf
      first
      | ((with_reducible refine DRAW.quietE ?_ ?_ ?_); kernel_rfl; kernel_rfl)
      | ((with_reducible refine ELD.now _ _ ho.row.1 rfl ?_))
      | ((with_reducible intro w3 e3); have z3 := cutLe e3; replace ho := ho.e0 e3)
      | ((with_reducible refine OBL.mk ?_ (fun _ => ?_)); exact ⟨by omega, by omega, his⟩)
      | ((with_reducible refine ELD.at (enc := encB) (xs := cd.bs) at_.toNat h.row hap ?_ ?_ (fun x' hx' => ?_)); (focus omega); (focus omega); obtain rfl : y = x' := by (rw [hy] at hx'; exact Option.some.inj hx'))
      | ((with_reducible refine RUN.int (kd := .i64) (z := IntKind.i64.wrap y) (fun _ => ?_) (wrap64_in (by omega) (by omega)) ?_); (focus kernel_rfl))
      | ((exfalso; omega))
      | ((with_reducible refine BIF.dec ?_ ?_) <;> intro _)
      | ((with_reducible refine BIF.s ?_ ?_) <;> intro _)
      | (with_reducible refine NEXTK.normal ?_)
      | (with_reducible refine NEXTK.ret ?_)
      | (with_reducible refine NEXTK.exit ?_)
      | (with_reducible refine SEQ.plain ?_)
      | (with_reducible refine hK _ _ ?_)
      | ((with_reducible refine RUNL.agg (fun _ => ?_) ?_); (focus kernel_rfl))
      | (with_reducible refine RUNL.run ?_)
      | ((with_reducible refine AR.ok ?_ ?_); exact ⟨by first | omega | (dsimp only; omega), by first | omega | (dsimp only; omega)⟩)
      | (with_reducible refine AR.wr ?_)
      | ((with_reducible intro w3 e3); try have z3 := cutLe e3)
      | ((with_reducible intro h3); have h4 := Nat.le_of_lt h3; clear h4)))
    refine stM (i := 0) ho rfl rfl rfl 0 rfl rfl (by decide) (fun _ hj => (Option.some.inj hj).symm) trivial (fun w6 e6 o6 => ?_)
    have z6 := cutLe e6
    repeat (any_goals (
      conv => whnf
      first
      | ((with_reducible refine ELD.now _ _ o6.row.1 rfl ?_))
      | ((with_reducible refine AR.u64 (fun r => ?_)))
      | ((with_reducible refine RUN.any (kd := .u64) (IntKind.u64.wrap y) (fun _ => ?_) (fun z => ?_)); (focus kernel_rfl))
      | ((with_reducible refine BIF.dec ?_ ?_) <;> intro _)
      | ((with_reducible refine BIF.s ?_ ?_) <;> intro _)
      | (with_reducible refine NEXTK.normal ?_)
      | (with_reducible refine NEXTK.ret ?_)
      | (with_reducible refine NEXTK.exit ?_)
      | (with_reducible refine SEQ.plain ?_)
      | (with_reducible refine hK _ _ ?_)
      | ((with_reducible refine RUNL.agg (fun _ => ?_) ?_); (focus kernel_rfl))
      | (with_reducible refine RUNL.run ?_)
      | ((with_reducible refine AR.ok ?_ ?_); exact ⟨by first | omega | (dsimp only; omega), by first | omega | (dsimp only; omega)⟩)
      | (with_reducible refine AR.wr ?_)
      | ((with_reducible intro w3 e3); try have z3 := cutLe e3)
      | ((with_reducible intro h3); have h4 := Nat.le_of_lt h3; clear h4)))
    refine stM (i := 0) o6 rfl rfl rfl 0 rfl rfl (by decide) (fun _ hj => (Option.some.inj hj).symm) trivial (fun w7 e7 o7 => ?_)
    have z7 := cutLe e7
    repeat (any_goals (
      conv => whnf
      first
      | ((with_reducible refine DRAW.quietE ?_ ?_ ?_); kernel_rfl; kernel_rfl)
      | ((with_reducible refine ELD.now _ _ o7.row.1 rfl ?_))
      | ((with_reducible intro w8 e8); have z8 := cutLe e8; replace o7 := o7.e0 e8)
      | ((exfalso; omega))
      | ((with_reducible refine BIF.dec ?_ ?_) <;> intro _)
      | ((with_reducible refine BIF.s ?_ ?_) <;> intro _)
      | (with_reducible refine NEXTK.normal ?_)
      | (with_reducible refine NEXTK.ret ?_)
      | (with_reducible refine NEXTK.exit ?_)
      | (with_reducible refine SEQ.plain ?_)
      | (with_reducible refine hK _ _ ?_)
      | ((with_reducible refine RUNL.agg (fun _ => ?_) ?_); (focus kernel_rfl))
      | (with_reducible refine RUNL.run ?_)
      | ((with_reducible refine AR.ok ?_ ?_); exact ⟨by first | omega | (dsimp only; omega), by first | omega | (dsimp only; omega)⟩)
      | (with_reducible refine AR.wr ?_)
      | ((with_reducible intro w3 e3); try have z3 := cutLe e3)
      | ((with_reducible intro h3); have h4 := Nat.le_of_lt h3; clear h4)))
    conv => whnf
    repeat (first | ((with_reducible refine NEXTK.normal ?_); conv => whnf) | ((with_reducible refine NEXTK.exit ?_); conv => whnf) | ((with_reducible refine NEXTK.ret ?_); conv => whnf) | ((with_reducible refine SEQ.plain ?_); conv => whnf) | ((with_reducible refine AR.ok ?_ ?_); exact ⟨by omega, by omega⟩; conv => whnf))
    intro hx
    exact ⟨_, rfl, hx, ⟨y, rfl, hyb⟩, h.set hx (at_ := at_ + 1) o7 (by omega) (by omega)⟩
  · repeat (any_goals (
      conv => whnf
      first
      | ((with_reducible refine DRAW.quietE ?_ ?_ ?_); kernel_rfl; kernel_rfl)
      | ((with_reducible refine ELD.now _ _ ho.row.1 rfl ?_))
      | ((with_reducible intro w3 e3); have z3 := cutLe e3; replace ho := ho.e0 e3)
      | ((exfalso; omega))
      | ((with_reducible refine BIF.dec ?_ ?_) <;> intro _)
      | ((with_reducible refine BIF.s ?_ ?_) <;> intro _)
      | (with_reducible refine NEXTK.normal ?_)
      | (with_reducible refine NEXTK.ret ?_)
      | (with_reducible refine NEXTK.exit ?_)
      | (with_reducible refine SEQ.plain ?_)
      | (with_reducible refine hK _ _ ?_)
      | ((with_reducible refine RUNL.agg (fun _ => ?_) ?_); (focus kernel_rfl))
      | (with_reducible refine RUNL.run ?_)
      | ((with_reducible refine AR.ok ?_ ?_); exact ⟨by first | omega | (dsimp only; omega), by first | omega | (dsimp only; omega)⟩)
      | (with_reducible refine AR.wr ?_)
      | ((with_reducible intro w3 e3); try have z3 := cutLe e3)
      | ((with_reducible intro h3); have h4 := Nat.le_of_lt h3; clear h4)))
    refine stM (i := 0) ho rfl rfl rfl 0 rfl rfl (by decide) (fun _ hj => (Option.some.inj hj).symm) trivial (fun w6 e6 o6 => ?_)
    have z6 := cutLe e6
    repeat (any_goals (
      conv => whnf
      first
      | ((with_reducible refine ELD.now _ _ o6.row.1 rfl ?_))
      | ((with_reducible refine AR.u64 (fun r => ?_)))
      | ((with_reducible refine RUN.any (kd := .u64) (IntKind.u64.wrap 0) (fun _ => ?_) (fun z => ?_)); (focus kernel_rfl))
      | ((with_reducible refine BIF.dec ?_ ?_) <;> intro _)
      | ((with_reducible refine BIF.s ?_ ?_) <;> intro _)
      | (with_reducible refine NEXTK.normal ?_)
      | (with_reducible refine NEXTK.ret ?_)
      | (with_reducible refine NEXTK.exit ?_)
      | (with_reducible refine SEQ.plain ?_)
      | (with_reducible refine hK _ _ ?_)
      | ((with_reducible refine RUNL.agg (fun _ => ?_) ?_); (focus kernel_rfl))
      | (with_reducible refine RUNL.run ?_)
      | ((with_reducible refine AR.ok ?_ ?_); exact ⟨by first | omega | (dsimp only; omega), by first | omega | (dsimp only; omega)⟩)
      | (with_reducible refine AR.wr ?_)
      | ((with_reducible intro w3 e3); try have z3 := cutLe e3)
      | ((with_reducible intro h3); have h4 := Nat.le_of_lt h3; clear h4)))
    refine stM (i := 0) o6 rfl rfl rfl 0 rfl rfl (by decide) (fun _ hj => (Option.some.inj hj).symm) trivial (fun w7 e7 o7 => ?_)
    have z7 := cutLe e7
    repeat (any_goals (
      conv => whnf
      first
      | ((with_reducible refine DRAW.quietE ?_ ?_ ?_); kernel_rfl; kernel_rfl)
      | ((with_reducible refine ELD.now _ _ o7.row.1 rfl ?_))
      | ((with_reducible intro w8 e8); have z8 := cutLe e8; replace o7 := o7.e0 e8)
      | ((exfalso; omega))
      | ((with_reducible refine BIF.dec ?_ ?_) <;> intro _)
      | ((with_reducible refine BIF.s ?_ ?_) <;> intro _)
      | (with_reducible refine NEXTK.normal ?_)
      | (with_reducible refine NEXTK.ret ?_)
      | (with_reducible refine NEXTK.exit ?_)
      | (with_reducible refine SEQ.plain ?_)
      | (with_reducible refine hK _ _ ?_)
      | ((with_reducible refine RUNL.agg (fun _ => ?_) ?_); (focus kernel_rfl))
      | (with_reducible refine RUNL.run ?_)
      | ((with_reducible refine AR.ok ?_ ?_); exact ⟨by first | omega | (dsimp only; omega), by first | omega | (dsimp only; omega)⟩)
      | (with_reducible refine AR.wr ?_)
      | ((with_reducible intro w3 e3); try have z3 := cutLe e3)
      | ((with_reducible intro h3); have h4 := Nat.le_of_lt h3; clear h4)))
    repeat (any_goals (
      conv => whnf
      first
      | ((with_reducible refine ELD.now _ _ o7.row.1 rfl ?_))
      | ((with_reducible refine OBL.mk ?_ (fun _ => ?_)); (focus decide))
      | ((with_reducible refine BAND.low (fun q hq0 hq1 => ?_)))
      | ((with_reducible refine RUN.int (kd := .i64) (z := IntKind.i64.wrap q) (fun _ => ?_) (wrap64_in (by omega) (by omega)) ?_); (focus kernel_rfl))
      | ((with_reducible refine BIF.dec ?_ ?_) <;> intro _)
      | ((with_reducible refine BIF.s ?_ ?_) <;> intro _)
      | (with_reducible refine NEXTK.normal ?_)
      | (with_reducible refine NEXTK.ret ?_)
      | (with_reducible refine NEXTK.exit ?_)
      | (with_reducible refine SEQ.plain ?_)
      | (with_reducible refine hK _ _ ?_)
      | ((with_reducible refine RUNL.agg (fun _ => ?_) ?_); (focus kernel_rfl))
      | (with_reducible refine RUNL.run ?_)
      | ((with_reducible refine AR.ok ?_ ?_); exact ⟨by first | omega | (dsimp only; omega), by first | omega | (dsimp only; omega)⟩)
      | (with_reducible refine AR.wr ?_)
      | ((with_reducible intro w3 e3); try have z3 := cutLe e3)
      | ((with_reducible intro h3); have h4 := Nat.le_of_lt h3; clear h4)))
    intro hx
    exact ⟨_, rfl, hx, ⟨q, rfl, hq0, hq1⟩, h.set hx (at_ := at_ + 1) o7 (by omega) (by omega)⟩
theorem pick_c (b : Nat) (cd : Cd) (k : Int) (m : Int) (w : World) (hC : Cu w b cd k) (hk : 0 ≤ k ∧ k ≤ 1099511627000) :
    Calls Tryz.prog 88 #[.pointer (some ⟨b, 0, none⟩), .int .i64 m] w fun e w' => ∃ v, e = .returned v ∧ Ext (onB b) w w' ∧ RI (fun r => 0 ≤ r ∧ (r < m ∨ r = 0)) v ∧ Cu w' b cd (k + 2) := by
  refine enterK (onB b) 20 Tryz.func88 rfl rfl rfl fun K hK => ?_
  have hb := hC.lt
  repeat (any_goals (
    conv => whnf
    first
    | ((with_reducible refine callM (g := 105) ?_ ?_); kernel_rfl; refine ⟨onB _, _, (by repeat (first | exact trivial | (refine ⟨?_, ?_⟩; (focus (show ¬ _ = _; dsimp only; omega))))), (by first | exact fun _ _ hj => hj | (intro j hj hjb; unfold onB at hjb; exfalso; omega)), next_c _ _ _ _ hC (by omega), ?_⟩; intro r5 w5 e5 h5; have z5 := cutLe e5; obtain ⟨hr5, hC⟩ := h5; (try replace hown := hown.cur h0 (by omega) e5); (try replace hown2 := hown2.cur h0 (by omega) e5); (try replace oB := oB.cur h0 (by omega) e5); (try replace hE := hE.trans e5); obtain ⟨x5, rfl, hx5⟩ := hr5)
    | ((with_reducible refine OBL.mk ?_ (fun _ => ?_)); (focus omega))
    | ((with_reducible refine BIF.dec ?_ ?_) <;> intro _)
    | ((with_reducible refine BIF.s ?_ ?_) <;> intro _)
    | (with_reducible refine NEXTK.normal ?_)
    | (with_reducible refine NEXTK.ret ?_)
    | (with_reducible refine NEXTK.exit ?_)
    | (with_reducible refine SEQ.plain ?_)
    | (with_reducible refine hK _ _ ?_)
    | ((with_reducible refine RUNL.agg (fun _ => ?_) ?_); (focus kernel_rfl))
    | (with_reducible refine RUNL.run ?_)
    | ((with_reducible refine AR.ok ?_ ?_); exact ⟨by first | omega | (dsimp only; omega), by first | omega | (dsimp only; omega)⟩)
    | (with_reducible refine AR.wr ?_)
    | ((with_reducible intro w3 e3); try have z3 := cutLe e3)
    | ((with_reducible intro h3); have h4 := Nat.le_of_lt h3; clear h4)))
  · intro hx
    exact ⟨_, rfl, hx, ⟨_, rfl, by omega, by omega⟩, hC.mono (by omega)⟩
  all_goals
    intro hx
    refine ⟨_, rfl, hx, ⟨_, rfl, ?_⟩, hC.mono (by omega)⟩
    refine tmod_b ?_ (by omega)
    omega
def RL {α : Type} (enc : α → List Value) (fit : α → Prop) (T : TypeId) (sz lo bd : Nat) (w' : World) (v : Value) : Prop := ∃ xs : List α, xs.length ≤ bd ∧ (∀ x ∈ xs, fit x) ∧ Own w' lo T sz v (xs.map enc)
def RB (v : Value) : Prop := ∃ r : Bool, v = .bool r ∧ True
theorem one_c (b : Nat) (cd : Cd) (k : Int) (m : Int) (w : World) (hC : Cu w b cd k) (hk : 0 ≤ k ∧ k ≤ 1099511627000) :
    Calls Tryz.prog 86 #[.pointer (some ⟨b, 0, none⟩), .int .i64 m] w fun e w' => ∃ v, e = .returned v ∧ Ext (onB b) w w' ∧ RB v ∧ Cu w' b cd (k + 2) := by
  refine enterK (onB b) 9 Tryz.func86 rfl rfl rfl fun K hK => ?_
  have hb := hC.lt
  repeat (any_goals (
    conv => whnf
    first
    | ((with_reducible refine callM (g := 88) ?_ ?_); kernel_rfl; refine ⟨onB _, _, (by repeat (first | exact trivial | (refine ⟨?_, ?_⟩; (focus (show ¬ _ = _; dsimp only; omega))))), (by first | exact fun _ _ hj => hj | (intro j hj hjb; unfold onB at hjb; exfalso; omega)), pick_c _ _ _ _ _ hC (by omega), ?_⟩; intro r5 w5 e5 h5; have z5 := cutLe e5; obtain ⟨hr5, hC⟩ := h5; (try replace hown := hown.cur h0 (by omega) e5); (try replace hown2 := hown2.cur h0 (by omega) e5); (try replace oB := oB.cur h0 (by omega) e5); (try replace hE := hE.trans e5); obtain ⟨x5, rfl, hx5⟩ := hr5)
    | ((with_reducible refine BIF.dec ?_ ?_) <;> intro _)
    | ((with_reducible refine BIF.s ?_ ?_) <;> intro _)
    | (with_reducible refine NEXTK.normal ?_)
    | (with_reducible refine NEXTK.ret ?_)
    | (with_reducible refine NEXTK.exit ?_)
    | (with_reducible refine SEQ.plain ?_)
    | (with_reducible refine hK _ _ ?_)
    | ((with_reducible refine RUNL.agg (fun _ => ?_) ?_); (focus kernel_rfl))
    | (with_reducible refine RUNL.run ?_)
    | ((with_reducible refine AR.ok ?_ ?_); exact ⟨by first | omega | (dsimp only; omega), by first | omega | (dsimp only; omega)⟩)
    | (with_reducible refine AR.wr ?_)
    | ((with_reducible intro w3 e3); try have z3 := cutLe e3)
    | ((with_reducible intro h3); have h4 := Nat.le_of_lt h3; clear h4)))
  all_goals
    intro hx
    exact ⟨_, rfl, hx, ⟨_, rfl, trivial⟩, hC⟩
theorem among_c (b : Nat) (cd : Cd) (k : Int) (a : Option Addr) (n c : Nat) (xs : List Int) (p : Int → Prop) (w : World) (hC : Cu w b cd k) (hk : 0 ≤ k ∧ k ≤ 1099511627000) (hr : Row w a 1 (xs.map encI)) (hn : xs.length = n) (h0 : 0 < n ∧ n ≤ 65536) (ha : ¬ mAddr (onB b) a) (hp : ∀ x ∈ xs, p x) :
    Calls Tryz.prog 89 #[.pointer (some ⟨b, 0, none⟩), .slice a n c] w fun e w' => ∃ v, e = .returned v ∧ Ext (onB b) w w' ∧ RI p v ∧ Cu w' b cd (k + 2) := by
  refine enterK (onB b) 12 Tryz.func89 rfl rfl rfl fun K hK => ?_
  have hb := hC.lt
  have his := hr.isSome (by simp; omega)
  repeat (any_goals (
    conv => whnf
    first
    | ((with_reducible refine callM (g := 88) ?_ ?_); kernel_rfl; refine ⟨onB _, _, (by repeat (first | exact trivial | (refine ⟨?_, ?_⟩; (focus (show ¬ _ = _; dsimp only; omega))))), (by first | exact fun _ _ hj => hj | (intro j hj hjb; unfold onB at hjb; exfalso; omega)), pick_c _ _ _ _ _ hC (by omega), ?_⟩; intro r5 w5 e5 h5; have z5 := cutLe e5; obtain ⟨hr5, hC⟩ := h5; (try replace hown := hown.cur h0 (by omega) e5); (try replace hown2 := hown2.cur h0 (by omega) e5); (try replace oB := oB.cur h0 (by omega) e5); (try replace hE := hE.trans e5); obtain ⟨x5, rfl, hx5⟩ := hr5)
    | ((with_reducible refine OBL.mk ?_ (fun _ => ?_)); exact ⟨by omega, by omega, his⟩)
    | ((with_reducible refine BIF.dec ?_ ?_) <;> intro _)
    | ((with_reducible refine BIF.s ?_ ?_) <;> intro _)
    | (with_reducible refine NEXTK.normal ?_)
    | (with_reducible refine NEXTK.ret ?_)
    | (with_reducible refine NEXTK.exit ?_)
    | (with_reducible refine SEQ.plain ?_)
    | (with_reducible refine hK _ _ ?_)
    | ((with_reducible refine RUNL.agg (fun _ => ?_) ?_); (focus kernel_rfl))
    | (with_reducible refine RUNL.run ?_)
    | ((with_reducible refine AR.ok ?_ ?_); exact ⟨by first | omega | (dsimp only; omega), by first | omega | (dsimp only; omega)⟩)
    | (with_reducible refine AR.wr ?_)
    | ((with_reducible intro w3 e3); try have z3 := cutLe e3)
    | ((with_reducible intro h3); have h4 := Nat.le_of_lt h3; clear h4)))
  all_goals
    refine ELD.at (enc := encI) (xs := xs) x5.toNat hr ha (by omega) (by omega) (fun y hy => ?_)
    have hpy := hp y (List.mem_of_getElem? hy)
    repeat (any_goals (
      conv => whnf
      first
      | ((with_reducible refine BIF.dec ?_ ?_) <;> intro _)
      | ((with_reducible refine BIF.s ?_ ?_) <;> intro _)
      | (with_reducible refine NEXTK.normal ?_)
      | (with_reducible refine NEXTK.ret ?_)
      | (with_reducible refine NEXTK.exit ?_)
      | (with_reducible refine SEQ.plain ?_)
      | (with_reducible refine hK _ _ ?_)
      | ((with_reducible refine RUNL.agg (fun _ => ?_) ?_); (focus kernel_rfl))
      | (with_reducible refine RUNL.run ?_)
      | ((with_reducible refine AR.ok ?_ ?_); exact ⟨by first | omega | (dsimp only; omega), by first | omega | (dsimp only; omega)⟩)
      | (with_reducible refine AR.wr ?_)
      | ((with_reducible intro w3 e3); try have z3 := cutLe e3)
      | ((with_reducible intro h3); have h4 := Nat.le_of_lt h3; clear h4)))
    intro hx
    exact ⟨_, rfl, hx, ⟨_, rfl, hpy⟩, hC⟩
theorem amongP_c (b : Nat) (cd : Cd) (k : Int) (a : Option Addr) (n : Nat) (xs : List Int) (p : Int → Prop) (l hi q : Int) (w : World) (hC : Cu w b cd k) (hk : 0 ≤ k ∧ k ≤ 1099511627000) (hr : Row w a 1 (xs.map encI) ∧ (xs.map encI).length = n) (h0 : 0 ≤ l ∧ l < hi ∧ hi ≤ n ∧ hi ≤ q ∧ n ≤ 65536) (ha : ¬ mAddr (onB b) a) (hp : ∀ x ∈ xs, p x) :
    Calls Tryz.prog 89 #[.pointer (some ⟨b, 0, none⟩), .slice (if q.toNat = l.toNat then a else a.map (·.add (l.toNat * (0 + 1)))) (hi.toNat - l.toNat) (q.toNat - l.toNat)] w fun e w' => ∃ v, e = .returned v ∧ Ext (onB b) w w' ∧ RI p v ∧ Cu w' b cd (k + 2) := by
  refine among_c b cd k _ _ _ ((xs.drop l.toNat).take (hi.toNat - l.toNat)) p w hC hk (hr.1.sub l hi q h0.2.2.2.1) ?_ (by omega) (notOnSub _ _ ha) (fun x hx => hp x (List.mem_of_mem_drop (List.mem_of_mem_take hx)))
  have := hr.2
  rw [List.length_map] at this
  rw [List.length_take, List.length_drop]
  omega

def strsOf (ps : List (Nat × Value)) : List ByteArray := ps.map fun p => match p.2 with | .string z => z | _ => ByteArray.empty
theorem bsT {c : Ctx} {E : List (Nat × TV)} {B : List Bx} {w : World} {k : Value → World → Prop} {n : Nat} {ps : Array (Nat × Value)} (hp : ps.toList = ((strsOf ps.toList).zipIdx 0).map fun x => (x.2, Value.string x.1)) (hn : (strsOf ps.toList).length = n) (hs : n ≤ 1000)
    (hP : c.P = Tryz.prog) (h : ∀ w', E0 w w' → Own w' w.heap.size 9 1 (.slice (some ⟨w.heap.size, 0, none⟩) n n) ((strsOf ps.toList).map encS) → k (.slice (some ⟨w.heap.size, 0, none⟩) n n) w') : WOP c ⟨E, B, w⟩ (Instr.buildSlice 102 n ps) k := by
  subst hn
  generalize strsOf ps.toList = xs at *
  refine bsS (hP ▸ elemS) (xs.map fun x => Value.string x) ?_ (by simp) (by intro v hv; obtain ⟨x, -, rfl⟩ := List.mem_map.1 hv; rfl) (by omega) (fun w' e o => h w' e ?_)
  · rw [hp, List.zipIdx_map, List.map_map]; rfl
  · have : (xs.map fun x => Value.string x).map (fun v => v.cells.toList) = xs.map encS := by rw [List.map_map]; rfl
    rw [this] at o; exact o
def RS (v : Value) : Prop := ∃ r : ByteArray, v = .string r ∧ r.size ≤ 1000
theorem of_c (b : Nat) (cd : Cd) (k : Int) (a : Option Addr) (n c : Nat) (xs : List ByteArray) (w : World) (hC : Cu w b cd k) (hk : 0 ≤ k ∧ k ≤ 1099511627000) (hr : Row w a 1 (xs.map encS)) (hn : xs.length = n) (h0 : 0 < n ∧ n ≤ 65536) (ha : ¬ mAddr (onB b) a) (hz : (xs.all fun s => Nat.ble s.size 1000) = true) :
    Calls Tryz.prog 104 #[.pointer (some ⟨b, 0, none⟩), .slice a n c] w fun e w' => ∃ v, e = .returned v ∧ Ext (onB b) w w' ∧ RS v ∧ Cu w' b cd (k + 2) := by
  refine enterK (onB b) 12 Tryz.func104 rfl rfl rfl fun K hK => ?_
  have hb := hC.lt
  have his := hr.isSome (by simp; omega)
  repeat (any_goals (
    conv => whnf
    first
    | ((with_reducible refine callM (g := 88) ?_ ?_); kernel_rfl; refine ⟨onB _, _, (by repeat (first | exact trivial | (refine ⟨?_, ?_⟩; (focus (show ¬ _ = _; dsimp only; omega))))), (by first | exact fun _ _ hj => hj | (intro j hj hjb; unfold onB at hjb; exfalso; omega)), pick_c _ _ _ _ _ hC (by omega), ?_⟩; intro r5 w5 e5 h5; have z5 := cutLe e5; obtain ⟨hr5, hC⟩ := h5; (try replace hown := hown.cur h0 (by omega) e5); (try replace hown2 := hown2.cur h0 (by omega) e5); (try replace oB := oB.cur h0 (by omega) e5); (try replace hE := hE.trans e5); obtain ⟨x5, rfl, hx5⟩ := hr5)
    | ((with_reducible refine OBL.mk ?_ (fun _ => ?_)); exact ⟨by omega, by omega, his⟩)
    | ((with_reducible refine BIF.dec ?_ ?_) <;> intro _)
    | ((with_reducible refine BIF.s ?_ ?_) <;> intro _)
    | (with_reducible refine NEXTK.normal ?_)
    | (with_reducible refine NEXTK.ret ?_)
    | (with_reducible refine NEXTK.exit ?_)
    | (with_reducible refine SEQ.plain ?_)
    | (with_reducible refine hK _ _ ?_)
    | ((with_reducible refine RUNL.agg (fun _ => ?_) ?_); (focus kernel_rfl))
    | (with_reducible refine RUNL.run ?_)
    | ((with_reducible refine AR.ok ?_ ?_); exact ⟨by first | omega | (dsimp only; omega), by first | omega | (dsimp only; omega)⟩)
    | (with_reducible refine AR.wr ?_)
    | ((with_reducible intro w3 e3); try have z3 := cutLe e3)
    | ((with_reducible intro h3); have h4 := Nat.le_of_lt h3; clear h4)))
  all_goals
    refine ELD.at (enc := encS) (xs := xs) x5.toNat hr ha (by omega) (by omega) (fun y hy => ?_)
    have hpy : y.size ≤ 1000 := Nat.le_of_ble_eq_true (List.all_eq_true.1 hz y (List.mem_of_getElem? hy))
    repeat (any_goals (
      conv => whnf
      first
      | ((with_reducible refine BIF.dec ?_ ?_) <;> intro _)
      | ((with_reducible refine BIF.s ?_ ?_) <;> intro _)
      | (with_reducible refine NEXTK.normal ?_)
      | (with_reducible refine NEXTK.ret ?_)
      | (with_reducible refine NEXTK.exit ?_)
      | (with_reducible refine SEQ.plain ?_)
      | (with_reducible refine hK _ _ ?_)
      | ((with_reducible refine RUNL.agg (fun _ => ?_) ?_); (focus kernel_rfl))
      | (with_reducible refine RUNL.run ?_)
      | ((with_reducible refine AR.ok ?_ ?_); exact ⟨by first | omega | (dsimp only; omega), by first | omega | (dsimp only; omega)⟩)
      | (with_reducible refine AR.wr ?_)
      | ((with_reducible intro w3 e3); try have z3 := cutLe e3)
      | ((with_reducible intro h3); have h4 := Nat.le_of_lt h3; clear h4)))
    intro hx
    exact ⟨_, rfl, hx, ⟨_, rfl, hpy⟩, hC⟩
end Go.Proofs.YtpddilkonkkppaaGreatDoor
