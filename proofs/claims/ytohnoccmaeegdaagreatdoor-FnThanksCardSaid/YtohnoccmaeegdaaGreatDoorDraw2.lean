/- The draws of gifts. -/
import Derived.Test.YtohnoccmaeegdaaGreatDoorRows
import Derived.Test.YtohnoccmaeegdaaGreatDoorDraw
import Derived.Test.YtohnoccmaeegdaaGreatDoorStrs
import Derived.Test.YtohnoccmaeegdaaGreatDoorGifts
namespace Go.Proofs.YtohnoccmaeegdaaGreatDoor
open Go Go.X Go.Proofs Go.ChangeShapes Go.WideShapes Go.ChangeAt Go.RowKit
open Go.ChangeMaps (open_string shut_string)
set_option maxHeartbeats 1000000
set_option maxRecDepth 20000
set_option linter.unusedVariables false
set_option linter.unusedSimpArgs false
def strsOf (ps : List (Nat × Value)) : List ByteArray := ps.map fun p => match p.2 with | .string z => z | _ => ByteArray.empty
theorem bsT {c : Ctx} {E : List (Nat × TV)} {B : List Bx} {w : World} {k : Value → World → Prop} {n : Nat} {ps : Array (Nat × Value)} (hp : ps.toList = ((strsOf ps.toList).zipIdx 0).map fun x => (x.2, Value.string x.1)) (hn : (strsOf ps.toList).length = n) (hs : n ≤ 1000)
    (hP : c.P = Tryz.prog) (h : ∀ w', E0 w w' → Own w' w.heap.size 9 1 (.slice (some ⟨w.heap.size, 0, none⟩) n n) ((strsOf ps.toList).map encS) → k (.slice (some ⟨w.heap.size, 0, none⟩) n n) w') : WOP c ⟨E, B, w⟩ (Instr.buildSlice 34 n ps) k := by
  subst hn
  generalize strsOf ps.toList = xs at *
  refine bsS (hP ▸ elemS) (xs.map fun x => Value.string x) ?_ (by simp) (by intro v hv; obtain ⟨x, -, rfl⟩ := List.mem_map.1 hv; rfl) (by omega) (fun w' e o => h w' e ?_)
  · rw [hp, List.zipIdx_map, List.map_map]; rfl
  · have : (xs.map fun x => Value.string x).map (fun v => v.cells.toList) = xs.map encS := by rw [List.map_map]; rfl
    rw [this] at o; exact o
def RS (v : Value) : Prop := ∃ r : ByteArray, v = .string r ∧ r.size ≤ 1000
theorem of_c (b : Nat) (cd : Cd) (k : Int) (a : Option Addr) (n c : Nat) (xs : List ByteArray) (w : World) (hC : Cu w b cd k) (hk : 0 ≤ k ∧ k ≤ 1099511627000) (hr : Row w a 1 (xs.map encS)) (hn : xs.length = n) (h0 : 0 < n ∧ n ≤ 65536) (ha : ¬ mAddr (onB b) a) (hz : (xs.all fun s => Nat.ble s.size 1000) = true) :
    Calls Tryz.prog 24 #[.pointer (some ⟨b, 0, none⟩), .slice a n c] w fun e w' => ∃ v, e = .returned v ∧ Ext (onB b) w w' ∧ RS v ∧ Cu w' b cd (k + 2) := by
  refine enterK (onB b) 12 Tryz.func24 rfl rfl rfl fun K hK => ?_
  have hb := hC.lt
  have his := hr.isSome (by simp; omega)
  repeat (any_goals (
    conv => whnf
    first
    | ((with_reducible refine callM (g := 54) ?_ ?_); kernel_rfl; refine ⟨onB _, _, (by repeat (first | exact trivial | (refine ⟨?_, ?_⟩; (focus (show ¬ _ = _; dsimp only; omega))))), (by first | exact fun _ _ hj => hj | (intro j hj hjb; unfold onB at hjb; exfalso; omega)), pick_c _ _ _ _ _ hC (by omega), ?_⟩; intro r5 w5 e5 h5; have z5 := cutLe e5; obtain ⟨hr5, hC⟩ := h5; (try replace hown := hown.cur h0 (by omega) e5); (try replace hown2 := hown2.cur h0 (by omega) e5); (try replace oB := oB.cur h0 (by omega) e5); (try replace hE := hE.trans e5); obtain ⟨x5, rfl, hx5⟩ := hr5)
    | ((with_reducible refine OBL.mk ?_ (fun _ => ?_)); exact ⟨by omega, by omega, his⟩)
    | ((with_reducible refine BIF.dec ?_ ?_) <;> intro _)
    | ((with_reducible refine BIF.s ?_ ?_) <;> intro _)
    | (with_reducible refine NEXTK.normal ?_)
    | (with_reducible refine NEXTK.ret ?_)
    | (with_reducible refine NEXTK.exit ?_)
    | (with_reducible refine SEQ.plain ?_)
    | (with_reducible refine hK _ _ ?_)
    | ((with_reducible refine RUNL.agg (fun _ => ?_) ?_); (focus kernel_rfl))
    | (with_reducible refine RUNL.run ?_)
    | ((with_reducible refine AR.ok ?_ ?_); exact ⟨by first | omega | (dsimp only; omega), by first | omega | (dsimp only; omega)⟩)
    | (with_reducible refine AR.wr ?_)
    | ((with_reducible intro w3 e3); try have z3 := cutLe e3)
    | ((with_reducible intro h3); have h4 := Nat.le_of_lt h3; clear h4)))
  all_goals
    refine ELD.at (enc := encS) (xs := xs) x5.toNat hr ha (by omega) (by omega) (fun y hy => ?_)
    have hpy : y.size ≤ 1000 := Nat.le_of_ble_eq_true (List.all_eq_true.1 hz y (List.mem_of_getElem? hy))
    repeat (any_goals (
      conv => whnf
      first
      | ((with_reducible refine BIF.dec ?_ ?_) <;> intro _)
      | ((with_reducible refine BIF.s ?_ ?_) <;> intro _)
      | (with_reducible refine NEXTK.normal ?_)
      | (with_reducible refine NEXTK.ret ?_)
      | (with_reducible refine NEXTK.exit ?_)
      | (with_reducible refine SEQ.plain ?_)
      | (with_reducible refine hK _ _ ?_)
      | ((with_reducible refine RUNL.agg (fun _ => ?_) ?_); (focus kernel_rfl))
      | (with_reducible refine RUNL.run ?_)
      | ((with_reducible refine AR.ok ?_ ?_); exact ⟨by first | omega | (dsimp only; omega), by first | omega | (dsimp only; omega)⟩)
      | (with_reducible refine AR.wr ?_)
      | ((with_reducible intro w3 e3); try have z3 := cutLe e3)
      | ((with_reducible intro h3); have h4 := Nat.le_of_lt h3; clear h4)))
    intro hx
    exact ⟨_, rfl, hx, ⟨_, rfl, hpy⟩, hC⟩
theorem giver_c (b : Nat) (cd : Cd) (k : Int) (w : World) (hC : Cu w b cd k) (hk : 0 ≤ k ∧ k ≤ 1000000000000) :
    Calls Tryz.prog 56 #[.pointer (some ⟨b, 0, none⟩)] w fun e w' => ∃ v, e = .returned v ∧ Ext (onB b) w w' ∧ RS v ∧ Cu w' b cd (k + 2) := by
  refine enterK (onB b) 6 Tryz.func56 rfl rfl rfl fun K hK => ?_
  have hb := hC.lt
  have h0 := hC
  repeat (any_goals (
    conv => whnf
    first
    | ((with_reducible intro w3 e3); have z3 := cutLe e3; (try replace hC := (by first | exact hC.e0 e3 | exact hC.past h0 e3 (fun j hj e => by simp only [bk] at e; omega))); (try replace hown := (by first | exact hown.e0 e3 | exact hown.ext e3 (by intro kk hkk h; have hh := (hown.block hkk).1; simp only [bk] at h; omega))); (try replace hown2 := (by first | exact hown2.e0 e3 | exact hown2.ext e3 (by intro kk hkk h; have hh := (hown2.block hkk).1; simp only [bk] at h; omega))))
    | ((with_reducible refine bsT ?_ ?_ ?_ ?_ ?_); (focus rfl); (focus rfl); (focus omega); (focus rfl); intro w9 e9 oB; have z9 := cutLe e9; replace hC := hC.e0 e9; (try replace hown := hown.e0 e9); (try replace hown2 := hown2.e0 e9); (try replace hE := hE.trans (Ext.of0 e9)))
    | ((with_reducible refine callM (g := 24) ?_ ?_); kernel_rfl; refine ⟨onB _, _, (by repeat (first | exact trivial | (refine ⟨?_, ?_⟩; (focus (show ¬ _ = _; dsimp only; omega))))), (by first | exact fun _ _ hj => hj | (intro j hj hjb; unfold onB at hjb; exfalso; omega)), of_c _ _ _ _ _ _ _ _ hC (by omega) oB.row.1 (by first | rfl | (simp; omega)) (by omega) (notOn (by omega)) (by kernel_rfl), ?_⟩; intro r5 w5 e5 h5; have z5 := cutLe e5; obtain ⟨hr5, hC⟩ := h5; (try replace hown := hown.cur h0 (by omega) e5); (try replace hown2 := hown2.cur h0 (by omega) e5); (try replace oB := oB.cur h0 (by omega) e5); (try replace hE := hE.trans e5); obtain ⟨x5, rfl, hx5⟩ := hr5)
    | ((with_reducible refine BIF.dec ?_ ?_) <;> intro _)
    | ((with_reducible refine BIF.s ?_ ?_) <;> intro _)
    | (with_reducible refine NEXTK.normal ?_)
    | (with_reducible refine NEXTK.ret ?_)
    | (with_reducible refine NEXTK.exit ?_)
    | (with_reducible refine SEQ.plain ?_)
    | (with_reducible refine hK _ _ ?_)
    | ((with_reducible refine RUNL.agg (fun _ => ?_) ?_); (focus kernel_rfl))
    | (with_reducible refine RUNL.run ?_)
    | ((with_reducible refine AR.ok ?_ ?_); exact ⟨by first | omega | (dsimp only; omega), by first | omega | (dsimp only; omega)⟩)
    | (with_reducible refine AR.wr ?_)
    | ((with_reducible intro w3 e3); try have z3 := cutLe e3)
    | ((with_reducible intro h3); have h4 := Nat.le_of_lt h3; clear h4)))
  all_goals
    intro hx
    exact ⟨_, rfl, hx, ⟨_, rfl, hx5⟩, hC⟩
def RG (v : Value) : Prop := ∃ x : Gft, v = .agg (encGft x).toArray ∧ fitGft x
theorem gift_c (b : Nat) (cd : Cd) (k : Int) (id day : Int) (w : World) (hC : Cu w b cd k) (hk : 0 ≤ k ∧ k ≤ 1000000000000) (hid : -100000 ≤ id ∧ id ≤ 100000) (hday : -100000 ≤ day ∧ day ≤ 100000) :
    Calls Tryz.prog 48 #[.pointer (some ⟨b, 0, none⟩), .int .i64 id, .int .i64 day] w fun e w' => ∃ v, e = .returned v ∧ Ext (onB b) w w' ∧ RG v ∧ Cu w' b cd (k + 20) := by
  refine enterK (onB b) 59 Tryz.func48 rfl rfl rfl fun K hK => ?_
  have hb := hC.lt
  have h0 := hC
  repeat (any_goals (
    conv => whnf
    first
    | ((with_reducible intro w3 e3); have z3 := cutLe e3; (try replace hC := (by first | exact hC.e0 e3 | exact hC.past h0 e3 (fun j hj e => by simp only [bk] at e; omega))); (try replace hown := (by first | exact hown.e0 e3 | exact hown.ext e3 (by intro kk hkk h; have hh := (hown.block hkk).1; simp only [bk] at h; omega))); (try replace hown2 := (by first | exact hown2.e0 e3 | exact hown2.ext e3 (by intro kk hkk h; have hh := (hown2.block hkk).1; simp only [bk] at h; omega))))
    | ((with_reducible refine bsI ?_ ?_ ?_ ?_ ?_); (focus rfl); (focus rfl); (focus omega); (focus rfl); intro w9 e9 oB; have z9 := cutLe e9; replace hC := hC.e0 e9; (try replace hown := hown.e0 e9); (try replace hown2 := hown2.e0 e9); (try replace hE := hE.trans (Ext.of0 e9)))
    | ((with_reducible refine bsT ?_ ?_ ?_ ?_ ?_); (focus rfl); (focus rfl); (focus omega); (focus rfl); intro w9 e9 oB; have z9 := cutLe e9; replace hC := hC.e0 e9; (try replace hown := hown.e0 e9); (try replace hown2 := hown2.e0 e9); (try replace hE := hE.trans (Ext.of0 e9)))
    | ((with_reducible refine callM (g := 49) ?_ ?_); kernel_rfl; refine ⟨onB _, _, (by repeat (first | exact trivial | (refine ⟨?_, ?_⟩; (focus (show ¬ _ = _; dsimp only; omega))))), (by first | exact fun _ _ hj => hj | (intro j hj hjb; unfold onB at hjb; exfalso; omega)), among_c _ _ _ _ _ _ _ (fun r => -200000 ≤ r ∧ r ≤ 200000) _ hC (by omega) oB.row.1 (by first | rfl | (simp; omega)) (by omega) (notOn (by omega)) (by intro y hy; unfold intsOf at hy; simp at hy; omega), ?_⟩; intro r5 w5 e5 h5; have z5 := cutLe e5; obtain ⟨hr5, hC⟩ := h5; (try replace hown := hown.cur h0 (by omega) e5); (try replace hown2 := hown2.cur h0 (by omega) e5); (try replace oB := oB.cur h0 (by omega) e5); (try replace hE := hE.trans e5); obtain ⟨x5, rfl, hx5⟩ := hr5)
    | ((with_reducible refine callM (g := 24) ?_ ?_); kernel_rfl; refine ⟨onB _, _, (by repeat (first | exact trivial | (refine ⟨?_, ?_⟩; (focus (show ¬ _ = _; dsimp only; omega))))), (by first | exact fun _ _ hj => hj | (intro j hj hjb; unfold onB at hjb; exfalso; omega)), of_c _ _ _ _ _ _ _ _ hC (by omega) oB.row.1 (by first | rfl | (simp; omega)) (by omega) (notOn (by omega)) (by kernel_rfl), ?_⟩; intro r5 w5 e5 h5; have z5 := cutLe e5; obtain ⟨hr5, hC⟩ := h5; (try replace hown := hown.cur h0 (by omega) e5); (try replace hown2 := hown2.cur h0 (by omega) e5); (try replace oB := oB.cur h0 (by omega) e5); (try replace hE := hE.trans e5); obtain ⟨x5, rfl, hx5⟩ := hr5)
    | ((with_reducible refine callM (g := 56) ?_ ?_); kernel_rfl; refine ⟨onB _, _, (by repeat (first | exact trivial | (refine ⟨?_, ?_⟩; (focus (show ¬ _ = _; dsimp only; omega))))), (by first | exact fun _ _ hj => hj | (intro j hj hjb; unfold onB at hjb; exfalso; omega)), giver_c _ _ _ _ hC (by omega), ?_⟩; intro r5 w5 e5 h5; have z5 := cutLe e5; obtain ⟨hr5, hC⟩ := h5; (try replace hown := hown.cur h0 (by omega) e5); (try replace hown2 := hown2.cur h0 (by omega) e5); (try replace oB := oB.cur h0 (by omega) e5); (try replace hE := hE.trans e5); obtain ⟨x5, rfl, hx5⟩ := hr5)
    | ((with_reducible refine callM (g := 55) ?_ ?_); kernel_rfl; refine ⟨onB _, _, (by repeat (first | exact trivial | (refine ⟨?_, ?_⟩; (focus (show ¬ _ = _; dsimp only; omega))))), (by first | exact fun _ _ hj => hj | (intro j hj hjb; unfold onB at hjb; exfalso; omega)), one_c _ _ _ _ _ hC (by omega), ?_⟩; intro r5 w5 e5 h5; have z5 := cutLe e5; obtain ⟨hr5, hC⟩ := h5; (try replace hown := hown.cur h0 (by omega) e5); (try replace hown2 := hown2.cur h0 (by omega) e5); (try replace oB := oB.cur h0 (by omega) e5); (try replace hE := hE.trans e5); obtain ⟨x5, rfl, hx5⟩ := hr5)
    | ((with_reducible refine callM (g := 54) ?_ ?_); kernel_rfl; refine ⟨onB _, _, (by repeat (first | exact trivial | (refine ⟨?_, ?_⟩; (focus (show ¬ _ = _; dsimp only; omega))))), (by first | exact fun _ _ hj => hj | (intro j hj hjb; unfold onB at hjb; exfalso; omega)), pick_c _ _ _ _ _ hC (by omega), ?_⟩; intro r5 w5 e5 h5; have z5 := cutLe e5; obtain ⟨hr5, hC⟩ := h5; (try replace hown := hown.cur h0 (by omega) e5); (try replace hown2 := hown2.cur h0 (by omega) e5); (try replace oB := oB.cur h0 (by omega) e5); (try replace hE := hE.trans e5); obtain ⟨x5, rfl, hx5⟩ := hr5)
    | ((with_reducible refine BIF.dec ?_ ?_) <;> intro _)
    | ((with_reducible refine BIF.s ?_ ?_) <;> intro _)
    | (with_reducible refine NEXTK.normal ?_)
    | (with_reducible refine NEXTK.ret ?_)
    | (with_reducible refine NEXTK.exit ?_)
    | (with_reducible refine SEQ.plain ?_)
    | (with_reducible refine hK _ _ ?_)
    | ((with_reducible refine RUNL.agg (fun _ => ?_) ?_); (focus kernel_rfl))
    | (with_reducible refine RUNL.run ?_)
    | ((with_reducible refine AR.ok ?_ ?_); exact ⟨by first | omega | (dsimp only; omega), by first | omega | (dsimp only; omega)⟩)
    | (with_reducible refine AR.wr ?_)
    | ((with_reducible intro w3 e3); try have z3 := cutLe e3)
    | ((with_reducible intro h3); have h4 := Nat.le_of_lt h3; clear h4)))
  all_goals
    intro hx
    exact ⟨_, rfl, hx, ⟨⟨_, _, _, _, _⟩, rfl, by simp only [fitGft, maxLen]; omega⟩, hC.mono (by omega)⟩
theorem gifts_c (b : Nat) (cd : Cd) (k : Int) (w : World) (hC : Cu w b cd k) (hk : 0 ≤ k ∧ k ≤ 900000000000) :
    Calls Tryz.prog 23 #[.pointer (some ⟨b, 0, none⟩)] w fun e w' => ∃ v, e = .returned v ∧ Ext (onB b) w w' ∧ RL encGft fitGft 41 5 w.heap.size 13 w' v ∧ Cu w' b cd (k + 400) := by
  refine enterK (onB b) 67 Tryz.func23 rfl rfl rfl fun K hK => ?_
  have hb := hC.lt
  have h0 := hC
  conv => whnf
  repeat (first | ((with_reducible refine NEXTK.normal ?_); conv => whnf) | ((with_reducible refine NEXTK.exit ?_); conv => whnf) | ((with_reducible refine NEXTK.ret ?_); conv => whnf) | ((with_reducible refine SEQ.plain ?_); conv => whnf) | ((with_reducible refine AR.ok ?_ ?_); exact ⟨by omega, by omega⟩; conv => whnf))
  refine bsS elemGft [] rfl rfl (by simp) (by omega) (fun w9 e9 hown => ?_)
  have z9 := cutLe e9
  replace hC := hC.e0 e9
  repeat (any_goals (
    conv => whnf
    first
    | ((with_reducible intro w3 e3); have z3 := cutLe e3; (try replace hC := (by first | exact hC.e0 e3 | exact hC.past h0 e3 (fun j hj e => by simp only [bk] at e; omega))); (try replace hown := (by first | exact hown.e0 e3 | exact hown.ext e3 (by intro kk hkk h; have hh := (hown.block hkk).1; simp only [bk] at h; omega))); (try replace hown2 := (by first | exact hown2.e0 e3 | exact hown2.ext e3 (by intro kk hkk h; have hh := (hown2.block hkk).1; simp only [bk] at h; omega))))
    | ((with_reducible refine bsI ?_ ?_ ?_ ?_ ?_); (focus rfl); (focus rfl); (focus omega); (focus rfl); intro w9 e9 oB; have z9 := cutLe e9; replace hC := hC.e0 e9; (try replace hown := hown.e0 e9); (try replace hown2 := hown2.e0 e9); (try replace hE := hE.trans (Ext.of0 e9)))
    | ((with_reducible refine callM (g := 49) ?_ ?_); kernel_rfl; refine ⟨onB _, _, (by repeat (first | exact trivial | (refine ⟨?_, ?_⟩; (focus (show ¬ _ = _; dsimp only; omega))))), (by first | exact fun _ _ hj => hj | (intro j hj hjb; unfold onB at hjb; exfalso; omega)), among_c _ _ _ _ _ _ _ (fun r => 0 ≤ r ∧ r ≤ 4000) _ hC (by omega) oB.row.1 (by first | rfl | (simp; omega)) (by omega) (notOn (by omega)) (by intro y hy; unfold intsOf at hy; simp at hy; omega), ?_⟩; intro r5 w5 e5 h5; have z5 := cutLe e5; obtain ⟨hr5, hC⟩ := h5; (try replace hown := hown.cur h0 (by omega) e5); (try replace hown2 := hown2.cur h0 (by omega) e5); (try replace oB := oB.cur h0 (by omega) e5); (try replace hE := hE.trans e5); obtain ⟨x5, rfl, hx5⟩ := hr5)
    | ((with_reducible refine callM (g := 54) ?_ ?_); kernel_rfl; refine ⟨onB _, _, (by repeat (first | exact trivial | (refine ⟨?_, ?_⟩; (focus (show ¬ _ = _; dsimp only; omega))))), (by first | exact fun _ _ hj => hj | (intro j hj hjb; unfold onB at hjb; exfalso; omega)), pick_c _ _ _ _ _ hC (by omega), ?_⟩; intro r5 w5 e5 h5; have z5 := cutLe e5; obtain ⟨hr5, hC⟩ := h5; (try replace hown := hown.cur h0 (by omega) e5); (try replace hown2 := hown2.cur h0 (by omega) e5); (try replace oB := oB.cur h0 (by omega) e5); (try replace hE := hE.trans e5); obtain ⟨x5, rfl, hx5⟩ := hr5)
    | ((with_reducible refine BIF.dec ?_ ?_) <;> intro _)
    | ((with_reducible refine BIF.s ?_ ?_) <;> intro _)
    | (with_reducible refine NEXTK.normal ?_)
    | (with_reducible refine NEXTK.ret ?_)
    | (with_reducible refine NEXTK.exit ?_)
    | (with_reducible refine SEQ.plain ?_)
    | (with_reducible refine hK _ _ ?_)
    | ((with_reducible refine RUNL.agg (fun _ => ?_) ?_); (focus kernel_rfl))
    | (with_reducible refine RUNL.run ?_)
    | ((with_reducible refine AR.ok ?_ ?_); exact ⟨by first | omega | (dsimp only; omega), by first | omega | (dsimp only; omega)⟩)
    | (with_reducible refine AR.wr ?_)
    | ((with_reducible intro w3 e3); try have z3 := cutLe e3)
    | ((with_reducible intro h3); have h4 := Nat.le_of_lt h3; clear h4)))
  conv => whnf
  replace hown : Own w5 w.heap.size 41 5 (.slice (some ⟨w.heap.size, 0, none⟩) 0 0) (([] : List Gft).map encGft) := hown
  obtain ⟨n0, hn0, hn1⟩ : ∃ n0 : Int, n0 = x5 ∧ 0 ≤ n0 ∧ n0 ≤ 7 := ⟨x5, rfl, by omega, by omega⟩
  refine LOOP.mk (Nat × (Option Addr × Nat) × List Gft × Int × Int) (fun g => [(3, .v (.slice g.2.1.1 g.2.2.1.length g.2.1.2)), (4, .v (.int .i64 g.2.2.2.1)), (5, .v (.int .i64 g.2.2.2.2)), (6, .v (.int .i64 (n0 - g.1)))])
    (fun g wr => g.1 ≤ n0 ∧ w.heap.size ≤ wr.heap.size ∧ g.2.2.1.length ≤ g.1 ∧ (∀ x ∈ g.2.2.1, fitGft x) ∧ (-g.1 ≤ g.2.2.2.1 ∧ g.2.2.2.1 ≤ 3 * g.1) ∧ (-g.1 ≤ g.2.2.2.2 ∧ g.2.2.2.2 ≤ 4000 + 4000 * g.1) ∧ Own wr w.heap.size 41 5 (.slice g.2.1.1 g.2.2.1.length g.2.1.2) (g.2.2.1.map encGft) ∧ Cu wr b cd (k + 4 + 40 * g.1)) (fun g => (n0 - g.1).toNat) (0, (some ⟨w.heap.size, 0, none⟩, 0), [], 0, _) rfl ⟨rfl, rfl, rfl, by rw [hn0]; simp [lk, Nat.beq], trivial⟩ ⟨by simp only; omega, by show w.heap.size ≤ w5.heap.size; omega, by simp, by simp, by simp, by simp only; omega, hown, hC.mono (by simp only; omega)⟩ ?_
  clear hown hC
  rintro ⟨j, ⟨a1, c1⟩, ys, id, dy⟩ wr - ⟨hj, hz, hlen, hfit, hid, hdy, hown, hC⟩
  simp only at hj hz hlen hfit hid hdy hown hC
  dsimp only
  conv => whnf
  repeat (first | ((with_reducible refine NEXTK.normal ?_); conv => whnf) | ((with_reducible refine NEXTK.exit ?_); conv => whnf) | ((with_reducible refine NEXTK.ret ?_); conv => whnf) | ((with_reducible refine SEQ.plain ?_); conv => whnf) | ((with_reducible refine AR.ok ?_ ?_); exact ⟨by omega, by omega⟩; conv => whnf))
  refine BIF.dec (fun hlt => ?_) (fun hlt => ?_)
  · repeat (any_goals (
      conv => whnf
      first
      | ((with_reducible intro w3 e3); have z3 := cutLe e3; (try replace hC := (by first | exact hC.e0 e3 | exact hC.past h0 e3 (fun j hj e => by simp only [bk] at e; omega))); (try replace hown := (by first | exact hown.e0 e3 | exact hown.ext e3 (by intro kk hkk h; have hh := (hown.block hkk).1; simp only [bk] at h; omega))); (try replace hown2 := (by first | exact hown2.e0 e3 | exact hown2.ext e3 (by intro kk hkk h; have hh := (hown2.block hkk).1; simp only [bk] at h; omega))))
      | ((with_reducible refine callM (g := 54) ?_ ?_); kernel_rfl; refine ⟨onB _, _, (by repeat (first | exact trivial | (refine ⟨?_, ?_⟩; (focus (show ¬ _ = _; dsimp only; omega))))), (by first | exact fun _ _ hj => hj | (intro j hj hjb; unfold onB at hjb; exfalso; omega)), pick_c _ _ _ _ _ hC (by omega), ?_⟩; intro r5 w5 e5 h5; have z5 := cutLe e5; obtain ⟨hr5, hC⟩ := h5; (try replace hown := hown.cur h0 (by omega) e5); (try replace hown2 := hown2.cur h0 (by omega) e5); (try replace oB := oB.cur h0 (by omega) e5); (try replace hE := hE.trans e5); obtain ⟨x5, rfl, hx5⟩ := hr5)
      | ((with_reducible refine OBL.mk (o := ((149 : Int) ≠ 0)) ?_ (fun _ => ?_)); (focus decide); have td5 := tdiv_b (x := x5) (m := 149) (by omega) (by omega))
      | ((with_reducible refine callM (g := 48) ?_ ?_); kernel_rfl; refine ⟨onB _, _, (by repeat (first | exact trivial | (refine ⟨?_, ?_⟩; (focus (show ¬ _ = _; dsimp only; omega))))), (by first | exact fun _ _ hj => hj | (intro j hj hjb; unfold onB at hjb; exfalso; omega)), gift_c _ _ _ _ _ _ hC (by omega) (by omega) (by omega), ?_⟩; intro r5 w5 e5 h5; have z5 := cutLe e5; obtain ⟨hr5, hC⟩ := h5; (try replace hown := hown.cur h0 (by omega) e5); (try replace hown2 := hown2.cur h0 (by omega) e5); (try replace oB := oB.cur h0 (by omega) e5); (try replace hE := hE.trans e5); obtain ⟨x5, rfl, hx5⟩ := hr5)
      | ((with_reducible refine bsS elemGft [.agg (encGft x5).toArray] ?_ ?_ ?_ ?_ ?_); (focus rfl); (focus rfl); (focus (intro v hv; simp at hv; subst hv; rfl)); (focus omega); intro w9 e9 oB; have z9 := cutLe e9; (try replace oC := oC.e0 e9))
      | ((with_reducible refine BIF.dec ?_ ?_) <;> intro _)
      | ((with_reducible refine BIF.s ?_ ?_) <;> intro _)
      | (with_reducible refine NEXTK.normal ?_)
      | (with_reducible refine NEXTK.ret ?_)
      | (with_reducible refine NEXTK.exit ?_)
      | (with_reducible refine SEQ.plain ?_)
      | (with_reducible refine hK _ _ ?_)
      | ((with_reducible refine RUNL.agg (fun _ => ?_) ?_); (focus kernel_rfl))
      | (with_reducible refine RUNL.run ?_)
      | ((with_reducible refine AR.ok ?_ ?_); exact ⟨by first | omega | (dsimp only; omega), by first | omega | (dsimp only; omega)⟩)
      | (with_reducible refine AR.wr ?_)
      | ((with_reducible intro w3 e3); try have z3 := cutLe e3)
      | ((with_reducible intro h3); have h4 := Nat.le_of_lt h3; clear h4)))
    conv => whnf
    replace hC := hC.e0 e9
    replace hown := hown.e0 e9
    refine apS (ns := [encGft x5]) elemGft hown oB.row.1 rfl (by intro l hl; simp at hl; subst hl; rfl) ⟨by simp; omega, by simp; omega⟩ ⟨(by show w.heap.size ≤ _; omega), by omega⟩ trivial (fun v2 w2 x2 o2 => ?_)
    have z2 := cutLe x2
    replace hC := hC.own h0 x2 hown (by omega)
    obtain ⟨zs, hzs⟩ : ∃ zs, zs = ys ++ [x5] := ⟨_, rfl⟩
    replace hown : Own w2 w.heap.size 41 5 v2 (zs.map encGft) := by rw [hzs]; simpa using o2
    have hzf : ∀ x ∈ zs, fitGft x := by rw [hzs]; intro x hx; rcases List.mem_append.1 hx with h | h; exact hfit x h; rw [List.mem_singleton.1 h]; exact hx5
    have hzl : zs.length = ys.length + 1 := by rw [hzs]; simp
    obtain ⟨b2, d2, rfl, q2, p2⟩ := hown.rowx
    repeat (any_goals (
      conv => whnf
      first
      | ((with_reducible intro w3 e3); have z3 := cutLe e3; (try replace hC := (by first | exact hC.e0 e3 | exact hC.past h0 e3 (fun j hj e => by simp only [bk] at e; omega))); (try replace hown := (by first | exact hown.e0 e3 | exact hown.ext e3 (by intro kk hkk h; have hh := (hown.block hkk).1; simp only [bk] at h; omega))); (try replace hown2 := (by first | exact hown2.e0 e3 | exact hown2.ext e3 (by intro kk hkk h; have hh := (hown2.block hkk).1; simp only [bk] at h; omega))))
      | ((with_reducible refine bsI ?_ ?_ ?_ ?_ ?_); (focus rfl); (focus rfl); (focus omega); (focus rfl); intro w9 e9 oB; have z9 := cutLe e9; replace hC := hC.e0 e9; (try replace hown := hown.e0 e9); (try replace hown2 := hown2.e0 e9); (try replace hE := hE.trans (Ext.of0 e9)))
      | ((with_reducible refine callM (g := 49) ?_ ?_); kernel_rfl; refine ⟨onB _, _, (by repeat (first | exact trivial | (refine ⟨?_, ?_⟩; (focus (show ¬ _ = _; dsimp only; omega))))), (by first | exact fun _ _ hj => hj | (intro j hj hjb; unfold onB at hjb; exfalso; omega)), among_c _ _ _ _ _ _ _ (fun r => 0 ≤ r ∧ r ≤ 4000) _ hC (by omega) oB.row.1 (by first | rfl | (simp; omega)) (by omega) (notOn (by omega)) (by intro y hy; unfold intsOf at hy; simp at hy; omega), ?_⟩; intro r5 w5 e5 h5; have z5 := cutLe e5; obtain ⟨hr5, hC⟩ := h5; (try replace hown := hown.cur h0 (by omega) e5); (try replace hown2 := hown2.cur h0 (by omega) e5); (try replace oB := oB.cur h0 (by omega) e5); (try replace hE := hE.trans e5); obtain ⟨x5, rfl, hx5⟩ := hr5)
      | ((with_reducible refine callM (g := 54) ?_ ?_); kernel_rfl; refine ⟨onB _, _, (by repeat (first | exact trivial | (refine ⟨?_, ?_⟩; (focus (show ¬ _ = _; dsimp only; omega))))), (by first | exact fun _ _ hj => hj | (intro j hj hjb; unfold onB at hjb; exfalso; omega)), pick_c _ _ _ _ _ hC (by omega), ?_⟩; intro r5 w5 e5 h5; have z5 := cutLe e5; obtain ⟨hr5, hC⟩ := h5; (try replace hown := hown.cur h0 (by omega) e5); (try replace hown2 := hown2.cur h0 (by omega) e5); (try replace oB := oB.cur h0 (by omega) e5); (try replace hE := hE.trans e5); obtain ⟨x5, rfl, hx5⟩ := hr5)
      | ((with_reducible refine OBL.mk (o := ((149 : Int) ≠ 0)) ?_ (fun _ => ?_)); (focus decide); have td5 := tdiv_b (x := x5) (m := 149) (by omega) (by omega))
      | ((with_reducible refine BIF.dec ?_ ?_) <;> intro _)
      | ((with_reducible refine BIF.s ?_ ?_) <;> intro _)
      | (with_reducible refine NEXTK.normal ?_)
      | (with_reducible refine NEXTK.ret ?_)
      | (with_reducible refine NEXTK.exit ?_)
      | (with_reducible refine SEQ.plain ?_)
      | (with_reducible refine hK _ _ ?_)
      | ((with_reducible refine RUNL.agg (fun _ => ?_) ?_); (focus kernel_rfl))
      | (with_reducible refine RUNL.run ?_)
      | ((with_reducible refine AR.ok ?_ ?_); exact ⟨by first | omega | (dsimp only; omega), by first | omega | (dsimp only; omega)⟩)
      | (with_reducible refine AR.wr ?_)
      | ((with_reducible intro w3 e3); try have z3 := cutLe e3)
      | ((with_reducible intro h3); have h4 := Nat.le_of_lt h3; clear h4)))
    refine ⟨(j + 1, (b2, d2), zs, _, _), rfl, ⟨rfl, rfl, rfl, ?_, trivial⟩, rfl, rfl, ⟨by simp only; omega, by show w.heap.size ≤ w5.heap.size; omega, by simp only; omega, hzf, by simp only; omega, by simp only; omega, hown, hC.mono (by simp only; omega)⟩, by simp only; omega⟩
    refine congrArg (fun z => TV.v (Value.int .i64 z)) ?_
    simp only
    omega
  · repeat (any_goals (
      conv => whnf
      first
      | ((with_reducible intro w3 e3); have z3 := cutLe e3; (try replace hC := (by first | exact hC.e0 e3 | exact hC.past h0 e3 (fun j hj e => by simp only [bk] at e; omega))); (try replace hown := (by first | exact hown.e0 e3 | exact hown.ext e3 (by intro kk hkk h; have hh := (hown.block hkk).1; simp only [bk] at h; omega))); (try replace hown2 := (by first | exact hown2.e0 e3 | exact hown2.ext e3 (by intro kk hkk h; have hh := (hown2.block hkk).1; simp only [bk] at h; omega))))
      | ((with_reducible refine bsI ?_ ?_ ?_ ?_ ?_); (focus rfl); (focus rfl); (focus omega); (focus rfl); intro w9 e9 oB; have z9 := cutLe e9; replace hC := hC.e0 e9; (try replace hown := hown.e0 e9); (try replace hown2 := hown2.e0 e9); (try replace hE := hE.trans (Ext.of0 e9)))
      | ((with_reducible refine callM (g := 49) ?_ ?_); kernel_rfl; refine ⟨onB _, _, (by repeat (first | exact trivial | (refine ⟨?_, ?_⟩; (focus (show ¬ _ = _; dsimp only; omega))))), (by first | exact fun _ _ hj => hj | (intro j hj hjb; unfold onB at hjb; exfalso; omega)), among_c _ _ _ _ _ _ _ (fun r => 0 ≤ r ∧ r ≤ 4000) _ hC (by omega) oB.row.1 (by first | rfl | (simp; omega)) (by omega) (notOn (by omega)) (by intro y hy; unfold intsOf at hy; simp at hy; omega), ?_⟩; intro r5 w5 e5 h5; have z5 := cutLe e5; obtain ⟨hr5, hC⟩ := h5; (try replace hown := hown.cur h0 (by omega) e5); (try replace hown2 := hown2.cur h0 (by omega) e5); (try replace oB := oB.cur h0 (by omega) e5); (try replace hE := hE.trans e5); obtain ⟨x5, rfl, hx5⟩ := hr5)
      | ((with_reducible refine callM (g := 55) ?_ ?_); kernel_rfl; refine ⟨onB _, _, (by repeat (first | exact trivial | (refine ⟨?_, ?_⟩; (focus (show ¬ _ = _; dsimp only; omega))))), (by first | exact fun _ _ hj => hj | (intro j hj hjb; unfold onB at hjb; exfalso; omega)), one_c _ _ _ _ _ hC (by omega), ?_⟩; intro r5 w5 e5 h5; have z5 := cutLe e5; obtain ⟨hr5, hC⟩ := h5; (try replace hown := hown.cur h0 (by omega) e5); (try replace hown2 := hown2.cur h0 (by omega) e5); (try replace oB := oB.cur h0 (by omega) e5); (try replace hE := hE.trans e5); obtain ⟨x5, rfl, hx5⟩ := hr5)
      | ((with_reducible refine BIF.dec ?_ ?_) <;> intro _)
      | ((with_reducible refine BIF.s ?_ ?_) <;> intro _)
      | (with_reducible refine NEXTK.normal ?_)
      | (with_reducible refine NEXTK.ret ?_)
      | (with_reducible refine NEXTK.exit ?_)
      | (with_reducible refine SEQ.plain ?_)
      | (with_reducible refine hK _ _ ?_)
      | ((with_reducible refine RUNL.agg (fun _ => ?_) ?_); (focus kernel_rfl))
      | (with_reducible refine RUNL.run ?_)
      | ((with_reducible refine AR.ok ?_ ?_); exact ⟨by first | omega | (dsimp only; omega), by first | omega | (dsimp only; omega)⟩)
      | (with_reducible refine AR.wr ?_)
      | ((with_reducible intro w3 e3); try have z3 := cutLe e3)
      | ((with_reducible intro h3); have h4 := Nat.le_of_lt h3; clear h4)))
    · conv => whnf
      refine bsS elemGft [] rfl rfl (by simp) (by omega) (fun w9 e9 hown => ?_)
      have z9 := cutLe e9
      replace hC := hC.e0 e9
      replace hown : Own w9 w.heap.size 41 5 (.slice (some ⟨w5.heap.size, 0, none⟩) 0 0) (([] : List Gft).map encGft) := hown.lo (by omega)
      conv => whnf
      repeat (first | ((with_reducible refine NEXTK.normal ?_); conv => whnf) | ((with_reducible refine NEXTK.exit ?_); conv => whnf) | ((with_reducible refine NEXTK.ret ?_); conv => whnf) | ((with_reducible refine SEQ.plain ?_); conv => whnf) | ((with_reducible refine AR.ok ?_ ?_); exact ⟨by omega, by omega⟩; conv => whnf))
      refine LOOP.mk (Nat × (Option Addr × Nat) × List Gft) (fun g => [(3, .v (.slice g.2.1.1 g.2.2.length g.2.1.2)), (7, .v (.int .i64 g.1))])
        (fun g wr => g.1 ≤ 13 ∧ w.heap.size ≤ wr.heap.size ∧ g.2.2.length ≤ g.1 ∧ (∀ x ∈ g.2.2, fitGft x) ∧ Own wr w.heap.size 41 5 (.slice g.2.1.1 g.2.2.length g.2.1.2) (g.2.2.map encGft) ∧ Cu wr b cd (k + 300 + 4 * g.1)) (fun g => 13 - g.1) (0, (some ⟨w5.heap.size, 0, none⟩, 0), []) rfl ⟨rfl, rfl, trivial⟩ ⟨by simp only; omega, by show w.heap.size ≤ w9.heap.size; omega, by simp, by simp, hown, hC.mono (by simp only; omega)⟩ ?_
      clear hown hC
      rintro ⟨j, ⟨a1, c1⟩, ys⟩ wr - ⟨hj, hz, hlen, hfit, hown, hC⟩
      simp only at hj hz hlen hfit hown hC
      dsimp only
      have hjm := tmod_b (x := (j : Int)) (m := 3) (by omega) (by omega)
      conv => whnf
      repeat (first | ((with_reducible refine NEXTK.normal ?_); conv => whnf) | ((with_reducible refine NEXTK.exit ?_); conv => whnf) | ((with_reducible refine NEXTK.ret ?_); conv => whnf) | ((with_reducible refine SEQ.plain ?_); conv => whnf) | ((with_reducible refine AR.ok ?_ ?_); exact ⟨by omega, by omega⟩; conv => whnf))
      repeat (any_goals (
        conv => whnf
        first
        | ((with_reducible intro w3 e3); have z3 := cutLe e3; (try replace hC := (by first | exact hC.e0 e3 | exact hC.past h0 e3 (fun j hj e => by simp only [bk] at e; omega))); (try replace hown := (by first | exact hown.e0 e3 | exact hown.ext e3 (by intro kk hkk h; have hh := (hown.block hkk).1; simp only [bk] at h; omega))); (try replace hown2 := (by first | exact hown2.e0 e3 | exact hown2.ext e3 (by intro kk hkk h; have hh := (hown2.block hkk).1; simp only [bk] at h; omega))))
        | ((with_reducible refine callM (g := 54) ?_ ?_); kernel_rfl; refine ⟨onB _, _, (by repeat (first | exact trivial | (refine ⟨?_, ?_⟩; (focus (show ¬ _ = _; dsimp only; omega))))), (by first | exact fun _ _ hj => hj | (intro j hj hjb; unfold onB at hjb; exfalso; omega)), pick_c _ _ _ _ _ hC (by omega), ?_⟩; intro r5 w5 e5 h5; have z5 := cutLe e5; obtain ⟨hr5, hC⟩ := h5; (try replace hown := hown.cur h0 (by omega) e5); (try replace hown2 := hown2.cur h0 (by omega) e5); (try replace oB := oB.cur h0 (by omega) e5); (try replace hE := hE.trans e5); obtain ⟨x5, rfl, hx5⟩ := hr5)
        | ((with_reducible refine callM (g := 56) ?_ ?_); kernel_rfl; refine ⟨onB _, _, (by repeat (first | exact trivial | (refine ⟨?_, ?_⟩; (focus (show ¬ _ = _; dsimp only; omega))))), (by first | exact fun _ _ hj => hj | (intro j hj hjb; unfold onB at hjb; exfalso; omega)), giver_c _ _ _ _ hC (by omega), ?_⟩; intro r5 w5 e5 h5; have z5 := cutLe e5; obtain ⟨hr5, hC⟩ := h5; (try replace hown := hown.cur h0 (by omega) e5); (try replace hown2 := hown2.cur h0 (by omega) e5); (try replace oB := oB.cur h0 (by omega) e5); (try replace hE := hE.trans e5); obtain ⟨x5, rfl, hx5⟩ := hr5)
        | ((with_reducible refine OBL.mk ?_ (fun _ => ?_)); (focus decide))
        | ((with_reducible refine bsS elemGft [.agg (encGft ⟨(j : Int) + 1, x5, 1 + (j : Int).tmod 3, 10 * (j : Int), -1⟩).toArray] ?_ ?_ ?_ ?_ ?_); (focus rfl); (focus rfl); (focus (intro v hv; simp at hv; subst hv; rfl)); (focus omega); intro w9 e9 oB; have z9 := cutLe e9; (try replace oC := oC.e0 e9))
        | ((with_reducible refine BIF.dec ?_ ?_) <;> intro _)
        | ((with_reducible refine BIF.s ?_ ?_) <;> intro _)
        | (with_reducible refine NEXTK.normal ?_)
        | (with_reducible refine NEXTK.ret ?_)
        | (with_reducible refine NEXTK.exit ?_)
        | (with_reducible refine SEQ.plain ?_)
        | (with_reducible refine hK _ _ ?_)
        | ((with_reducible refine RUNL.agg (fun _ => ?_) ?_); (focus kernel_rfl))
        | (with_reducible refine RUNL.run ?_)
        | ((with_reducible refine AR.ok ?_ ?_); exact ⟨by first | omega | (dsimp only; omega), by first | omega | (dsimp only; omega)⟩)
        | (with_reducible refine AR.wr ?_)
        | ((with_reducible intro w3 e3); try have z3 := cutLe e3)
        | ((with_reducible intro h3); have h4 := Nat.le_of_lt h3; clear h4)))
      · conv => whnf
        replace hC := hC.e0 e9
        replace hown := hown.e0 e9
        refine apS (ns := [encGft ⟨(j : Int) + 1, x5, 1 + (j : Int).tmod 3, 10 * (j : Int), -1⟩]) elemGft hown oB.row.1 rfl (by intro l hl; simp at hl; subst hl; rfl) ⟨by simp; omega, by simp; omega⟩ ⟨(by show w.heap.size ≤ _; omega), by omega⟩ trivial (fun v2 w2 x2 o2 => ?_)
        have z2 := cutLe x2
        replace hC := hC.own h0 x2 hown (by omega)
        obtain ⟨zs, hzs⟩ : ∃ zs, zs = ys ++ [(⟨(j : Int) + 1, x5, 1 + (j : Int).tmod 3, 10 * (j : Int), -1⟩ : Gft)] := ⟨_, rfl⟩
        replace hown : Own w2 w.heap.size 41 5 v2 (zs.map encGft) := by rw [hzs]; simpa using o2
        have hzf : ∀ x ∈ zs, fitGft x := by
          rw [hzs]; intro x hx; rcases List.mem_append.1 hx with h | h
          · exact hfit x h
          · rw [List.mem_singleton.1 h]; simp only [fitGft, maxLen]; omega
        have hzl : zs.length = ys.length + 1 := by rw [hzs]; simp
        obtain ⟨b2, d2, rfl, q2, p2⟩ := hown.rowx
        repeat (any_goals (
          conv => whnf
          first
          | ((with_reducible refine BIF.dec ?_ ?_) <;> intro _)
          | ((with_reducible refine BIF.s ?_ ?_) <;> intro _)
          | (with_reducible refine NEXTK.normal ?_)
          | (with_reducible refine NEXTK.ret ?_)
          | (with_reducible refine NEXTK.exit ?_)
          | (with_reducible refine SEQ.plain ?_)
          | (with_reducible refine hK _ _ ?_)
          | ((with_reducible refine RUNL.agg (fun _ => ?_) ?_); (focus kernel_rfl))
          | (with_reducible refine RUNL.run ?_)
          | ((with_reducible refine AR.ok ?_ ?_); exact ⟨by first | omega | (dsimp only; omega), by first | omega | (dsimp only; omega)⟩)
          | (with_reducible refine AR.wr ?_)
          | ((with_reducible intro w3 e3); try have z3 := cutLe e3)
          | ((with_reducible intro h3); have h4 := Nat.le_of_lt h3; clear h4)))
        exact ⟨(j + 1, (b2, d2), zs), rfl, ⟨rfl, rfl, trivial⟩, rfl, rfl, ⟨by simp only; omega, by show w.heap.size ≤ w2.heap.size; omega, by simp only; omega, hzf, hown, hC.mono (by simp only; omega)⟩, by simp only; omega⟩
      · intro hx
        exact ⟨_, rfl, hx, ⟨ys, by omega, hfit, hown⟩, hC.mono (by omega)⟩
    · intro hx
      exact ⟨_, rfl, hx, ⟨ys, by omega, hfit, hown⟩, hC.mono (by omega)⟩
theorem giftDay_c (b : Nat) (cd : Cd) (k : Int) (a : Option Addr) (n c : Nat) (xs : List Gft) (w : World) (hC : Cu w b cd k) (hk : 0 ≤ k ∧ k ≤ 900000000000) (hr : Row w a 5 (xs.map encGft)) (hn : xs.length = n) (hm : n ≤ 1000) (ha : n = 0 ∨ ¬ mAddr (onB b) a) (hf : ∀ x ∈ xs, fitGft x) :
    Calls Tryz.prog 25 #[.pointer (some ⟨b, 0, none⟩), .slice a n c] w fun e w' => ∃ v, e = .returned v ∧ Ext (onB b) w w' ∧ RI (fun r => -1 ≤ r ∧ r ≤ 4001) v ∧ Cu w' b cd (k + 8) := by
  refine enterK (onB b) 49 Tryz.func25 rfl rfl rfl fun K hK => ?_
  have hb := hC.lt
  have h0 := hC
  repeat (any_goals (
    conv => whnf
    first
    | ((with_reducible intro w3 e3); have z3 := cutLe e3; (try replace hC := (by first | exact hC.e0 e3 | exact hC.past h0 e3 (fun j hj e => by simp only [bk] at e; omega))); (try replace hown := (by first | exact hown.e0 e3 | exact hown.ext e3 (by intro kk hkk h; have hh := (hown.block hkk).1; simp only [bk] at h; omega))); (try replace hown2 := (by first | exact hown2.e0 e3 | exact hown2.ext e3 (by intro kk hkk h; have hh := (hown2.block hkk).1; simp only [bk] at h; omega))))
    | ((with_reducible refine bsI ?_ ?_ ?_ ?_ ?_); (focus rfl); (focus rfl); (focus omega); (focus rfl); intro w9 e9 oB; have z9 := cutLe e9; replace hC := hC.e0 e9; (try replace hown := hown.e0 e9); (try replace hown2 := hown2.e0 e9); (try replace hE := hE.trans (Ext.of0 e9)))
    | ((with_reducible refine OBL.mk (o := ((12 : Int) ≠ 0)) ?_ (fun _ => ?_)); (focus decide); have td5 := tdiv_b (x := x5) (m := 12) (by omega) (by omega))
    | ((with_reducible refine OBL.mk ?_ (fun _ => ?_)); omega)
    | ((with_reducible refine callM (g := 49) ?_ ?_); kernel_rfl; refine ⟨onB _, _, (by repeat (first | exact trivial | (refine ⟨?_, ?_⟩; (focus (show ¬ _ = _; dsimp only; omega))))), (by first | exact fun _ _ hj => hj | (intro j hj hjb; unfold onB at hjb; exfalso; omega)), amongP_c _ _ _ _ _ _ (fun r => -1 ≤ r ∧ r ≤ 4001) _ _ _ _ hC (by omega) oB.row (by omega) (notOn (by omega)) (by intro y hy; unfold intsOf at hy; simp at hy; omega), ?_⟩; intro r5 w5 e5 h5; have z5 := cutLe e5; obtain ⟨hr5, hC⟩ := h5; (try replace hown := hown.cur h0 (by omega) e5); (try replace hown2 := hown2.cur h0 (by omega) e5); (try replace oB := oB.cur h0 (by omega) e5); (try replace hE := hE.trans e5); obtain ⟨x5, rfl, hx5⟩ := hr5)
    | ((with_reducible refine callM (g := 55) ?_ ?_); kernel_rfl; refine ⟨onB _, _, (by repeat (first | exact trivial | (refine ⟨?_, ?_⟩; (focus (show ¬ _ = _; dsimp only; omega))))), (by first | exact fun _ _ hj => hj | (intro j hj hjb; unfold onB at hjb; exfalso; omega)), one_c _ _ _ _ _ hC (by omega), ?_⟩; intro r5 w5 e5 h5; have z5 := cutLe e5; obtain ⟨hr5, hC⟩ := h5; (try replace hown := hown.cur h0 (by omega) e5); (try replace hown2 := hown2.cur h0 (by omega) e5); (try replace oB := oB.cur h0 (by omega) e5); (try replace hE := hE.trans e5); obtain ⟨x5, rfl, hx5⟩ := hr5)
    | ((with_reducible refine callM (g := 54) ?_ ?_); kernel_rfl; refine ⟨onB _, _, (by repeat (first | exact trivial | (refine ⟨?_, ?_⟩; (focus (show ¬ _ = _; dsimp only; omega))))), (by first | exact fun _ _ hj => hj | (intro j hj hjb; unfold onB at hjb; exfalso; omega)), pick_c _ _ _ _ _ hC (by omega), ?_⟩; intro r5 w5 e5 h5; have z5 := cutLe e5; obtain ⟨hr5, hC⟩ := h5; (try replace hown := hown.cur h0 (by omega) e5); (try replace hown2 := hown2.cur h0 (by omega) e5); (try replace oB := oB.cur h0 (by omega) e5); (try replace hE := hE.trans e5); obtain ⟨x5, rfl, hx5⟩ := hr5)
    | ((exfalso; omega))
    | ((with_reducible refine BIF.dec ?_ ?_) <;> intro _)
    | ((with_reducible refine BIF.s ?_ ?_) <;> intro _)
    | (with_reducible refine NEXTK.normal ?_)
    | (with_reducible refine NEXTK.ret ?_)
    | (with_reducible refine NEXTK.exit ?_)
    | (with_reducible refine SEQ.plain ?_)
    | (with_reducible refine hK _ _ ?_)
    | ((with_reducible refine RUNL.agg (fun _ => ?_) ?_); (focus kernel_rfl))
    | (with_reducible refine RUNL.run ?_)
    | ((with_reducible refine AR.ok ?_ ?_); exact ⟨by first | omega | (dsimp only; omega), by first | omega | (dsimp only; omega)⟩)
    | (with_reducible refine AR.wr ?_)
    | ((with_reducible intro w3 e3); try have z3 := cutLe e3)
    | ((with_reducible intro h3); have h4 := Nat.le_of_lt h3; clear h4)))
  · intro hx
    exact ⟨_, rfl, hx, ⟨_, rfl, hx5⟩, hC.mono (by omega)⟩
  · intro hx
    exact ⟨_, rfl, hx, ⟨_, rfl, hx5⟩, hC.mono (by omega)⟩
  · have hnz : n ≠ 0 := by
      intro e; simp_all
    have his := hr.isSome (by simp; omega)
    conv => whnf
    refine OBL.mk ⟨by omega, by omega, his⟩ (fun _ => ?_)
    conv => whnf
    refine ELD.at (enc := encGft) (xs := xs) x5.toNat hr (ha.resolve_left hnz) (by omega) (by omega) (fun y hy => ?_)
    have hfy := hf y (List.mem_of_getElem? hy)
    unfold fitGft at hfy
    repeat (any_goals (
      conv => whnf
      first
      | ((with_reducible intro w3 e3); have z3 := cutLe e3; (try replace hC := (by first | exact hC.e0 e3 | exact hC.past h0 e3 (fun j hj e => by simp only [bk] at e; omega))); (try replace hown := (by first | exact hown.e0 e3 | exact hown.ext e3 (by intro kk hkk h; have hh := (hown.block hkk).1; simp only [bk] at h; omega))); (try replace hown2 := (by first | exact hown2.e0 e3 | exact hown2.ext e3 (by intro kk hkk h; have hh := (hown2.block hkk).1; simp only [bk] at h; omega))))
      | ((with_reducible refine AR.ok ?_ ?_); exact ⟨by first | omega | (dsimp only; omega), by first | omega | (dsimp only; omega)⟩)
      | ((with_reducible refine AR.fit (fun r hr => ?_)); unfold I64 at hr)
      | ((with_reducible refine bsI ?_ ?_ ?_ ?_ ?_); (focus rfl); (focus rfl); (focus omega); (focus rfl); intro w9 e9 oB; have z9 := cutLe e9; replace hC := hC.e0 e9; (try replace hown := hown.e0 e9); (try replace hown2 := hown2.e0 e9); (try replace hE := hE.trans (Ext.of0 e9)))
      | ((with_reducible refine callM (g := 49) ?_ ?_); kernel_rfl; refine ⟨onB _, _, (by repeat (first | exact trivial | (refine ⟨?_, ?_⟩; (focus (show ¬ _ = _; dsimp only; omega))))), (by first | exact fun _ _ hj => hj | (intro j hj hjb; unfold onB at hjb; exfalso; omega)), among_c _ _ _ _ _ _ _ (fun r => -9223372036854775808 ≤ r ∧ r ≤ 9223372036854775807) _ hC (by omega) oB.row.1 (by first | rfl | (simp; omega)) (by omega) (notOn (by omega)) (by intro y hy; unfold intsOf at hy; simp at hy; omega), ?_⟩; intro r5 w5 e5 h5; have z5 := cutLe e5; obtain ⟨hr5, hC⟩ := h5; (try replace hown := hown.cur h0 (by omega) e5); (try replace hown2 := hown2.cur h0 (by omega) e5); (try replace oB := oB.cur h0 (by omega) e5); (try replace hE := hE.trans e5); obtain ⟨x5, rfl, hx5⟩ := hr5)
      | ((with_reducible refine callF (g := 57) ?_ ?_); kernel_rfl; refine ⟨_, l1Least_c _ _ _, ?_⟩; intro w4 e4; have z4 := cutLe e4 ; replace hC := hC.e0 e4)
      | ((with_reducible refine callF (g := 58) ?_ ?_); kernel_rfl; refine ⟨_, l1Most_c _ _ _, ?_⟩; intro w4 e4; have z4 := cutLe e4 ; replace hC := hC.e0 e4)
      | ((with_reducible refine BIF.dec ?_ ?_) <;> intro _)
      | ((with_reducible refine BIF.s ?_ ?_) <;> intro _)
      | (with_reducible refine NEXTK.normal ?_)
      | (with_reducible refine NEXTK.ret ?_)
      | (with_reducible refine NEXTK.exit ?_)
      | (with_reducible refine SEQ.plain ?_)
      | (with_reducible refine hK _ _ ?_)
      | ((with_reducible refine RUNL.agg (fun _ => ?_) ?_); (focus kernel_rfl))
      | (with_reducible refine RUNL.run ?_)
      | ((with_reducible refine AR.ok ?_ ?_); exact ⟨by first | omega | (dsimp only; omega), by first | omega | (dsimp only; omega)⟩)
      | (with_reducible refine AR.wr ?_)
      | ((with_reducible intro w3 e3); try have z3 := cutLe e3)
      | ((with_reducible intro h3); have h4 := Nat.le_of_lt h3; clear h4)))
    all_goals
      intro hx
      exact ⟨_, rfl, hx, ⟨_, rfl, by omega, by omega⟩, hC.mono (by omega)⟩

end Go.Proofs.YtohnoccmaeegdaaGreatDoor
