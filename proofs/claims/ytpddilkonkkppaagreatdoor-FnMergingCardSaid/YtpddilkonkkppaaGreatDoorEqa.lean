/- Part 11: structs compared. -/
import Derived.Test.YtpddilkonkkppaaGreatDoorDraw0
namespace Go.X
open Go Go.RowKit
def vEq : Value → Value → Bool
  | .int _ a, .int _ b => a == b
  | .string a, .string b => a.toList == b.toList
  | _, _ => false
def fldOk (P : Program) (xs ys : Array Value) (f : Field) : Bool :=
  (f.name != "_") && match P.underlying f.type with
  | some (.int _) => match xs[f.offset]?, ys[f.offset]? with
    | some (.int k _), some (.int k' _) => sameK k k'
    | _, _ => false
  | some .string => match xs[f.offset]?, ys[f.offset]? with
    | some (.string _), some (.string _) => true
    | _, _ => false
  | _ => false
theorem run_part_at {P : Program} {t : TypeId} {xs : Array Value} {off : Nat} {v : Value} (h : ∀ w, (isAgg t).run P w = .ok false w) (hx : xs[off]? = some v) (w : World) : (part t xs off).run P w = .ok v w := by
  simp [part, h w, hx]
theorem eqFields_all {P : Program} (d : Nat) (xs ys : Array Value) : ∀ (fs : List Field), fs.all (fldOk P xs ys) = true → ∀ w, (Op.eqFields (d + 1) xs ys fs).run P w = .ok (fs.all fun f => vEq (xs.getD f.offset undef) (ys.getD f.offset undef)) w
  | [], _, w => by simp [Op.eqFields]
  | f :: fs, h, w => by
    simp only [List.all_cons, Bool.and_eq_true] at h
    obtain ⟨hf, hs⟩ := h
    have ih := eqFields_all d xs ys fs hs
    unfold fldOk at hf
    simp only [Bool.and_eq_true, bne_iff_ne, ne_eq] at hf
    obtain ⟨hn, hf⟩ := hf
    have key : ∀ (a b : Value) (r : Bool), xs[f.offset]? = some a → ys[f.offset]? = some b → (∀ w, (isAgg f.type).run P w = .ok false w) → (∀ w, (Op.equalIn (d + 1) f.type a b).run P w = .ok r w) → r = vEq a b →
        (Op.eqFields (d + 1) xs ys (f :: fs)).run P w = .ok ((f :: fs).all fun f => vEq (xs.getD f.offset undef) (ys.getD f.offset undef)) w := by
      intro a b r ha hb hg hr e
      have ga : xs.getD f.offset undef = a := by rw [Array.getD_eq_getD_getElem?, ha]; rfl
      have gb : ys.getD f.offset undef = b := by rw [Array.getD_eq_getD_getElem?, hb]; rfl
      simp only [Op.eqFields, hn, not_false_eq_true, if_true, Sem.run_bind, run_part_at hg ha, run_part_at hg hb, Result.andThen_ok, hr, List.all_cons, ga, gb, ne_eq]
      rw [← e]
      cases r
      · simp
      · simp [ih w]
    split at hf
    · rename_i k0 hu
      split at hf
      · rename_i k a k' b ha hb
        have := sameK_spec hf; subst this
        exact key _ _ _ ha hb (fun w => by simp [isAgg, run_underlying hu]) (fun w => run_equalIn_int w d f.type k k0 a b hu) rfl
      · cases hf
    · rename_i hu
      split at hf
      · rename_i a b ha hb
        exact key _ _ _ ha hb (fun w => by simp [isAgg, run_underlying hu]) (fun w => run_equalIn_string w d f.type a b hu) rfl
      · cases hf
    · cases hf
theorem eqStruct_run {P : Program} {t : TypeId} {xs ys : Array Value} {r : Bool} (hu : P.underlying t = some (.struct (P.fieldsOf t))) (hp : P.stoodInHeld t = false) (hf : (P.fieldsOf t).toList.all (fldOk P xs ys) = true)
    (hr : ((P.fieldsOf t).toList.all fun f => vEq (xs.getD f.offset undef) (ys.getD f.offset undef)) = r) (w : World) : (Op.equalIn 10000 t (.agg xs) (.agg ys)).run P w = .ok r w := by
  rw [show (10000 : Nat) = 9999 + 1 from rfl, run_equalIn_agg w 9999 t xs ys hu hp, show (9999 : Nat) = 9998 + 1 from rfl, eqFields_all 9998 xs ys _ hf w, hr]
theorem Row.box {wa w w' : World} {m : Nat → Prop} {a : Option Addr} {sz : Nat} {ls : List (List Value)} (x : Ext m w w') (e : E0 wa w) (hm : ∀ k, k < wa.heap.size → ¬ m k) (h : Row wa a sz ls) : Row w' a sz ls := Row.past h (h.e0 e) x hm
theorem notBk {k n b : Nat} (hk : k < n) (h : k = b) (hl : n ≤ b) : False := by omega
theorem callS {c : Ctx} {E : List (Nat × TV)} {B : List Bx} {w : World} {g : FuncId} {args : List Value} {k : Value → World → Prop} (hb : hasBody c.P g = true)
    (h : ∃ R : Value → World → Prop, Calls c.P g args.toArray w (fun e w' => ∃ r, e = .returned r ∧ E0 w w' ∧ R r w') ∧ ∀ r w', E0 w w' → R r w' → k r w') : CALL c ⟨E, B, w⟩ g args k :=
  let ⟨_, h1, h2⟩ := h; callR hb h1 h2
end Go.X
