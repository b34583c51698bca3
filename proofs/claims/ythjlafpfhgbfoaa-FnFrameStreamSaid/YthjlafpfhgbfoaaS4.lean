/- Parts of a body proved apart; what is read by a pick. No condition. -/
import Derived.Test.YthjlafpfhgbfoaaS3
namespace Go.Proofs.Ythjlafpfhgbfoaa
open Go Go.RowKit
set_option linter.unusedSimpArgs false
set_option linter.unusedVariables false
/-- a list with a piece, and what is left without it -/
inductive Out : List Asr → Asr → List Asr → Prop
  | here {a : Asr} {A : List Asr} : Out (a :: A) a A
  | skip {c a : Asr} {A B : List Asr} (h : Out A a B) : Out (c :: A) a (c :: B)
theorem Out.sel {A B : List Asr} {a : Asr} (h : Out A a B) : Sel A (a :: B) := by
  have : ∃ i, A[i]? = some a ∧ A.eraseIdx i = B := by
    induction h with
    | here => exact ⟨0, rfl, rfl⟩
    | skip h ih =>
      obtain ⟨i, h1, h2⟩ := ih
      exact ⟨i + 1, by simpa using h1, by simp [h2]⟩
  obtain ⟨i, h1, rfl⟩ := this
  exact Sel.take i h1 (.refl _)
section
variable {P : Program} {n : Nat} {Q : Post} {J : Env → Prop} {env : Env} {w0 : World} {A : List Asr} {ops : Array Oper} {rest : List Oper}
variable {d : Nat} {ty : TypeId} {pos : String} {af : Array Edge}
theorem SC_mid {c : Code} (M : Env → List Asr → Prop) (hx : SC P n c (thenE (fun e w => ∃ B, M e B ∧ St w0 w B) Q) env w0 A) (hy : ∀ e B, M e B → SE Q .normal e w0 B) : SC P n c Q env w0 A := by
  unfold SC SE at *
  exact fun w s => (hx w s).mono fun x e w' h => by
    cases x with
    | normal => obtain ⟨B, h1, h2⟩ := h; exact hy e B h1 w' h2
    | exit i => exact h
    | goto l => exact h
    | ret => exact h
    | panic c => exact h
    | outgrown => exact h
theorem SE_sub {y : Code} {Q' : Post} {env' : Env} (hs : Sub env' env) (h : SE (thenE (fun e w => CW P n y Q e w) Q') .normal env' w0 A) : SE (thenE (fun e w => CW P n y Q e w) Q') .normal env w0 A := by
  unfold SE at *
  exact fun w s => then_sub _ _ _ hs (h w s)
/-- a call that takes one piece over, and gives others for it -/
theorem SW_callO {f : FuncId} {args : Array Operand} {tys : Array TypeId} {vals : List Value} {Φ : Value → List Asr → Prop} {a : Asr} {B : List Asr} (ha : evL env args.toList = some vals) (hc : CallOK P f) (ho : Out A a B)
    (h : ∀ w, St w0 w (a :: B) → Calls P f vals.toArray w (RetF Φ w0)) (next : ∀ v C, Φ v C → SW P n ops rest Q ((d, v) :: env) w0 C) (hd : Nat.blt d n = true := by rfl) :
    SW P n ops (⟨some d, .call ⟨.value (.func f), args, tys⟩, ty, pos, af, none⟩ :: rest) Q env w0 A :=
  SW_callF ha hc (fun w s => h w (s.sel ho.sel)) next hd
theorem SE_retO {fn : Func} {Φ : Value → List Asr → Prop} {vs : List Value} (B : List Asr) (hr : SRes P env A fn.results.toList vs) (h : Φ (tup vs) B) (hs : Sel A B) : SE (FnQ P fn (RetF Φ w0)) .ret env w0 A := SE_retFr B hr h hs
theorem SW_indexOE {t e e' : TypeId} {k by_ : Nat} {g : Option Nat} {x y : Operand} {v : Value} {ix : Int} {els : List (List Value)} {F : Asr → List Asr} [ht : TSlice P t e k by_] (hx : ev env x = some v) (hy : ev env y = some (.int .i64 ix)) (h : Hole A (.own v e' k g els) F) (h0 : 0 ≤ ix) (he : ix < els.length)
    (next : ∀ b el, g = some b → els[ix.toNat]? = some el → SW P n ops rest Q ((d, .pointer (some ⟨b, ix.toNat * k, none⟩)) :: env) w0 A) (hd : Nat.blt d n = true := by rfl) : SW P n ops (⟨some d, .indexAddr t x y, ty, pos, af, none⟩ :: rest) Q env w0 A :=
  SW_indexOX hx hy h h0 he (fun b hb => next b _ hb (List.getElem?_eq_getElem (by omega))) hd
theorem Y_xor {t u : TypeId} {a b : Int} {x y : Operand} (hx : ev env x = some (.int .i64 a)) (hy : ev env y = some (.int .i64 b)) : Y P n ⟨some d, .binOp .xor t x y u, ty, pos, af, none⟩ env (.int .i64 (bits .xor .i64 a b)) := fun c hA w => by simp [execOp, hA.ev hx, hA.ev hy, eqGuard, binOp, intBits_xor]
theorem SW_xor {t u : TypeId} {a b : Int} {x y : Operand} (hx : ev env x = some (.int .i64 a)) (hy : ev env y = some (.int .i64 b)) (ha : 0 ≤ a ∧ a ≤ 9223372036854775807) (hb : 0 ≤ b ∧ b ≤ 9223372036854775807)
    (next : ∀ c, 0 ≤ c → c ≤ 9223372036854775807 → SW P n ops rest Q ((d, .int .i64 c) :: env) w0 A) (hd : Nat.blt d n = true := by rfl) : SW P n ops (⟨some d, .binOp .xor t x y u, ty, pos, af, none⟩ :: rest) Q env w0 A :=
  SW_y (Y_xor hx hy) (next _ (xor_bd ha hb).1 (xor_bd ha hb).2) hd
end
end Go.Proofs.Ythjlafpfhgbfoaa
