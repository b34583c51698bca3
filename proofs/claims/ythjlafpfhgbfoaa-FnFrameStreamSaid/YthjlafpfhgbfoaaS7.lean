/- More rules: conversions told apart, the rest of a slice. No condition. -/
import Derived.Test.YthjlafpfhgbfoaaS5
import Derived.Test.YthjlafpfhgbfoaaStr2
namespace Go.Proofs.Ythjlafpfhgbfoaa
open Go Go.RowKit
set_option linter.unusedSimpArgs false
set_option linter.unusedVariables false
section
variable {P : Program} {n : Nat} {Q : Post} {J : Env → Prop} {env : Env} {w0 : World} {A : List Asr} {ops : Array Oper} {rest : List Oper}
variable {d : Nat} {ty : TypeId} {pos : String} {af : Array Edge}
theorem SWcv {s t : TypeId} {x : Operand} (h : SW P n ops (⟨some d, .convert s t x, ty, pos, af, none⟩ :: rest) Q env w0 A) : SW P n ops (⟨some d, .convert s t x, ty, pos, af, none⟩ :: rest) Q env w0 A := h
theorem SQcv {s t : TypeId} {x : Operand} (h : SQ P n ops (⟨some d, .convert s t x, ty, pos, af, none⟩ :: rest) J env w0 A) : SQ P n ops (⟨some d, .convert s t x, ty, pos, af, none⟩ :: rest) J env w0 A := h
theorem SW_sliceL {t e : TypeId} {k by_ : Nat} {x z : Operand} {v : Value} {l : Int} {els : List (List Value)} [ht : TSlice P t e k by_] (hs : Slc w0 v k els) (hx : ev env x = some v) (hz : ev env z = some (.int .i64 l)) (h0 : 0 ≤ l) (h1 : l ≤ els.length)
    (next : ∀ v', Slc w0 v' k (els.drop l.toNat) → SW P n ops rest Q ((d, v') :: env) w0 A) (hd : Nat.blt d n = true := by rfl) : SW P n ops (⟨some d, .slice t x (some z) none none, ty, pos, af, none⟩ :: rest) Q env w0 A := by
  obtain ⟨i, z0, hu, hi, hsz, _⟩ := ht.sl
  obtain ⟨A', c, rfl, hc, hs'⟩ := slc_cut hs (l := l.toNat) (h := els.length) (by omega) (Nat.le_refl _)
  rw [List.take_length] at hs'
  refine SW_y (v := sliced A' l.toNat els.length c k) (fun a hA w => ?_) (next _ hs') hd
  have hu' : P.underlying t = some (.slice (P.elem t)) := by rw [elem_of hu]; exact hu
  have h3 := run_sliceAt_slice (P := P) (w := w) t (.slice A' els.length c) (some (.int .i64 l)) none none hu'
  have h4 := run_slice_l (P := P) (w := w) t A' els.length c hu' .i64 l h0 h1
  rw [elem_of hu] at h4
  simp [execOp, hA.ev hx, hA.ev hz, h3, h4, sizeOf, typeInfo, hi, hsz]
end
end Go.Proofs.Ythjlafpfhgbfoaa
