/- Bytes and strings in the walks: numbers to bytes, bytes to strings. No condition. -/
import Derived.Test.YtkolihdbehjffaaStr
import Derived.Test.YtkolihdbehjffaaS4
import Derived.Laws.BytesArg
namespace Go.Proofs.Ytkolihdbehjffaa
open Go Go.RowKit
set_option linter.unusedSimpArgs false
set_option linter.unusedVariables false
section
variable {P : Program} {n : Nat} {Q : Post} {J : Env → Prop} {env : Env} {w0 w : World} {A : List Asr} {ops : Array Oper} {rest : List Oper}
variable {d : Nat} {ty : TypeId} {pos : String} {af : Array Edge}
def bcell (b : UInt8) : List Value := [.int .u8 b.toNat]
theorem SW_eqlStrC {t u : TypeId} {x y : Operand} {l m : List UInt8} (hx : ev env x = some (sv l)) (hy : ev env y = some (sv m)) (ht : l = m → SW P n ops rest Q ((d, .bool true) :: env) w0 A) (hf : l ≠ m → SW P n ops rest Q ((d, .bool false) :: env) w0 A) (hd : Nat.blt d n = true := by rfl) : SW P n ops (⟨some d, .binOp .eql t x y u, ty, pos, af, none⟩ :: rest) Q env w0 A := by
  by_cases h : l = m
  · exact SW_eqlStr hx hy (decide_eq_true h) (ht h) hd
  · exact SW_eqlStr hx hy (decide_eq_false h) (hf h) hd
theorem SQ_eqlStrC {t u : TypeId} {x y : Operand} {l m : List UInt8} (hx : ev env x = some (sv l)) (hy : ev env y = some (sv m)) (ht : l = m → SQ P n ops rest J ((d, .bool true) :: env) w0 A) (hf : l ≠ m → SQ P n ops rest J ((d, .bool false) :: env) w0 A) (hd : Nat.blt d n = true := by rfl) : SQ P n ops (⟨some d, .binOp .eql t x y u, ty, pos, af, none⟩ :: rest) J env w0 A := by
  by_cases h : l = m
  · exact SQ_eqlStr hx hy (decide_eq_true h) (ht h) hd
  · exact SQ_eqlStr hx hy (decide_eq_false h) (hf h) hd
theorem SW_neqStrC {t u : TypeId} {x y : Operand} {l m : List UInt8} (hx : ev env x = some (sv l)) (hy : ev env y = some (sv m)) (ht : l ≠ m → SW P n ops rest Q ((d, .bool true) :: env) w0 A) (hf : l = m → SW P n ops rest Q ((d, .bool false) :: env) w0 A) (hd : Nat.blt d n = true := by rfl) : SW P n ops (⟨some d, .binOp .neq t x y u, ty, pos, af, none⟩ :: rest) Q env w0 A := by
  by_cases h : l = m
  · exact SW_neqStr hx hy (by rw [decide_eq_true h]; rfl) (hf h) hd
  · exact SW_neqStr hx hy (by rw [decide_eq_false h]; rfl) (ht h) hd
theorem SQ_neqStrC {t u : TypeId} {x y : Operand} {l m : List UInt8} (hx : ev env x = some (sv l)) (hy : ev env y = some (sv m)) (ht : l ≠ m → SQ P n ops rest J ((d, .bool true) :: env) w0 A) (hf : l = m → SQ P n ops rest J ((d, .bool false) :: env) w0 A) (hd : Nat.blt d n = true := by rfl) : SQ P n ops (⟨some d, .binOp .neq t x y u, ty, pos, af, none⟩ :: rest) J env w0 A := by
  by_cases h : l = m
  · exact SQ_neqStr hx hy (by rw [decide_eq_true h]; rfl) (hf h) hd
  · exact SQ_neqStr hx hy (by rw [decide_eq_false h]; rfl) (ht h) hd
end
end Go.Proofs.Ytkolihdbehjffaa
