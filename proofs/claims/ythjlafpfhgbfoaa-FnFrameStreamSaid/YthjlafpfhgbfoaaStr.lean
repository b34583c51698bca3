/- Strings in the walks: their bytes as a list. No condition. -/
import Derived.Test.YthjlafpfhgbfoaaS
import Derived.Laws.Strings
import Derived.Laws.Strings2
import Derived.Laws.Slices
import Derived.Laws.Concat
import Derived.Laws.StructEq
import Derived.Lib.Strings
namespace Go.Proofs.Ythjlafpfhgbfoaa
open Go Go.RowKit
set_option linter.unusedSimpArgs false
set_option linter.unusedVariables false
section
variable {P : Program} {n : Nat} {Q : Post} {J : Env → Prop} {env : Env} {w0 w : World} {A : List Asr} {ops : Array Oper} {rest : List Oper}
variable {d : Nat} {ty : TypeId} {pos : String} {af : Array Edge}
/-! strings: their bytes as a list -/
@[reducible] def sv (l : List UInt8) : Value := .string ⟨l.toArray⟩
class TStr (P : Program) (t : TypeId) : Prop where
  str : P.underlying t = some .string
theorem sv_of (s : ByteArray) : Value.string s = sv s.data.toList := by simp [sv]
theorem sv_size (l : List UInt8) : (ByteArray.mk l.toArray).size = l.length := by simp [ByteArray.size]
theorem sv_list (l : List UInt8) : (ByteArray.mk l.toArray).toList = l := ByteArray.toList_mk l
theorem sv_inj {a b : List UInt8} (h : sv a = sv b) : a = b := by
  have := congrArg (fun v => match v with | .string s => s.data.toList | _ => []) h
  simpa using this
theorem beq_dec (l m : List UInt8) : (l == m) = decide (l = m) := by
  by_cases h : l = m
  · subst h; simp
  · simp [h]
theorem Y_lenS {t : TypeId} {x : Operand} {l : List UInt8} [ht : TStr P t] (hx : ev env x = some (sv l)) :
    Y P n ⟨some d, .call ⟨.builtin .len, #[x], #[t]⟩, ty, pos, af, none⟩ env (.int .i64 l.length) := fun a ha w' => by
  simp [execOp, resolve, invoke, builtin, ha.ev hx, Builtin.len_, run_underlying ht.str, goInt, sv_size]
theorem Y_indexS {t : TypeId} {x y : Operand} {l : List UInt8} {i : Int} {b : UInt8} [ht : TStr P t] (hx : ev env x = some (sv l)) (hy : ev env y = some (.int .i64 i)) (h0 : 0 ≤ i) (hb : l[i.toNat]? = some b) :
    Y P n ⟨some d, .index t x y, ty, pos, af, none⟩ env (.int .u8 b.toNat) := fun a ha w' => by
  obtain ⟨h1, h2⟩ := List.getElem?_eq_some_iff.1 hb
  have h3 := run_index_string (P := P) w' t ⟨l.toArray⟩ .i64 i ht.str
  rw [dif_pos (by rw [sv_size]; omega)] at h3
  have h4 : (ByteArray.mk l.toArray)[i.toNat]'(by rw [sv_size]; omega) = b := by rw [← h2]; rfl
  simp [execOp, ha.ev hx, ha.ev hy, h3, h4]
theorem sv_extract (l : List UInt8) (i j : Nat) : (ByteArray.mk l.toArray).extract i j = ⟨((l.take j).drop i).toArray⟩ := by
  apply ByteArray.ext
  apply Array.toList_inj.1
  rw [Lib.extract_data]
  simp [List.drop_take]
theorem Y_sliceS {t : TypeId} {x y z : Operand} {l : List UInt8} {i j : Int} [ht : TStr P t] (hx : ev env x = some (sv l)) (hz : ev env z = some (.int .i64 i)) (hy : ev env y = some (.int .i64 j)) (h0 : 0 ≤ i) (h1 : i ≤ j) (h2 : j ≤ l.length) :
    Y P n ⟨some d, .slice t x (some z) (some y) none, ty, pos, af, none⟩ env (sv ((l.take j.toNat).drop i.toNat)) := fun a ha w' => by
  have h3 := run_slice_string (P := P) w' t ⟨l.toArray⟩ .i64 .i64 i j ht.str h0 h1 (by rw [sv_size]; exact h2)
  rw [sv_extract] at h3
  simp [execOp, ha.ev hx, ha.ev hy, ha.ev hz, sv, Instr.sliceAt, run_underlying ht.str, h3]
theorem Y_sliceSH {t : TypeId} {x y : Operand} {l : List UInt8} {j : Int} [ht : TStr P t] (hx : ev env x = some (sv l)) (hy : ev env y = some (.int .i64 j)) (h1 : 0 ≤ j) (h2 : j ≤ l.length) :
    Y P n ⟨some d, .slice t x none (some y) none, ty, pos, af, none⟩ env (sv (l.take j.toNat)) := fun a ha w' => by
  have h3 := run_slice_string_h (P := P) w' t ⟨l.toArray⟩ ht.str .i64 j h1 (by rw [sv_size]; exact h2)
  rw [sv_extract] at h3
  simp only [List.drop_zero] at h3
  simp [execOp, ha.ev hx, ha.ev hy, sv, Instr.sliceAt, run_underlying ht.str, h3]
theorem Y_sliceSL {t : TypeId} {x z : Operand} {l : List UInt8} {i : Int} [ht : TStr P t] (hx : ev env x = some (sv l)) (hz : ev env z = some (.int .i64 i)) (h0 : 0 ≤ i) (h1 : i ≤ l.length) :
    Y P n ⟨some d, .slice t x (some z) none none, ty, pos, af, none⟩ env (sv (l.drop i.toNat)) := fun a ha w' => by
  have h3 := run_slice_string_l (P := P) w' t ⟨l.toArray⟩ ht.str .i64 i h0 (by rw [sv_size]; exact h1)
  rw [sv_extract, sv_size, List.take_of_length_le (Nat.le_refl _)] at h3
  simp [execOp, ha.ev hx, ha.ev hz, sv, Instr.sliceAt, run_underlying ht.str, h3]
theorem Y_addStr {t u : TypeId} {x y : Operand} {l m : List UInt8} (hx : ev env x = some (sv l)) (hy : ev env y = some (sv m)) (hl : l.length + m.length ≤ 9223372036854775807) :
    Y P n ⟨some d, .binOp .add t x y u, ty, pos, af, none⟩ env (sv (l ++ m)) := fun a ha w' => by
  have h3 := run_string_add_sum (P := P) w' ⟨l.toArray⟩ ⟨m.toArray⟩ (by rw [sv_size, sv_size]; exact hl)
  have h4 : (ByteArray.mk l.toArray) ++ (ByteArray.mk m.toArray) = ⟨(l ++ m).toArray⟩ := by
    apply ByteArray.ext; simp [ByteArray.data_append]
  rw [h4] at h3
  simp [execOp, ha.ev hx, ha.ev hy, eqGuard, sv, binOp_string_add, h3]
theorem Y_eqlStr {t u : TypeId} {x y : Operand} {l m : List UInt8} {b : Bool} (hx : ev env x = some (sv l)) (hy : ev env y = some (sv m)) (hb : decide (l = m) = b) :
    Y P n ⟨some d, .binOp .eql t x y u, ty, pos, af, none⟩ env (.bool b) := fun a ha w' => by
  subst hb
  simp [execOp, ha.ev hx, ha.ev hy, eqGuard, sv, binOp_string_eql, binOp_string_neq, ByteArray.toList_mk]
  exact beq_dec l m
theorem Y_neqStr {t u : TypeId} {x y : Operand} {l m : List UInt8} {b : Bool} (hx : ev env x = some (sv l)) (hy : ev env y = some (sv m)) (hb : (!decide (l = m)) = b) :
    Y P n ⟨some d, .binOp .neq t x y u, ty, pos, af, none⟩ env (.bool b) := fun a ha w' => by
  subst hb
  simp [execOp, ha.ev hx, ha.ev hy, eqGuard, sv, binOp_string_eql, binOp_string_neq, ByteArray.toList_mk]
  exact beq_dec l m
theorem SW_lenS {t : TypeId} {x : Operand} {l : List UInt8} [ht : TStr P t] (hx : ev env x = some (sv l)) (next : SW P n ops rest Q ((d, .int .i64 l.length) :: env) w0 A) (hd : Nat.blt d n = true := by rfl) : SW P n ops (⟨some d, .call ⟨.builtin .len, #[x], #[t]⟩, ty, pos, af, none⟩ :: rest) Q env w0 A := SW_y (Y_lenS hx) next hd
theorem SQ_lenS {t : TypeId} {x : Operand} {l : List UInt8} [ht : TStr P t] (hx : ev env x = some (sv l)) (next : SQ P n ops rest J ((d, .int .i64 l.length) :: env) w0 A) (hd : Nat.blt d n = true := by rfl) : SQ P n ops (⟨some d, .call ⟨.builtin .len, #[x], #[t]⟩, ty, pos, af, none⟩ :: rest) J env w0 A := SQ_y (Y_lenS hx) next hd
theorem SW_indexS {t : TypeId} {x y : Operand} {l : List UInt8} {i : Int} {b : UInt8} [ht : TStr P t] (hx : ev env x = some (sv l)) (hy : ev env y = some (.int .i64 i)) (h0 : 0 ≤ i) (hb : l[i.toNat]? = some b) (next : SW P n ops rest Q ((d, .int .u8 b.toNat) :: env) w0 A) (hd : Nat.blt d n = true := by rfl) : SW P n ops (⟨some d, .index t x y, ty, pos, af, none⟩ :: rest) Q env w0 A := SW_y (Y_indexS hx hy h0 hb) next hd
theorem SQ_indexS {t : TypeId} {x y : Operand} {l : List UInt8} {i : Int} {b : UInt8} [ht : TStr P t] (hx : ev env x = some (sv l)) (hy : ev env y = some (.int .i64 i)) (h0 : 0 ≤ i) (hb : l[i.toNat]? = some b) (next : SQ P n ops rest J ((d, .int .u8 b.toNat) :: env) w0 A) (hd : Nat.blt d n = true := by rfl) : SQ P n ops (⟨some d, .index t x y, ty, pos, af, none⟩ :: rest) J env w0 A := SQ_y (Y_indexS hx hy h0 hb) next hd
theorem SW_sliceS {t : TypeId} {x y z : Operand} {l : List UInt8} {i j : Int} [ht : TStr P t] (hx : ev env x = some (sv l)) (hz : ev env z = some (.int .i64 i)) (hy : ev env y = some (.int .i64 j)) (h0 : 0 ≤ i) (h1 : i ≤ j) (h2 : j ≤ l.length) (next : SW P n ops rest Q ((d, sv ((l.take j.toNat).drop i.toNat)) :: env) w0 A) (hd : Nat.blt d n = true := by rfl) : SW P n ops (⟨some d, .slice t x (some z) (some y) none, ty, pos, af, none⟩ :: rest) Q env w0 A := SW_y (Y_sliceS hx hz hy h0 h1 h2) next hd
theorem SQ_sliceS {t : TypeId} {x y z : Operand} {l : List UInt8} {i j : Int} [ht : TStr P t] (hx : ev env x = some (sv l)) (hz : ev env z = some (.int .i64 i)) (hy : ev env y = some (.int .i64 j)) (h0 : 0 ≤ i) (h1 : i ≤ j) (h2 : j ≤ l.length) (next : SQ P n ops rest J ((d, sv ((l.take j.toNat).drop i.toNat)) :: env) w0 A) (hd : Nat.blt d n = true := by rfl) : SQ P n ops (⟨some d, .slice t x (some z) (some y) none, ty, pos, af, none⟩ :: rest) J env w0 A := SQ_y (Y_sliceS hx hz hy h0 h1 h2) next hd
theorem SW_sliceSH {t : TypeId} {x y : Operand} {l : List UInt8} {j : Int} [ht : TStr P t] (hx : ev env x = some (sv l)) (hy : ev env y = some (.int .i64 j)) (h1 : 0 ≤ j) (h2 : j ≤ l.length) (next : SW P n ops rest Q ((d, sv (l.take j.toNat)) :: env) w0 A) (hd : Nat.blt d n = true := by rfl) : SW P n ops (⟨some d, .slice t x none (some y) none, ty, pos, af, none⟩ :: rest) Q env w0 A := SW_y (Y_sliceSH hx hy h1 h2) next hd
theorem SQ_sliceSH {t : TypeId} {x y : Operand} {l : List UInt8} {j : Int} [ht : TStr P t] (hx : ev env x = some (sv l)) (hy : ev env y = some (.int .i64 j)) (h1 : 0 ≤ j) (h2 : j ≤ l.length) (next : SQ P n ops rest J ((d, sv (l.take j.toNat)) :: env) w0 A) (hd : Nat.blt d n = true := by rfl) : SQ P n ops (⟨some d, .slice t x none (some y) none, ty, pos, af, none⟩ :: rest) J env w0 A := SQ_y (Y_sliceSH hx hy h1 h2) next hd
theorem SW_sliceSL {t : TypeId} {x z : Operand} {l : List UInt8} {i : Int} [ht : TStr P t] (hx : ev env x = some (sv l)) (hz : ev env z = some (.int .i64 i)) (h0 : 0 ≤ i) (h1 : i ≤ l.length) (next : SW P n ops rest Q ((d, sv (l.drop i.toNat)) :: env) w0 A) (hd : Nat.blt d n = true := by rfl) : SW P n ops (⟨some d, .slice t x (some z) none none, ty, pos, af, none⟩ :: rest) Q env w0 A := SW_y (Y_sliceSL hx hz h0 h1) next hd
theorem SQ_sliceSL {t : TypeId} {x z : Operand} {l : List UInt8} {i : Int} [ht : TStr P t] (hx : ev env x = some (sv l)) (hz : ev env z = some (.int .i64 i)) (h0 : 0 ≤ i) (h1 : i ≤ l.length) (next : SQ P n ops rest J ((d, sv (l.drop i.toNat)) :: env) w0 A) (hd : Nat.blt d n = true := by rfl) : SQ P n ops (⟨some d, .slice t x (some z) none none, ty, pos, af, none⟩ :: rest) J env w0 A := SQ_y (Y_sliceSL hx hz h0 h1) next hd
theorem SW_addStr {t u : TypeId} {x y : Operand} {l m : List UInt8} (hx : ev env x = some (sv l)) (hy : ev env y = some (sv m)) (hl : l.length + m.length ≤ 9223372036854775807) (next : SW P n ops rest Q ((d, sv (l ++ m)) :: env) w0 A) (hd : Nat.blt d n = true := by rfl) : SW P n ops (⟨some d, .binOp .add t x y u, ty, pos, af, none⟩ :: rest) Q env w0 A := SW_y (Y_addStr hx hy hl) next hd
theorem SQ_addStr {t u : TypeId} {x y : Operand} {l m : List UInt8} (hx : ev env x = some (sv l)) (hy : ev env y = some (sv m)) (hl : l.length + m.length ≤ 9223372036854775807) (next : SQ P n ops rest J ((d, sv (l ++ m)) :: env) w0 A) (hd : Nat.blt d n = true := by rfl) : SQ P n ops (⟨some d, .binOp .add t x y u, ty, pos, af, none⟩ :: rest) J env w0 A := SQ_y (Y_addStr hx hy hl) next hd
theorem SW_eqlStr {t u : TypeId} {x y : Operand} {l m : List UInt8} {b : Bool} (hx : ev env x = some (sv l)) (hy : ev env y = some (sv m)) (hb : decide (l = m) = b) (next : SW P n ops rest Q ((d, .bool b) :: env) w0 A) (hd : Nat.blt d n = true := by rfl) : SW P n ops (⟨some d, .binOp .eql t x y u, ty, pos, af, none⟩ :: rest) Q env w0 A := SW_y (Y_eqlStr hx hy hb) next hd
theorem SQ_eqlStr {t u : TypeId} {x y : Operand} {l m : List UInt8} {b : Bool} (hx : ev env x = some (sv l)) (hy : ev env y = some (sv m)) (hb : decide (l = m) = b) (next : SQ P n ops rest J ((d, .bool b) :: env) w0 A) (hd : Nat.blt d n = true := by rfl) : SQ P n ops (⟨some d, .binOp .eql t x y u, ty, pos, af, none⟩ :: rest) J env w0 A := SQ_y (Y_eqlStr hx hy hb) next hd
theorem SW_neqStr {t u : TypeId} {x y : Operand} {l m : List UInt8} {b : Bool} (hx : ev env x = some (sv l)) (hy : ev env y = some (sv m)) (hb : (!decide (l = m)) = b) (next : SW P n ops rest Q ((d, .bool b) :: env) w0 A) (hd : Nat.blt d n = true := by rfl) : SW P n ops (⟨some d, .binOp .neq t x y u, ty, pos, af, none⟩ :: rest) Q env w0 A := SW_y (Y_neqStr hx hy hb) next hd
theorem SQ_neqStr {t u : TypeId} {x y : Operand} {l m : List UInt8} {b : Bool} (hx : ev env x = some (sv l)) (hy : ev env y = some (sv m)) (hb : (!decide (l = m)) = b) (next : SQ P n ops rest J ((d, .bool b) :: env) w0 A) (hd : Nat.blt d n = true := by rfl) : SQ P n ops (⟨some d, .binOp .neq t x y u, ty, pos, af, none⟩ :: rest) J env w0 A := SQ_y (Y_neqStr hx hy hb) next hd
end
end Go.Proofs.Ythjlafpfhgbfoaa
