/- Bytes and strings in the walks: numbers to bytes, bytes to strings. No condition. -/
import Derived.Test.YthjlafpfhgbfoaaStr
import Derived.Test.YthjlafpfhgbfoaaS4
import Derived.Laws.BytesArg
namespace Go.Proofs.Ythjlafpfhgbfoaa
open Go Go.RowKit
set_option linter.unusedSimpArgs false
set_option linter.unusedVariables false
section
variable {P : Program} {n : Nat} {Q : Post} {J : Env → Prop} {env : Env} {w0 w : World} {A : List Asr} {ops : Array Oper} {rest : List Oper}
variable {d : Nat} {ty : TypeId} {pos : String} {af : Array Edge}
theorem Y_convB {s t : TypeId} {ds : TypeDesc} {k : IntKind} {a : Int} {x : Operand} (hs : P.underlying s = some ds) (ht : P.underlying t = some (.int .u8)) (hx : ev env x = some (.int k a)) (hb : 0 ≤ a ∧ a ≤ 255) :
    Y P n ⟨some d, .convert s t x, ty, pos, af, none⟩ env (.int .u8 a) := fun c ha w => by
  simp only [execOp, ha.ev hx, convert, Sem.run_bind, run_underlying hs, run_underlying ht, Result.andThen_ok]
  cases ds <;> simp [Conv.intToInt, IntWalk.u8_in _ hb]
def bcell (b : UInt8) : List Value := [.int .u8 b.toNat]
theorem u8_of {a : Int} (hb : 0 ≤ a ∧ a ≤ 255) : ((UInt8.ofNat a.toNat).toNat : Int) = a := by
  rw [UInt8.toNat_ofNat']; omega
theorem bs_data (bs : List UInt8) : strOfNums (bs.map (fun b => (b.toNat : Int))) = ⟨bs.toArray⟩ := by
  apply ByteArray.ext
  apply Array.toList_inj.1
  rw [strOfNums_data, List.map_map]
  conv => rhs; rw [← List.map_id bs]
  apply List.map_congr_left
  intro x _
  simp
theorem LW_convS {s t e e' : TypeId} {x : Operand} {v : Value} {g : Nat} {bs : List UInt8} (hs : P.underlying s = some (.slice e)) (he : P.underlying e = some (.int .u8)) (ht : P.underlying t = some .string) (hx : ev env x = some v) (h : Own w v e' 1 (some g) (bs.map bcell))
    (next : LW P n ops rest Q ((d, sv bs) :: env) w) (hd : Nat.blt d n = true := by rfl) : LW P n ops (⟨some d, .convert s t x, ty, pos, af, none⟩ :: rest) Q env w := by
  refine LW_run rfl hd (fun a ha => ?_) next
  have hat : ∀ i u, (bs.map bcell)[i]? = some u → PtsTo w ⟨g, i * 1, none⟩ u := fun i u hi => h.at hi
  obtain ⟨_, c, cur, rfl, _⟩ := h
  have h3 := run_convert_bytes_arg (P := P) w s e hs he g 0 (bs.map bcell).length c (bs.map (fun b => (b.toNat : Int))) (by simp) (fun i hi => by
    have hi' : i < bs.length := by simpa using hi
    have := hat i [.int .u8 (bs[i]).toNat] (by simp [bcell, hi'])
    have h4 := this 0 _ rfl
    simp only [List.getD, List.getElem?_map, List.getElem?_eq_getElem hi', Option.map_some, Option.getD_some]
    have e : (⟨g, 0 + i, none⟩ : Addr) = (⟨g, i * 1, none⟩ : Addr).add 0 := by simp [Addr.add]
    rw [e]; exact h4) t ht
  rw [bs_data] at h3
  rw [List.length_map] at hx h3
  simp [execOp, ha.ev hx, h3]
theorem SW_convS {s t e e' : TypeId} {x : Operand} {v : Value} {g : Nat} {bs : List UInt8} {F : Asr → List Asr} (hs : P.underlying s = some (.slice e)) (he : P.underlying e = some (.int .u8)) (ht : P.underlying t = some .string) (hx : ev env x = some v) (h : Hole A (.own v e' 1 (some g) (bs.map bcell)) F)
    (next : SW P n ops rest Q ((d, sv bs) :: env) w0 A) (hd : Nat.blt d n = true := by rfl) : SW P n ops (⟨some d, .convert s t x, ty, pos, af, none⟩ :: rest) Q env w0 A := by
  obtain ⟨i, hA, _⟩ := h.ix
  unfold SW at next ⊢
  exact fun w s => LW_convS hs he ht hx (s.own i hA) (next w s) hd
theorem SW_eqlStrC {t u : TypeId} {x y : Operand} {l m : List UInt8} (hx : ev env x = some (sv l)) (hy : ev env y = some (sv m)) (ht : l = m → SW P n ops rest Q ((d, .bool true) :: env) w0 A) (hf : l ≠ m → SW P n ops rest Q ((d, .bool false) :: env) w0 A) (hd : Nat.blt d n = true := by rfl) : SW P n ops (⟨some d, .binOp .eql t x y u, ty, pos, af, none⟩ :: rest) Q env w0 A := by
  by_cases h : l = m
  · exact SW_eqlStr hx hy (decide_eq_true h) (ht h) hd
  · exact SW_eqlStr hx hy (decide_eq_false h) (hf h) hd
theorem SQ_eqlStrC {t u : TypeId} {x y : Operand} {l m : List UInt8} (hx : ev env x = some (sv l)) (hy : ev env y = some (sv m)) (ht : l = m → SQ P n ops rest J ((d, .bool true) :: env) w0 A) (hf : l ≠ m → SQ P n ops rest J ((d, .bool false) :: env) w0 A) (hd : Nat.blt d n = true := by rfl) : SQ P n ops (⟨some d, .binOp .eql t x y u, ty, pos, af, none⟩ :: rest) J env w0 A := by
  by_cases h : l = m
  · exact SQ_eqlStr hx hy (decide_eq_true h) (ht h) hd
  · exact SQ_eqlStr hx hy (decide_eq_false h) (hf h) hd
theorem SW_neqStrC {t u : TypeId} {x y : Operand} {l m : List UInt8} (hx : ev env x = some (sv l)) (hy : ev env y = some (sv m)) (ht : l ≠ m → SW P n ops rest Q ((d, .bool true) :: env) w0 A) (hf : l = m → SW P n ops rest Q ((d, .bool false) :: env) w0 A) (hd : Nat.blt d n = true := by rfl) : SW P n ops (⟨some d, .binOp .neq t x y u, ty, pos, af, none⟩ :: rest) Q env w0 A := by
  by_cases h : l = m
  · exact SW_neqStr hx hy (by rw [decide_eq_true h]; rfl) (hf h) hd
  · exact SW_neqStr hx hy (by rw [decide_eq_false h]; rfl) (ht h) hd
theorem SQ_neqStrC {t u : TypeId} {x y : Operand} {l m : List UInt8} (hx : ev env x = some (sv l)) (hy : ev env y = some (sv m)) (ht : l ≠ m → SQ P n ops rest J ((d, .bool true) :: env) w0 A) (hf : l = m → SQ P n ops rest J ((d, .bool false) :: env) w0 A) (hd : Nat.blt d n = true := by rfl) : SQ P n ops (⟨some d, .binOp .neq t x y u, ty, pos, af, none⟩ :: rest) J env w0 A := by
  by_cases h : l = m
  · exact SQ_neqStr hx hy (by rw [decide_eq_true h]; rfl) (hf h) hd
  · exact SQ_neqStr hx hy (by rw [decide_eq_false h]; rfl) (ht h) hd
/-- string([]byte{b}) -/
theorem SW_convS1 {s t e e' : TypeId} {x : Operand} {v : Value} {g : Nat} {a : Int} {F : Asr → List Asr} (hs : P.underlying s = some (.slice e)) (he : P.underlying e = some (.int .u8)) (ht : P.underlying t = some .string) (hx : ev env x = some v) (h : Hole A (.own v e' 1 (some g) [[.int .u8 a]]) F) (hb : 0 ≤ a ∧ a ≤ 255)
    (next : SW P n ops rest Q ((d, sv [UInt8.ofNat a.toNat]) :: env) w0 A) (hd : Nat.blt d n = true := by rfl) : SW P n ops (⟨some d, .convert s t x, ty, pos, af, none⟩ :: rest) Q env w0 A :=
  SW_convS (bs := [UInt8.ofNat a.toNat]) hs he ht hx (by have e2 : [UInt8.ofNat a.toNat].map bcell = [[.int .u8 a]] := by (simp only [List.map_cons, List.map_nil, bcell, u8_of hb])
                                                         rw [e2]; exact h) next hd
end
end Go.Proofs.Ythjlafpfhgbfoaa
