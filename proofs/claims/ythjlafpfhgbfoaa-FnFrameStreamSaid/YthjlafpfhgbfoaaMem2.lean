/- More rules of the layer: conversions, '^', slices cut, slice literals. No condition. -/
import Derived.Test.YthjlafpfhgbfoaaMem
import Derived.Great.BuildSlice
import Derived.Laws.Slices
namespace Go.Proofs.Ythjlafpfhgbfoaa
open Go Go.RowKit
set_option linter.unusedSimpArgs false
set_option linter.unusedVariables false
section
variable {P : Program} {n : Nat} {Q : Post} {J : Env → Prop} {env : Env} {w : World} {ops : Array Oper} {rest : List Oper}
variable {d : Nat} {ty : TypeId} {pos : String} {af : Array Edge}

theorem Y_conv {s t : TypeId} {ds : TypeDesc} {k : IntKind} {a : Int} {x : Operand} (hs : P.underlying s = some ds) (ht : P.underlying t = some (.int .i64)) (hx : ev env x = some (.int k a)) (hb : -9223372036854775808 ≤ a ∧ a ≤ 9223372036854775807) :
    Y P n ⟨some d, .convert s t x, ty, pos, af, none⟩ env (.int .i64 a) := fun c ha w => by
  simp only [execOp, ha.ev hx, convert, Sem.run_bind, run_underlying hs, run_underlying ht, Result.andThen_ok]
  cases ds <;> simp [Conv.intToInt, IntWalk.i64_in _ hb]
theorem LW_conv {s t : TypeId} {ds : TypeDesc} {k : IntKind} {a : Int} {x : Operand} (hs : P.underlying s = some ds) (ht : P.underlying t = some (.int .i64)) (hx : ev env x = some (.int k a)) (hb : -9223372036854775808 ≤ a ∧ a ≤ 9223372036854775807)
    (next : LW P n ops rest Q ((d, .int .i64 a) :: env) w) (hd : Nat.blt d n = true := by rfl) : LW P n ops (⟨some d, .convert s t x, ty, pos, af, none⟩ :: rest) Q env w := LW_y (Y_conv hs ht hx hb) next hd
theorem QW_conv {s t : TypeId} {ds : TypeDesc} {k : IntKind} {a : Int} {x : Operand} (hs : P.underlying s = some ds) (ht : P.underlying t = some (.int .i64)) (hx : ev env x = some (.int k a)) (hb : -9223372036854775808 ≤ a ∧ a ≤ 9223372036854775807)
    (next : QW P n ops rest w J ((d, .int .i64 a) :: env)) (hd : Nat.blt d n = true := by rfl) : QW P n ops (⟨some d, .convert s t x, ty, pos, af, none⟩ :: rest) w J env := QW_y (Y_conv hs ht hx hb) next hd

theorem xor_bd {a b : Int} (ha : 0 ≤ a ∧ a ≤ 9223372036854775807) (hb : 0 ≤ b ∧ b ≤ 9223372036854775807) : 0 ≤ bits .xor .i64 a b ∧ bits .xor .i64 a b ≤ 9223372036854775807 := by
  have h1 : (BitVec.ofInt 64 a).toNat = a.toNat := by rw [BitVec.toNat_ofInt]; omega
  have h2 : (BitVec.ofInt 64 b).toNat = b.toNat := by rw [BitVec.toNat_ofInt]; omega
  have h3 : a.toNat ^^^ b.toNat < 2 ^ 63 := Nat.xor_lt_two_pow (by omega) (by omega)
  have h4 : bits .xor .i64 a b = IntKind.i64.wrap (((BitVec.ofInt 64 a) ^^^ (BitVec.ofInt 64 b)).toNat : Nat) := rfl
  rw [h4, BitVec.toNat_xor, h1, h2, IntWalk.i64_in _ (by omega)]
  omega
theorem LW_xor {t u : TypeId} {a b : Int} {x y : Operand} (hx : ev env x = some (.int .i64 a)) (hy : ev env y = some (.int .i64 b)) (ha : 0 ≤ a ∧ a ≤ 9223372036854775807) (hb : 0 ≤ b ∧ b ≤ 9223372036854775807)
    (next : ∀ c, 0 ≤ c → c ≤ 9223372036854775807 → LW P n ops rest Q ((d, .int .i64 c) :: env) w) (hd : Nat.blt d n = true := by rfl) : LW P n ops (⟨some d, .binOp .xor t x y u, ty, pos, af, none⟩ :: rest) Q env w :=
  LW_y (v := .int .i64 (bits .xor .i64 a b)) (fun c hA w => by simp [execOp, hA.ev hx, hA.ev hy, eqGuard, binOp, intBits_xor]) (next _ (xor_bd ha hb).1 (xor_bd ha hb).2) hd

theorem elem_of {t e : TypeId} (hu : P.underlying t = some (.slice e)) : P.elem t = e := by simp [Program.elem, hu]
theorem slc_cut {v : Value} {k : Nat} {els : List (List Value)} (hs : Slc w v k els) {l h : Nat} (h1 : l ≤ h) (h2 : h ≤ els.length) :
    ∃ A c, v = .slice A els.length c ∧ els.length ≤ c ∧ Slc w (sliced A l h c k) k ((els.take h).drop l) := by
  obtain ⟨A, c, rfl, hc, hm, hl, hp⟩ := hs
  have hlen : ((els.take h).drop l).length = h - l := by simp; omega
  refine ⟨A, c, rfl, hc, _, _, by unfold sliced; rw [hlen], by rw [hlen]; omega, by omega, fun el he => hl el (List.mem_of_mem_take (List.mem_of_mem_drop he)), fun h0 => ?_⟩
  rw [hlen] at h0
  obtain ⟨p, rfl, hq⟩ := hp (by omega)
  refine ⟨p.add (l * k), by rw [if_neg (by omega)]; rfl, fun i el he => ?_⟩
  rw [List.getElem?_drop, List.getElem?_take] at he
  split at he
  · have := hq _ _ he
    rw [Nat.add_mul, ← add_add] at this
    exact this
  · cases he
/-- 'x[:h]' of a slice -/
theorem LW_sliceH {t e : TypeId} {k by_ : Nat} {x y : Operand} {v : Value} {h : Int} {els : List (List Value)} [ht : TSlice P t e k by_] (hs : Slc w v k els) (hx : ev env x = some v) (hy : ev env y = some (.int .i64 h)) (h0 : 0 ≤ h) (h1 : h ≤ els.length)
    (next : ∀ v', Slc w v' k (els.take h.toNat) → LW P n ops rest Q ((d, v') :: env) w) (hd : Nat.blt d n = true := by rfl) : LW P n ops (⟨some d, .slice t x none (some y) none, ty, pos, af, none⟩ :: rest) Q env w := by
  obtain ⟨i, z0, hu, hi, hsz, _⟩ := ht.sl
  obtain ⟨A, c, rfl, hc, hs'⟩ := slc_cut hs (l := 0) (h := h.toNat) (by omega) (by omega)
  refine LW_y (v := sliced A 0 h.toNat c k) (fun a hA w => ?_) (next _ (by simpa using hs')) hd
  have hu' : P.underlying t = some (.slice (P.elem t)) := by rw [elem_of hu]; exact hu
  have h3 := run_sliceAt_slice (P := P) (w := w) t (.slice A els.length c) none (some (.int .i64 h)) none hu'
  have h4 := run_slice_h (P := P) (w := w) t A els.length c hu' .i64 h h0 (by omega)
  rw [elem_of hu] at h4
  simp [execOp, hA.ev hx, hA.ev hy, h3, h4, sizeOf, typeInfo, hi, hsz]
/-- 'x[l:h]' of a slice -/
theorem LW_sliceLH {t e : TypeId} {k by_ : Nat} {x y z : Operand} {v : Value} {l h : Int} {els : List (List Value)} [ht : TSlice P t e k by_] (hs : Slc w v k els) (hx : ev env x = some v) (hz : ev env z = some (.int .i64 l)) (hy : ev env y = some (.int .i64 h)) (h0 : 0 ≤ l) (h2 : l ≤ h) (h1 : h ≤ els.length)
    (next : ∀ v', Slc w v' k ((els.take h.toNat).drop l.toNat) → LW P n ops rest Q ((d, v') :: env) w) (hd : Nat.blt d n = true := by rfl) : LW P n ops (⟨some d, .slice t x (some z) (some y) none, ty, pos, af, none⟩ :: rest) Q env w := by
  obtain ⟨i, z0, hu, hi, hsz, _⟩ := ht.sl
  obtain ⟨A, c, rfl, hc, hs'⟩ := slc_cut hs (l := l.toNat) (h := h.toNat) (by omega) (by omega)
  refine LW_y (v := sliced A l.toNat h.toNat c k) (fun a hA w => ?_) (next _ hs') hd
  have hu' : P.underlying t = some (.slice (P.elem t)) := by rw [elem_of hu]; exact hu
  have h3 := run_sliceAt_slice (P := P) (w := w) t (.slice A els.length c) (some (.int .i64 l)) (some (.int .i64 h)) none hu'
  have h4 := run_slice_lh (P := P) (w := w) t A els.length c hu' .i64 .i64 l h h0 h2 (by omega)
  rw [elem_of hu] at h4
  simp [execOp, hA.ev hx, hA.ev hy, hA.ev hz, h3, h4, sizeOf, typeInfo, hi, hsz]
/-- 'x[:0]' of a slice of the call's own -/
theorem LW_sliceO0 {t e e' : TypeId} {k by_ : Nat} {g : Option Nat} {x : Operand} {v : Value} {els : List (List Value)} [ht : TSlice P t e k by_] (hs : Own w v e' k g els) (hx : ev env x = some v)
    (next : ∀ v', Own w v' e' k g [] → LW P n ops rest Q ((d, v') :: env) w) (hd : Nat.blt d n = true := by rfl) : LW P n ops (⟨some d, .slice t x none (some (.const (.int .i64 0))) none, ty, pos, af, none⟩ :: rest) Q env w := by
  obtain ⟨i, z0, hu, hi, hsz, _⟩ := ht.sl
  have hu' : P.underlying t = some (.slice (P.elem t)) := by rw [elem_of hu]; exact hu
  have key : ∃ A len c, v = .slice A len c ∧ Own w (sliced A 0 0 c k) e' k g [] := by
    obtain ⟨hl, hs⟩ := hs
    cases g with
    | none =>
      obtain ⟨rfl, rfl⟩ := hs
      exact ⟨none, 0, 0, rfl, Own.nil _ _ _⟩
    | some g =>
      obtain ⟨c, cur, rfl, hc, hm, hb, hlen, htk⟩ := hs
      refine ⟨_, _, _, rfl, by simp, c, cur, ?_, by simp, hm, hb, hlen, by simp⟩
      unfold sliced
      simp [add_zero]
  obtain ⟨A, len, c, rfl, ho⟩ := key
  refine LW_y (v := sliced A 0 0 c k) (fun a hA w => ?_) (next _ ho) hd
  have h3 := run_sliceAt_slice (P := P) (w := w) t (.slice A len c) none (some (.int .i64 0)) none hu'
  have h4 := run_slice_h (P := P) (w := w) t A len c hu' .i64 0 (Int.le_refl _) (by omega)
  have e2 : a.eval (.const (.int .i64 0)) = .int .i64 0 := rfl
  rw [elem_of hu] at h4
  simp [execOp, hA.ev hx, e2, h3, h4, sizeOf, typeInfo, hi, hsz]

/-- a slice literal -/
theorem LW_buildS {t e : TypeId} {k by_ len : Nat} {parts : Array (Nat × Operand)} {vals : List (Nat × Value)} {zl : List Value} (els : List (List Value)) [ht : TSlice P t e k by_] [hz : TZero P e zl] (hp : evP env parts.toList = some vals)
    (hpos : Nat.ble 1 len = true) (hsm : Nat.ble (len * k) 1000 = true) (hlen : els.length = len) (hl : els.all (fun el => Nat.beq el.length k) = true)
    (hf : Instr.fill (fun i => some (i * k, k)) ((Array.range (len * k)).map (zl.toArray[· % zl.toArray.size]!)) vals = some els.flatten.toArray)
    (next : ∀ g w', g = w.heap.size → g < w'.heap.size → Ext w w' → Own w' (.slice (some ⟨g, 0, none⟩) len len) e k (some g) els → LW P n ops rest Q ((d, .slice (some ⟨g, 0, none⟩) len len) :: env) w') (hd : Nat.blt d n = true := by rfl) :
    LW P n ops (⟨some d, .buildSlice t len parts, ty, pos, af, none⟩ :: rest) Q env w := by
  obtain ⟨i, z, hu, hi, hsz, hby, hzz, hzs, hk⟩ := ht.sl
  obtain ⟨i', z', hi', hz', hc', hs'⟩ := hz.zero
  have : i' = i := by rw [hi] at hi'; exact (Option.some.inj hi').symm
  subst this
  have : z' = z := by rw [hzz] at hz'; exact (Option.some.inj hz').symm
  subst this
  have hpos' : 1 ≤ len := Nat.le_of_ble_eq_true hpos
  have hsm' : len * k ≤ 1000 := Nat.le_of_ble_eq_true hsm
  have hl' : ∀ el ∈ els, el.length = k := fun el he => Nat.eq_of_beq_eq_true (List.all_eq_true.1 hl el he)
  have hlk : 1 ≤ len * k := Nat.mul_pos hpos' hk
  refine LW_run rfl hd (fun a ha => ?_) (next w.heap.size (w.alloc (.cells els.flatten.toArray e)) rfl (by simp) ((Mod.refl [] w).alloc _)
    ⟨hl', len, els.flatten, by rw [hlen], by omega, by unfold maxLen; have : len * 1 ≤ len * k := Nat.mul_le_mul_left _ hk; omega, Blk.new w e _, by rw [flatten_len hl', hlen], by rw [List.take_of_length_le]; rw [flatten_len hl']; exact Nat.le_refl _⟩)
  have h1 : parts.map (fun (i, x) => (i, a.eval x)) = vals.toArray := by
    rw [← Array.toList_inj, Array.toList_map, ha.evP hp]
  have h2 := run_buildSlice (P := P) w t e len vals.toArray els.flatten.toArray i' z' hu hi hzz (by rw [hsz]; omega) (by rw [hsz]; omega) (by rw [hsz, hc']; exact hf)
  simp only [execOp, Sem.run_bind, h1, h2, Result.andThen_ok, Sem.run_pure]
end
end Go.Proofs.Ythjlafpfhgbfoaa
