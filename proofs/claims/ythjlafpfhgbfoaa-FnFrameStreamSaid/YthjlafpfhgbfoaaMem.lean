/- Memory: what a world keeps while it grows, cells behind an address, slices of rows, and the rules of the operations on them. No condition. -/
import Derived.Test.YthjlafpfhgbfoaaCore
namespace Go.Proofs.Ythjlafpfhgbfoaa
open Go Go.RowKit
set_option linter.unusedSimpArgs false
set_option linter.unusedVariables false

/-! ## cells behind an address -/
theorem add_zero (p : Addr) : p.add 0 = p := by simp [Addr.add]
theorem add_block (p : Addr) (j : Nat) : (p.add j).block = p.block := by unfold Addr.add; split <;> rfl
theorem add_add (p : Addr) (i j : Nat) : (p.add i).add j = p.add (i + j) := by
  unfold Addr.add
  by_cases hi : i = 0 <;> by_cases hj : j = 0 <;> simp [hi, hj, Nat.add_assoc]
theorem add_at (g o j : Nat) : (⟨g, o, none⟩ : Addr).add j = ⟨g, o + j, none⟩ := by unfold Addr.add; split <;> simp_all

def PtsTo (w : World) (p : Addr) (cs : List Value) : Prop := ∀ j u, cs[j]? = some u → w.cell? (p.add j) = some u

theorem PtsTo.cell {w : World} {p : Addr} {cs : List Value} (h : PtsTo w p cs) (j : Nat) {u : Value} (hu : cs[j]? = some u) : w.cell? (p.add j) = some u := h j u hu
theorem PtsTo.mod {S : List Nat} {w w' : World} {p : Addr} {cs : List Value} (h : PtsTo w p cs) (m : Mod S w w') (hp : p.block ∉ S) : PtsTo w' p cs := fun j u hu => by
  have hc := h j u hu
  have hb : (p.add j).block < w.heap.size := World.block_lt_of_cell? _ _ hc
  rw [World.cell?_of_block (w := w) (m.block _ hb (by rw [add_block]; exact hp))]
  exact hc
theorem PtsTo.ext {w w' : World} {p : Addr} {cs : List Value} (h : PtsTo w p cs) (m : Ext w w') : PtsTo w' p cs := h.mod m (by simp)

/-! ## a whole block -/
def Blk (w : World) (g : Nat) (t : TypeId) (cs : List Value) : Prop := w.heap[g]? = some (.cells cs.toArray t (0, 0))
theorem Blk.lt {w : World} {g : Nat} {t : TypeId} {cs : List Value} (h : Blk w g t cs) : g < w.heap.size := by
  rcases Nat.lt_or_ge g w.heap.size with hlt | hge
  · exact hlt
  · unfold Blk at h; rw [Array.getElem?_eq_none hge] at h; cases h
theorem Blk.pts {w : World} {g : Nat} {t : TypeId} {cs : List Value} (h : Blk w g t cs) : PtsTo w ⟨g, 0, none⟩ cs := fun j u hu => by
  rw [add_at, cell_of_row w g _ _ t _ h]
  simpa using hu
theorem Blk.cell {w : World} {g : Nat} {t : TypeId} {cs : List Value} (h : Blk w g t cs) (j : Nat) {u : Value} (hu : cs[j]? = some u) : w.cell? ((⟨g, 0, none⟩ : Addr).add j) = some u := h.pts j u hu
theorem Blk.ptsAt {w : World} {g : Nat} {t : TypeId} {cs : List Value} (h : Blk w g t cs) (o : Nat) : PtsTo w ⟨g, o, none⟩ (cs.drop o) := fun j u hu => by
  rw [add_at, cell_of_row w g _ _ t _ h]
  simpa using hu
theorem Blk.frozen {w : World} {g : Nat} {t : TypeId} {cs : List Value} (h : Blk w g t cs) (j : Nat) : w.frozen? ⟨g, j, none⟩ = false := frozen_of_row w g j _ t h
theorem Blk.mod {S : List Nat} {w w' : World} {g : Nat} {t : TypeId} {cs : List Value} (h : Blk w g t cs) (m : Mod S w w') (hg : g ∉ S) : Blk w' g t cs := (m.block g h.lt hg).trans h
theorem Blk.far {w w' : World} {g h : Nat} {t : TypeId} {cs : List Value} (hb : Blk w g t cs) (m : Mod [h] w w') (hg : g ≠ h) : Blk w' g t cs := hb.mod m (by simpa using hg)
theorem Blk.ext {w w' : World} {g : Nat} {t : TypeId} {cs : List Value} (h : Blk w g t cs) (m : Ext w w') : Blk w' g t cs := h.mod m (by simp)
theorem Blk.new (w : World) (t : TypeId) (cs : List Value) : Blk (w.alloc (.cells cs.toArray t)) w.heap.size t cs := heap_alloc_new w _
theorem Blk.set {w : World} {g : Nat} {t : TypeId} {cs : List Value} (h : Blk w g t cs) (i : Nat) (u : Value) : Blk (w.setCell ⟨g, i, none⟩ u) g t (cs.set i u) := by
  unfold Blk at h ⊢
  have := heap_setCell_same w g i _ t u h
  rw [this]
  simp
theorem Blk.row {w : World} {g : Nat} {t : TypeId} {cs : List Value} (h : Blk w g t cs) (ds : List Value) : Blk (w.setRow g ds.toArray) g t ds := setRow_heap w g _ _ t _ h

/-! ## slices of rows: 'els' the elements, each a row of k cells -/
def Slc (w : World) (v : Value) (k : Nat) (els : List (List Value)) : Prop :=
  ∃ A c, v = .slice A els.length c ∧ els.length ≤ c ∧ c ≤ maxLen ∧ (∀ el ∈ els, el.length = k) ∧ (0 < els.length → ∃ p, A = some p ∧ ∀ i el, els[i]? = some el → PtsTo w (p.add (i * k)) el)
theorem Slc.ext {w w' : World} {v : Value} {k : Nat} {els : List (List Value)} (h : Slc w v k els) (m : Ext w w') : Slc w' v k els := by
  obtain ⟨A, c, rfl, hc, hm, hl, hp⟩ := h
  refine ⟨A, c, rfl, hc, hm, hl, fun h0 => ?_⟩
  obtain ⟨p, rfl, hq⟩ := hp h0
  exact ⟨p, rfl, fun i el hi => (hq i el hi).ext m⟩
theorem Slc.nil (w : World) (k : Nat) : Slc w (.slice none 0 0) k [] := ⟨none, 0, rfl, Nat.le_refl _, Nat.zero_le _, by simp, fun h => absurd h (by simp)⟩
theorem Slc.le {w : World} {v : Value} {k : Nat} {els : List (List Value)} (h : Slc w v k els) : els.length ≤ 9223372036854775807 := by
  obtain ⟨A, c, _, hc, hm, _⟩ := h
  unfold maxLen at hm
  omega
theorem Slc.len {w : World} {v : Value} {k : Nat} {els : List (List Value)} (h : Slc w v k els) : ∀ el ∈ els, el.length = k := by
  obtain ⟨A, c, _, _, _, hl, _⟩ := h
  exact hl

/-- a slice that the call owns: its block whole; 'g' none: nil -/
def Own (w : World) (v : Value) (t : TypeId) (k : Nat) (g : Option Nat) (els : List (List Value)) : Prop :=
  (∀ el ∈ els, el.length = k) ∧
  match g with
  | none => v = .slice none 0 0 ∧ els = []
  | some g => ∃ c cur, v = .slice (some ⟨g, 0, none⟩) els.length c ∧ els.length ≤ c ∧ c ≤ maxLen ∧ Blk w g t cur ∧ cur.length = c * k ∧ cur.take (els.length * k) = els.flatten

theorem flatten_get {k : Nat} : ∀ {els : List (List Value)}, (∀ el ∈ els, el.length = k) → ∀ {i j : Nat} {el : List Value} {u : Value}, els[i]? = some el → el[j]? = some u → els.flatten[i * k + j]? = some u
  | [], _, i, j, el, u, h, _ => by simp at h
  | e :: r, hl, 0, j, el, u, h, hu => by
    simp only [List.getElem?_cons_zero, Option.some.injEq] at h
    subst h
    have hj : j < e.length := (List.getElem?_eq_some_iff.1 hu).1
    simp only [List.flatten_cons, Nat.zero_mul, Nat.zero_add]
    rw [List.getElem?_append_left hj]
    exact hu
  | e :: r, hl, i + 1, j, el, u, h, hu => by
    simp only [List.getElem?_cons_succ] at h
    have he : e.length = k := hl e (by simp)
    have ih := flatten_get (els := r) (fun x hx => hl x (by simp [hx])) h hu
    simp only [List.flatten_cons]
    rw [List.getElem?_append_right (by rw [he, Nat.succ_mul]; omega), he]
    have : (i + 1) * k + j - k = i * k + j := by rw [Nat.succ_mul]; omega
    rw [this]
    exact ih
theorem flatten_len {k : Nat} : ∀ {els : List (List Value)}, (∀ el ∈ els, el.length = k) → els.flatten.length = els.length * k
  | [], _ => by simp
  | e :: r, hl => by
    have := flatten_len (els := r) (fun x hx => hl x (by simp [hx]))
    simp only [List.flatten_cons, List.length_append, this, hl e (by simp), List.length_cons, Nat.succ_mul]
    omega

theorem Own.slc {w : World} {v : Value} {t : TypeId} {k : Nat} {g : Option Nat} {els : List (List Value)} (h : Own w v t k g els) : Slc w v k els := by
  obtain ⟨hl, h⟩ := h
  cases g with
  | none => obtain ⟨rfl, rfl⟩ := h; exact Slc.nil w k
  | some g =>
    obtain ⟨c, cur, rfl, hc, hm, hb, hlen, ht⟩ := h
    refine ⟨some ⟨g, 0, none⟩, c, rfl, hc, hm, hl, fun _ => ⟨_, rfl, fun i el hi j u hu => ?_⟩⟩
    rw [add_add]
    refine hb.pts _ _ ?_
    have hf := flatten_get hl hi hu
    rw [← ht, List.getElem?_take] at hf
    split at hf
    · exact hf
    · cases hf
theorem Own.mod {S : List Nat} {w w' : World} {v : Value} {t : TypeId} {k : Nat} {g : Option Nat} {els : List (List Value)} (h : Own w v t k g els) (m : Mod S w w') (hg : ∀ b, g = some b → b ∉ S) : Own w' v t k g els := by
  obtain ⟨hl, h⟩ := h
  refine ⟨hl, ?_⟩
  cases g with
  | none => exact h
  | some g =>
    obtain ⟨c, cur, hv, hc, hm, hb, r⟩ := h
    exact ⟨c, cur, hv, hc, hm, hb.mod m (hg g rfl), r⟩
theorem Own.ext {w w' : World} {v : Value} {t : TypeId} {k : Nat} {g : Option Nat} {els : List (List Value)} (h : Own w v t k g els) (m : Ext w w') : Own w' v t k g els := h.mod m (fun _ _ => by simp)
theorem Own.nil (w : World) (t : TypeId) (k : Nat) : Own w (.slice none 0 0) t k none [] := ⟨by simp, rfl, rfl⟩
theorem Own.lt {w : World} {v : Value} {t : TypeId} {k g : Nat} {els : List (List Value)} (h : Own w v t k (some g) els) : g < w.heap.size := by
  obtain ⟨_, c, cur, _, _, _, hb, _⟩ := h
  exact hb.lt
theorem Own.len {w : World} {v : Value} {t : TypeId} {k : Nat} {g : Option Nat} {els : List (List Value)} (h : Own w v t k g els) : ∀ el ∈ els, el.length = k := h.1

/-! ## types -/
class TOne (P : Program) (t : TypeId) : Prop where
  one : ∃ d i, P.underlying t = some d ∧ (match d with | .struct _ | .array _ _ => true | _ => false) = false ∧ P.info? t = some i ∧ i.size = 1
class TAgg (P : Program) (t : TypeId) (k : outParam Nat) : Prop where
  agg : ∃ d i, P.underlying t = some d ∧ (match d with | .struct _ | .array _ _ => true | _ => false) = true ∧ P.info? t = some i ∧ i.size = k
class TZero (P : Program) (t : TypeId) (z : outParam (List Value)) : Prop where
  zero : ∃ i z0, P.info? t = some i ∧ i.zero = some z0 ∧ z0.cells = z.toArray ∧ i.size = z.length
class TSlice (P : Program) (t : TypeId) (e : outParam TypeId) (k bytes : outParam Nat) : Prop where
  sl : ∃ i z0, P.underlying t = some (.slice e) ∧ P.info? e = some i ∧ i.size = k ∧ i.bytes = bytes ∧ i.zero = some z0 ∧ z0.cells.size = k ∧ 0 < k
class TField (P : Program) (t : TypeId) (i : Nat) (off : outParam Nat) : Prop where
  fld : ∃ fs f j, P.underlying t = some (.struct fs) ∧ fs[i]? = some f ∧ f.offset = off ∧ P.info? f.type = some j ∧ j.size ≠ 0

theorem run_isAgg_one {P : Program} {t : TypeId} [h : TOne P t] (w : World) : (isAgg t).run P w = .ok false w := by
  obtain ⟨d, i, hd, ha, _⟩ := h.one
  simp only [isAgg, Sem.run_bind, run_underlying hd, Result.andThen_ok]
  cases d <;> first | rfl | cases ha
theorem run_isAgg_agg {P : Program} {t : TypeId} {k : Nat} [h : TAgg P t k] (w : World) : (isAgg t).run P w = .ok true w := by
  obtain ⟨d, i, hd, ha, _⟩ := h.agg
  simp only [isAgg, Sem.run_bind, run_underlying hd, Result.andThen_ok]
  cases d <;> first | rfl | cases ha
theorem run_loadVar_one {P : Program} {t : TypeId} [TOne P t] {w : World} {p : Addr} {v : Value} (hv : w.cell? p = some v) : (loadVar t p).run P w = .ok v w := by
  simp [loadVar, run_isAgg_one, hv]
theorem run_loadVar_agg {P : Program} {t : TypeId} {k : Nat} [h : TAgg P t k] {w : World} {p : Addr} {cs : List Value} (hv : PtsTo w p cs) (hk : cs.length = k) : (loadVar t p).run P w = .ok (.agg cs.toArray) w := by
  have h1 := run_isAgg_agg (P := P) (t := t) w
  obtain ⟨d, i, hd, ha, hi, hs⟩ := h.agg
  have hl := run_loadCells_list (P := P) w p cs hv
  rw [hk] at hl
  simp [loadVar, h1, sizeOf, typeInfo, hi, hs, hl]

/-- cells written from an address on, into a block known whole -/
def upd (cs : List Value) (o : Nat) (vs : List Value) : List Value := cs.take o ++ vs ++ cs.drop (o + vs.length)
theorem run_storeVar_blk {P : Program} {t e : TypeId} {w : World} {g o : Nat} {cs vs : List Value} {v : Value} (hb : Blk w g e cs) (hv : v.cells = vs.toArray) (h1 : ∀ u ∈ vs, u.oneCell' = true) (hfit : o + vs.length ≤ cs.length)
    (hs : ∃ i, P.info? t = some i ∧ i.size = vs.length) : (storeVar t ⟨g, o, none⟩ v).run P w = .ok () (w.setRow g (upd cs o vs).toArray) := by
  obtain ⟨i, hi, hs⟩ := hs
  have := run_storeCells_at P g o e vs 0 cs.toArray w hb (by simpa using hfit) h1
  simp only [Nat.add_zero] at this
  simp [storeVar, sizeOf, typeInfo, hi, hv, hs, this, upd]

/-! ## the rules -/
section
variable {P : Program} {n : Nat} {Q : Post} {J : Env → Prop} {env : Env} {w : World} {ops : Array Oper} {rest : List Oper}
variable {d : Nat} {ty : TypeId} {pos : String} {af : Array Edge}

/-- a call that answers a bool while the world grows -/
def RetX (p : Prop) (w : World) : Ending → World → Prop := fun e w' => e = .returned (.bool (tr p)) ∧ Ext w w'
theorem LW_callX {f : FuncId} {args : Array Operand} {tys : Array TypeId} {vals : List Value} {p : Prop} (ha : evL env args.toList = some vals) (hc : CallOK P f)
    (h : Calls P f vals.toArray w (RetX p w)) (ht : ∀ w', Ext w w' → p → LW P n ops rest Q ((d, (.bool true)) :: env) w') (hf : ∀ w', Ext w w' → ¬ p → LW P n ops rest Q ((d, (.bool false)) :: env) w') (hd : Nat.blt d n = true := by rfl) :
    LW P n ops (⟨some d, .call ⟨.value (.func f), args, tys⟩, ty, pos, af, none⟩ :: rest) Q env w :=
  LW_call ha hc h (fun e w' ⟨he, hw⟩ => by
    refine ⟨_, he, ?_⟩
    by_cases hp : p
    · rw [tr_true hp]; exact ht w' hw hp
    · rw [tr_false hp]; exact hf w' hw hp) hd
theorem QW_callX {f : FuncId} {args : Array Operand} {tys : Array TypeId} {vals : List Value} {p : Prop} (ha : evL env args.toList = some vals) (hc : CallOK P f)
    (h : ∀ w', Ext w w' → Calls P f vals.toArray w' (RetX p w')) (ht : p → QW P n ops rest w J ((d, .bool true) :: env)) (hf : ¬ p → QW P n ops rest w J ((d, .bool false) :: env)) (hd : Nat.blt d n = true := by rfl) :
    QW P n ops (⟨some d, .call ⟨.value (.func f), args, tys⟩, ty, pos, af, none⟩ :: rest) w J env := by
  by_cases hp : p
  · exact QW_call ha hc (fun w' hw' => (h w' hw').mono fun e w'' ⟨he, hx⟩ => ⟨by rw [he, tr_true hp], hx⟩) (ht hp) hd
  · exact QW_call ha hc (fun w' hw' => (h w' hw').mono fun e w'' ⟨he, hx⟩ => ⟨by rw [he, tr_false hp], hx⟩) (hf hp) hd
/-- a call that yields a value while the world grows -/
def RetV (v : Value) (w : World) : Ending → World → Prop := fun e w' => e = .returned v ∧ Ext w w'
theorem LW_callV {f : FuncId} {args : Array Operand} {tys : Array TypeId} {vals : List Value} {v : Value} (ha : evL env args.toList = some vals) (hc : CallOK P f)
    (h : Calls P f vals.toArray w (RetV v w)) (hk : ∀ w', Ext w w' → LW P n ops rest Q ((d, v) :: env) w') (hd : Nat.blt d n = true := by rfl) :
    LW P n ops (⟨some d, .call ⟨.value (.func f), args, tys⟩, ty, pos, af, none⟩ :: rest) Q env w :=
  LW_call ha hc h (fun e w' ⟨he, hw⟩ => ⟨_, he, hk w' hw⟩) hd
theorem Y_len {t e : TypeId} {k by_ m : Nat} {x : Operand} {v : Value} {els : List (List Value)} [ht : TSlice P t e k by_] (hs : Slc w v k els) (hx : ev env x = some v) (hm : els.length = m) :
    Y P n ⟨some d, .call ⟨.builtin .len, #[x], #[t]⟩, ty, pos, af, none⟩ env (.int .i64 m) := fun a ha w' => by
  obtain ⟨i, z0, hu, _⟩ := ht.sl
  obtain ⟨A, c, rfl, _⟩ := hs
  subst hm
  simp [execOp, resolve, invoke, builtin, ha.ev hx, Builtin.len_, run_underlying hu, goInt]
theorem QW_callV {f : FuncId} {args : Array Operand} {tys : Array TypeId} {vals : List Value} {v : Value} (ha : evL env args.toList = some vals) (hc : CallOK P f)
    (h : ∀ w', Ext w w' → Calls P f vals.toArray w' (RetV v w')) (next : QW P n ops rest w J ((d, v) :: env)) (hd : Nat.blt d n = true := by rfl) :
    QW P n ops (⟨some d, .call ⟨.value (.func f), args, tys⟩, ty, pos, af, none⟩ :: rest) w J env := QW_call ha hc h next hd
theorem LW_len {t e : TypeId} {k by_ m : Nat} {x : Operand} {v : Value} {els : List (List Value)} [ht : TSlice P t e k by_] (hs : Slc w v k els) (hx : ev env x = some v) (hm : els.length = m)
    (next : LW P n ops rest Q ((d, .int .i64 m) :: env) w) (hd : Nat.blt d n = true := by rfl) : LW P n ops (⟨some d, .call ⟨.builtin .len, #[x], #[t]⟩, ty, pos, af, none⟩ :: rest) Q env w := LW_y (Y_len (t := t) hs hx hm) next hd
theorem QW_len {t e : TypeId} {k by_ m : Nat} {x : Operand} {v : Value} {els : List (List Value)} [ht : TSlice P t e k by_] (hs : Slc w v k els) (hx : ev env x = some v) (hm : els.length = m)
    (next : QW P n ops rest w J ((d, .int .i64 m) :: env)) (hd : Nat.blt d n = true := by rfl) : QW P n ops (⟨some d, .call ⟨.builtin .len, #[x], #[t]⟩, ty, pos, af, none⟩ :: rest) w J env := QW_y (Y_len (t := t) hs hx hm) next hd

theorem Y_index {t e : TypeId} {k by_ : Nat} {x y : Operand} {v : Value} {i : Int} {els : List (List Value)} {el : List Value} [ht : TSlice P t e k by_] (hs : Slc w v k els) (hx : ev env x = some v) (hy : ev env y = some (.int .i64 i)) (h0 : 0 ≤ i) (he : els[i.toNat]? = some el) :
    ∃ p, PtsTo w p el ∧ Y P n ⟨some d, .indexAddr t x y, ty, pos, af, none⟩ env (.pointer (some p)) := by
  obtain ⟨ti, z0, hu, hi, hsz, _⟩ := ht.sl
  obtain ⟨A, c, rfl, _, _, _, hp⟩ := hs
  obtain ⟨j, rfl⟩ := Int.eq_ofNat_of_zero_le h0
  simp only [Int.toNat_natCast] at he
  have hlt : j < els.length := (List.getElem?_eq_some_iff.1 he).1
  obtain ⟨p, rfl, hq⟩ := hp (by omega)
  refine ⟨_, hq j el he, fun a ha w' => ?_⟩
  simp [execOp, ha.ev hx, ha.ev hy, Instr.indexAt, asIntOf, run_underlying hu, sizeOf, typeInfo, hi, hsz, hlt]
theorem LW_index {t e : TypeId} {k by_ : Nat} {x y : Operand} {v : Value} {i : Int} {els : List (List Value)} {el : List Value} [ht : TSlice P t e k by_] (hs : Slc w v k els) (hx : ev env x = some v) (hy : ev env y = some (.int .i64 i)) (h0 : 0 ≤ i) (he : els[i.toNat]? = some el)
    (next : ∀ p, PtsTo w p el → LW P n ops rest Q ((d, .pointer (some p)) :: env) w) (hd : Nat.blt d n = true := by rfl) : LW P n ops (⟨some d, .indexAddr t x y, ty, pos, af, none⟩ :: rest) Q env w := by
  obtain ⟨p, hp, hy'⟩ := Y_index (t := t) (P := P) (n := n) (env := env) (d := d) (ty := ty) (pos := pos) (af := af) hs hx hy h0 he
  exact LW_y hy' (next p hp) hd
theorem QW_index {t e : TypeId} {k by_ : Nat} {x y : Operand} {v : Value} {i : Int} {els : List (List Value)} {el : List Value} [ht : TSlice P t e k by_] (hs : Slc w v k els) (hx : ev env x = some v) (hy : ev env y = some (.int .i64 i)) (h0 : 0 ≤ i) (he : els[i.toNat]? = some el)
    (next : ∀ p, PtsTo w p el → QW P n ops rest w J ((d, .pointer (some p)) :: env)) (hd : Nat.blt d n = true := by rfl) : QW P n ops (⟨some d, .indexAddr t x y, ty, pos, af, none⟩ :: rest) w J env := by
  obtain ⟨p, hp, hy'⟩ := Y_index (t := t) (P := P) (n := n) (env := env) (d := d) (ty := ty) (pos := pos) (af := af) hs hx hy h0 he
  exact QW_y hy' (next p hp) hd
theorem QW_load {t : TypeId} {x : Operand} {p : Addr} {v : Value} [TOne P t] (hx : ev env x = some (.pointer (some p))) (hv : w.cell? p = some v)
    (next : QW P n ops rest w J ((d, v) :: env)) (hd : Nat.blt d n = true := by rfl) : QW P n ops (⟨some d, .load t x, ty, pos, af, none⟩ :: rest) w J env :=
  QW_val rfl hd (fun a ha w' hw' => by
    have hv' : w'.cell? p = some v := by
      rw [World.cell?_of_block (w := w) (hw'.block _ (World.block_lt_of_cell? _ _ hv) (by simp))]
      exact hv
    simp [execOp, ha.ev hx, Instr.loadAt, Instr.sureAddr, run_loadVar_one hv']) next
theorem QW_loadK {t : TypeId} {k : Nat} {x : Operand} {p : Addr} {cs : List Value} [TAgg P t k] (hx : ev env x = some (.pointer (some p))) (hv : PtsTo w p cs) (hk : cs.length = k)
    (next : QW P n ops rest w J ((d, .agg cs.toArray) :: env)) (hd : Nat.blt d n = true := by rfl) : QW P n ops (⟨some d, .load t x, ty, pos, af, none⟩ :: rest) w J env :=
  QW_val rfl hd (fun a ha w' hw' => by simp [execOp, ha.ev hx, Instr.loadAt, Instr.sureAddr, run_loadVar_agg (hv.ext hw') hk]) next

theorem LW_load {t : TypeId} {x : Operand} {p : Addr} {v : Value} [TOne P t] (hx : ev env x = some (.pointer (some p))) (hv : w.cell? p = some v)
    (next : LW P n ops rest Q ((d, v) :: env) w) (hd : Nat.blt d n = true := by rfl) : LW P n ops (⟨some d, .load t x, ty, pos, af, none⟩ :: rest) Q env w :=
  LW_run rfl hd (fun a ha => by simp [execOp, ha.ev hx, Instr.loadAt, Instr.sureAddr, run_loadVar_one hv]) next
theorem LW_loadK {t : TypeId} {k : Nat} {x : Operand} {p : Addr} {cs : List Value} [TAgg P t k] (hx : ev env x = some (.pointer (some p))) (hv : PtsTo w p cs) (hk : cs.length = k)
    (next : LW P n ops rest Q ((d, (.agg cs.toArray)) :: env) w) (hd : Nat.blt d n = true := by rfl) : LW P n ops (⟨some d, .load t x, ty, pos, af, none⟩ :: rest) Q env w :=
  LW_run rfl hd (fun a ha => by simp [execOp, ha.ev hx, Instr.loadAt, Instr.sureAddr, run_loadVar_agg hv hk]) next

theorem run_fieldAt {t : TypeId} {i off : Nat} [h : TField P t i off] {p : Addr} (w : World) : (Instr.fieldAt t (.pointer (some p)) i).run P w = .ok (.pointer (some (p.add off))) w := by
  obtain ⟨fs, f, j, hu, hf, ho, hj, hs⟩ := h.fld
  simp [Instr.fieldAt, run_underlying hu, hf, Instr.sureAddr, fieldPlace, sizeOf, typeInfo, hj, hs, ho]
theorem Y_field {t : TypeId} {i off : Nat} {x : Operand} {p : Addr} [TField P t i off] (hx : ev env x = some (.pointer (some p))) : Y P n ⟨some d, .fieldAddr t x i, ty, pos, af, none⟩ env (.pointer (some (p.add off))) := fun a ha w => by
  simp [execOp, ha.ev hx, run_fieldAt]
theorem LW_field {t : TypeId} {i off : Nat} {x : Operand} {p : Addr} [TField P t i off] (hx : ev env x = some (.pointer (some p)))
    (next : LW P n ops rest Q ((d, .pointer (some (p.add off))) :: env) w) (hd : Nat.blt d n = true := by rfl) : LW P n ops (⟨some d, .fieldAddr t x i, ty, pos, af, none⟩ :: rest) Q env w := LW_y (Y_field hx) next hd
theorem QW_field {t : TypeId} {i off : Nat} {x : Operand} {p : Addr} [TField P t i off] (hx : ev env x = some (.pointer (some p)))
    (next : QW P n ops rest w J ((d, .pointer (some (p.add off))) :: env)) (hd : Nat.blt d n = true := by rfl) : QW P n ops (⟨some d, .fieldAddr t x i, ty, pos, af, none⟩ :: rest) w J env := QW_y (Y_field hx) next hd

theorem LW_alloc {t : TypeId} {z : List Value} [h : TZero P t z] (next : ∀ g w', g = w.heap.size → g < w'.heap.size → Ext w w' → Blk w' g t z → LW P n ops rest Q ((d, (.pointer (some ⟨g, 0, none⟩))) :: env) w') (hd : Nat.blt d n = true := by rfl) :
    LW P n ops (⟨some d, .alloc t, ty, pos, af, none⟩ :: rest) Q env w := by
  obtain ⟨i, z0, hi, hz, hc, _⟩ := h.zero
  refine LW_run rfl hd (fun a ha => ?_) (next w.heap.size (w.alloc (.cells z.toArray t)) rfl (by simp) ((Mod.refl [] w).alloc _) (Blk.new w t z))
  simp [execOp, Instr.alloc, zeroValue, typeInfo, hi, hz, newVar, newRow, hc]
theorem LW_box {t : TypeId} {x : Operand} {cs : List Value} (hx : ev env x = some (.agg cs.toArray))
    (next : ∀ g w', g = w.heap.size → g < w'.heap.size → Ext w w' → Blk w' g t cs → LW P n ops rest Q ((d, (.pointer (some ⟨g, 0, none⟩))) :: env) w') (hd : Nat.blt d n = true := by rfl) :
    LW P n ops (⟨some d, .box t x, ty, pos, af, none⟩ :: rest) Q env w := by
  refine LW_run rfl hd (fun a ha => ?_) (next w.heap.size (w.alloc (.cells cs.toArray t)) rfl (by simp) ((Mod.refl [] w).alloc _) (Blk.new w t cs))
  simp [execOp, Instr.box, ha.ev hx, newVar, newRow, Value.cells]

theorem LW_store {t e : TypeId} {x y : Operand} {g o : Nat} {cs vs : List Value} {v : Value} (hx : ev env x = some (.pointer (some ⟨g, o, none⟩))) (hy : ev env y = some v) (hb : Blk w g e cs)
    (hv : v.cells = vs.toArray) (h1 : ∀ u ∈ vs, u.oneCell' = true) (hfit : o + vs.length ≤ cs.length) (hs : ∃ i, P.info? t = some i ∧ i.size = vs.length)
    (next : ∀ w', Mod [g] w w' → Blk w' g e (upd cs o vs) → LW P n ops rest Q env w') : LW P n ops (⟨none, .store t x y, ty, pos, af, none⟩ :: rest) Q env w := by
  refine LW_skip rfl rfl (fun a ha => ?_) (next (w.setRow g (upd cs o vs).toArray) ((Mod.refl [g] w).setRow g _ (.inr (by simp))) (hb.row _))
  simp [execOp, ha.ev hx, ha.ev hy, Instr.storeAt, Instr.sureAddr, run_storeVar_blk hb hv h1 hfit hs]
/-- a struct variable laid and filled at once: 'w := list[i]' -/
theorem LW_var {t : TypeId} {z cs : List Value} {s : Nat} {y : Operand} {ty' : TypeId} {pos' : String} {af' : Array Edge} [TZero P t z] (hy : ev env y = some (.agg cs.toArray)) (hs : Nat.beq cs.length z.length = true) (h1 : cs.all Value.oneCell' = true)
    (next : ∀ g w', g = w.heap.size → g < w'.heap.size → Ext w w' → Blk w' g t cs → LW P n ops rest Q ((s, .pointer (some ⟨g, 0, none⟩)) :: env) w') (hne : lk ((s, .pointer (some ⟨w.heap.size, 0, none⟩)) :: env) s = some (.pointer (some ⟨w.heap.size, 0, none⟩)))
    (hy' : ∀ v, ev ((s, v) :: env) y = some (.agg cs.toArray)) (hd : Nat.blt s n = true := by rfl) :
    LW P n ops (⟨some s, .alloc t, ty, pos, af, none⟩ :: ⟨none, .store t (.tmp s) y, ty', pos', af', none⟩ :: rest) Q env w := by
  refine LW_alloc (fun g w1 hg hgl e1 hb => ?_) hd
  subst hg
  have hl : cs.length = z.length := Nat.eq_of_beq_eq_true hs
  rename_i inst
  obtain ⟨i, z0, hi, hz, hc, hsz⟩ := inst.zero
  refine LW_store (vs := cs) (v := .agg cs.toArray) hne (hy' _) hb rfl (fun u hu => List.all_eq_true.1 h1 u hu) (by omega) ⟨i, hi, by omega⟩ (fun w2 m2 hb2 => ?_)
  refine next _ w2 rfl (by have := m2.size; omega) (e1.fresh m2 (fun g hg => by simp at hg; omega)) ?_
  have : upd z 0 cs = cs := by simp [upd, hl]
  rw [this] at hb2
  exact hb2

/-! slices of the call's own: elements addressed, written; made; grown -/
theorem LW_indexO {t e e' : TypeId} {k by_ g : Nat} {x y : Operand} {v : Value} {i : Int} {els : List (List Value)} [ht : TSlice P t e k by_] (hs : Own w v e' k (some g) els) (hx : ev env x = some v) (hy : ev env y = some (.int .i64 i)) (h0 : 0 ≤ i) (he : i < els.length)
    (next : LW P n ops rest Q ((d, .pointer (some ⟨g, i.toNat * k, none⟩)) :: env) w) (hd : Nat.blt d n = true := by rfl) : LW P n ops (⟨some d, .indexAddr t x y, ty, pos, af, none⟩ :: rest) Q env w := by
  obtain ⟨ti, z0, hu, hi, hsz, _⟩ := ht.sl
  obtain ⟨_, c, cur, rfl, _⟩ := hs
  obtain ⟨j, rfl⟩ := Int.eq_ofNat_of_zero_le h0
  have hlt : j < els.length := by omega
  refine LW_y (fun a ha w' => ?_) next hd
  simp [execOp, ha.ev hx, ha.ev hy, Instr.indexAt, asIntOf, run_underlying hu, sizeOf, typeInfo, hi, hsz, hlt, add_at]

theorem upd_len {cs vs : List Value} {o : Nat} (h : o + vs.length ≤ cs.length) : (upd cs o vs).length = cs.length := by
  simp only [upd, List.length_append, List.length_take, List.length_drop]; omega
theorem upd_get {cs vs : List Value} {o j : Nat} (h : o + vs.length ≤ cs.length) : (upd cs o vs)[j]? = if o ≤ j ∧ j < o + vs.length then vs[j - o]? else cs[j]? := by
  unfold upd
  by_cases h1 : j < o
  · rw [if_neg (by omega), List.append_assoc, List.getElem?_append_left (by simp; omega), List.getElem?_take, if_pos h1]
  · by_cases h2 : j < o + vs.length
    · rw [if_pos ⟨by omega, h2⟩, List.append_assoc, List.getElem?_append_right (by simp; omega), List.getElem?_append_left (by simp; omega)]
      congr 1; simp; omega
    · rw [if_neg (by omega), List.append_assoc, List.getElem?_append_right (by simp; omega), List.getElem?_append_right (by simp; omega), List.getElem?_drop]
      congr 1; simp; omega
theorem flatten_set {k : Nat} : ∀ {els : List (List Value)} {i : Nat} {el : List Value}, (∀ el ∈ els, el.length = k) → el.length = k → i < els.length → (els.set i el).flatten = upd els.flatten (i * k) el
  | [], _, _, _, _, h => absurd h (by simp)
  | e :: r, 0, el, hl, he, _ => by
    simp only [List.set_cons_zero, List.flatten_cons, upd, Nat.zero_mul, List.take_zero, List.nil_append, Nat.zero_add]
    rw [List.drop_append_of_le_length (by rw [he, hl e (by simp)]; exact Nat.le_refl _), List.drop_of_length_le (by rw [he, hl e (by simp)]; exact Nat.le_refl _), List.nil_append]
  | e :: r, i + 1, el, hl, he, h => by
    have hek : e.length = k := hl e (by simp)
    have ih := flatten_set (els := r) (i := i) (el := el) (fun x hx => hl x (by simp [hx])) he (by simpa using h)
    simp only [List.set_cons_succ, List.flatten_cons, ih, upd]
    have e1 : (i + 1) * k = e.length + i * k := by rw [hek, Nat.succ_mul]; omega
    rw [e1, show e.length + i * k + el.length = e.length + (i * k + el.length) by omega, List.take_append, List.take_of_length_le (show e.length ≤ e.length + i * k by omega), Nat.add_sub_cancel_left]
    simp [List.append_assoc]
theorem take_upd {cs vs : List Value} {o m : Nat} (h : o + vs.length ≤ m) (hm : m ≤ cs.length) : (upd cs o vs).take m = upd (cs.take m) o vs := by
  apply List.ext_getElem?
  intro j
  rw [List.getElem?_take, upd_get (by omega), upd_get (by simp; omega), List.getElem?_take]
  by_cases hj : j < m
  · simp [hj]
  · rw [if_neg hj, if_neg (by omega), if_neg hj]

/-- a part of an element written -/
theorem Own.upd {w w' : World} {v : Value} {t : TypeId} {k g i o : Nat} {els : List (List Value)} {el vs : List Value} (h : Own w v t k (some g) els) (he : els[i]? = some el) (hfit : o + vs.length ≤ k)
    (hw : ∀ cs, Blk w g t cs → i * k + o + vs.length ≤ cs.length → Blk w' g t (Go.Proofs.Ythjlafpfhgbfoaa.upd cs (i * k + o) vs)) : Own w' v t k (some g) (els.set i (Go.Proofs.Ythjlafpfhgbfoaa.upd el o vs)) := by
  obtain ⟨hl, c, cur, hv, hc, hm, hb, hlen, htk⟩ := h
  have hi : i < els.length := (List.getElem?_eq_some_iff.1 he).1
  have hek : el.length = k := hl el (List.mem_of_getElem? he)
  have hik : i * k + k ≤ els.length * k := by rw [← Nat.succ_mul]; exact Nat.mul_le_mul_right _ hi
  have hck : els.length * k ≤ c * k := Nat.mul_le_mul_right _ hc
  refine ⟨fun x hx => ?_, c, Go.Proofs.Ythjlafpfhgbfoaa.upd cur (i * k + o) vs, by simpa using hv, by simpa using hc, hm, hw cur hb (by omega), by rw [upd_len (by omega)]; exact hlen, ?_⟩
  · rcases List.mem_or_eq_of_mem_set hx with hx | rfl
    · exact hl x hx
    · rw [upd_len (by omega)]; exact hek
  · have hul : (Go.Proofs.Ythjlafpfhgbfoaa.upd el o vs).length = k := by rw [upd_len (by omega)]; exact hek
    rw [List.length_set, take_upd (by omega) (by omega), htk, flatten_set hl hul hi]
    apply List.ext_getElem?
    intro j
    have hfl : els.flatten.length = els.length * k := flatten_len hl
    rw [upd_get (by omega), upd_get (by omega)]
    by_cases h1 : i * k + o ≤ j ∧ j < i * k + o + vs.length
    · rw [if_pos h1, if_pos (by omega), upd_get (by omega), if_pos (by omega)]
      congr 1; omega
    · rw [if_neg h1]
      by_cases h2 : i * k ≤ j ∧ j < i * k + (Go.Proofs.Ythjlafpfhgbfoaa.upd el o vs).length
      · rw [if_pos h2, upd_get (by omega), if_neg (by omega)]
        have := flatten_get hl he (j := j - i * k) (u := el[j - i * k]'(by omega)) (List.getElem?_eq_getElem (by omega))
        rw [show i * k + (j - i * k) = j by omega] at this
        rw [this, List.getElem?_eq_getElem (by omega)]
      · rw [if_neg h2]
/-- a store into an element (at its cell o) of a slice of the call's own -/
theorem LW_storeO {t e : TypeId} {k g i o : Nat} {x y : Operand} {v u : Value} {vs el : List Value} {els : List (List Value)} (hs : Own w v e k (some g) els) (hx : ev env x = some (.pointer (some ⟨g, i * k + o, none⟩))) (hy : ev env y = some u)
    (he : els[i]? = some el) (hv : u.cells = vs.toArray) (h1 : vs.all Value.oneCell' = true) (hfit : o + vs.length ≤ k) (hsz : ∃ i, P.info? t = some i ∧ i.size = vs.length)
    (next : ∀ w', Mod [g] w w' → Own w' v e k (some g) (els.set i (upd el o vs)) → LW P n ops rest Q env w') : LW P n ops (⟨none, .store t x y, ty, pos, af, none⟩ :: rest) Q env w := by
  have hs' := hs
  obtain ⟨hl, c, cur, hvv, hc, hm, hb, hlen, htk⟩ := hs
  have hi : i < els.length := (List.getElem?_eq_some_iff.1 he).1
  have hik : i * k + k ≤ els.length * k := by rw [← Nat.succ_mul]; exact Nat.mul_le_mul_right _ hi
  have hck : els.length * k ≤ c * k := Nat.mul_le_mul_right _ hc
  refine LW_store hx hy hb hv (fun u hu => List.all_eq_true.1 h1 u hu) (by omega) hsz (fun w' m' hb' => next w' m' (hs'.upd he hfit fun cs hcs _ => ?_))
  have : cs = cur := by
    unfold Blk at hcs hb
    rw [hb] at hcs
    injection hcs with h; injection h with h _ _
    exact (List.toArray_inj h).symm
  subst this
  exact hb'

theorem flatten_map_one {els : List (List Value)} (h : els.all (fun el => el.all Value.oneCell') = true) : ∀ u ∈ els.flatten, u.oneCell' = true := fun u hu => by
  obtain ⟨el, hel, hu⟩ := List.mem_flatten.1 hu
  exact List.all_eq_true.1 (List.all_eq_true.1 h el hel) u hu
theorem Slc.flat {v : Value} {k : Nat} {els : List (List Value)} (h : Slc w v k els) (h0 : 0 < els.length) : ∃ p c, v = .slice (some p) els.length c ∧ ∀ j u, els.flatten[j]? = some u → w.cell? (p.add j) = some u := by
  obtain ⟨A, c, rfl, _, _, hl, hp⟩ := h
  obtain ⟨p, rfl, hq⟩ := hp h0
  refine ⟨p, c, rfl, fun j u hu => ?_⟩
  have hj : j < els.flatten.length := (List.getElem?_eq_some_iff.1 hu).1
  rw [flatten_len hl] at hj
  have hk : 0 < k := by
    rcases Nat.eq_zero_or_pos k with h | h
    · subst h; simp at hj
    · exact h
  have hi : j / k < els.length := Nat.div_lt_of_lt_mul (by rw [Nat.mul_comm]; exact hj)
  have hm : j % k < k := Nat.mod_lt _ hk
  have hel : els[j / k]? = some els[j / k] := List.getElem?_eq_getElem hi
  have hlen : (els[j / k]).length = k := hl _ (List.getElem_mem hi)
  have hu2 : els[j / k][j % k]? = some (els[j / k][j % k]'(by omega)) := List.getElem?_eq_getElem (by omega)
  have e := flatten_get hl hel hu2
  have ej : j / k * k + j % k = j := by rw [Nat.mul_comm]; exact Nat.div_add_mod j k
  rw [ej, hu] at e
  have := hq _ _ hel _ _ hu2
  rw [add_add, ej] at this
  rw [this, e]

theorem run_append {t e : TypeId} {k by_ : Nat} {v u : Value} {g : Option Nat} {els news : List (List Value)} (ty : TypeId) [ht : TSlice P t e k by_] (hs : Own w v e k g els) (hn : Slc w u k news) (h1 : news.all (fun el => el.all Value.oneCell') = true)
    (hm : els.length + news.length ≤ 9223372036854775807) (hb : (els.length + news.length) * by_ ≤ 140737488355328) :
    ∃ v' w' g', (Builtin.append_ #[t, t] ty #[v, u]).run P w = .ok v' w' ∧ Mod g.toList w w' ∧ (g' = g ∨ ∃ b, g' = some b ∧ w.heap.size ≤ b) ∧ Own w' v' e k g' (els ++ news) := by
  obtain ⟨i, z, hu, hi, hsz, hby, hz, hzs, hk⟩ := ht.sl
  have hnl := hn.len
  rcases Nat.eq_zero_or_pos news.length with h0 | h0
  · have : news = [] := List.eq_nil_of_length_eq_zero h0
    subst this
    rw [List.append_nil]
    obtain ⟨A, c, rfl, _⟩ := hn
    refine ⟨v, w, g, ?_, Mod.refl _ w, .inl rfl, hs⟩
    obtain ⟨hl, hs⟩ := hs
    cases g with
    | none =>
      obtain ⟨rfl, rfl⟩ := hs
      cases A <;> simp [Builtin.append_, run_underlying hu, sizeOf, typeInfo, hi, Builtin.lenOf, Builtin.firstCells, loadCells, loadCellsFrom]
    | some g =>
      obtain ⟨c', cur, rfl, hc, _⟩ := hs
      cases A <;> simp [Builtin.append_, run_underlying hu, sizeOf, typeInfo, hi, Builtin.lenOf, Builtin.firstCells, loadCells, loadCellsFrom, hc, storeCells]
  · obtain ⟨p, c, rfl, hp⟩ := hn.flat h0
    have hfl : news.flatten.length = news.length * i.size := by rw [hsz]; exact flatten_len hnl
    have h1' := flatten_map_one h1
    have hall : ∀ el ∈ els ++ news, el.length = k := fun el hel => by
      rcases List.mem_append.1 hel with h | h
      · exact hs.len el h
      · exact hnl el h
    have fresh : ∀ old, (w.drew.alloc (.cells (els.flatten.toArray ++ news.flatten.toArray ++ Builtin.zeroCells z.cells (grownCap w (els.length + news.length) old e - (els.length + news.length))) e)).heap.size = w.heap.size + 1 := fun old => by simp
    have own : ∀ old, Own (w.drew.alloc (.cells (els.flatten.toArray ++ news.flatten.toArray ++ Builtin.zeroCells z.cells (grownCap w (els.length + news.length) old e - (els.length + news.length))) e))
        (.slice (some ⟨w.heap.size, 0, none⟩) (els.length + news.length) (grownCap w (els.length + news.length) old e)) e k (some w.heap.size) (els ++ news) := fun old => by
      have hge := grownCap_ge w (els.length + news.length) old e
      have hcm := grownCap_le_maxLen w (els.length + news.length) old e (by unfold maxLen; omega)
      have hfe : els.flatten.length = els.length * k := flatten_len hs.len
      have hfn : news.flatten.length = news.length * k := flatten_len hnl
      refine ⟨hall, grownCap w (els.length + news.length) old e, els.flatten ++ news.flatten ++ (Builtin.zeroCells z.cells (grownCap w (els.length + news.length) old e - (els.length + news.length))).toList, by simp, by simpa using hge, hcm, ?_, ?_, ?_⟩
      · have := heap_alloc_new w.drew (.cells (els.flatten.toArray ++ news.flatten.toArray ++ Builtin.zeroCells z.cells (grownCap w (els.length + news.length) old e - (els.length + news.length))) e)
        unfold Blk
        simp only [World.size_drew] at this
        rw [this]
        congr 2
        apply Array.ext'
        simp
      · simp only [List.length_append, Array.length_toList, size_zeroCells, hzs, hfe, hfn, ← Nat.add_mul]
        congr 1; omega
      · rw [List.length_append, List.flatten_append, List.take_append_of_le_length (by rw [List.length_append, hfe, hfn, ← Nat.add_mul]; exact Nat.le_refl _), List.take_of_length_le (by rw [List.length_append, hfe, hfn, ← Nat.add_mul]; exact Nat.le_refl _)]
    have mod : ∀ (S : List Nat) (o : Obj), Mod S w (w.drew.alloc o) := fun S o => (((Mod.refl S w).drew).alloc o)
    have hs' := hs
    obtain ⟨hl, hs⟩ := hs
    cases g with
    | none =>
      obtain ⟨rfl, rfl⟩ := hs
      have hr := run_append_nil (P := P) w t ty e i z hu hi hz p news.length c news.flatten hfl hp h0 (by simp at hm; omega) (by rw [hby]; simp at hb; omega)
      have ho := own 0
      simp only [List.length_nil, Nat.zero_add, List.flatten_nil, Array.empty_append, List.nil_append] at ho
      exact ⟨_, _, _, hr, mod _ _, .inr ⟨_, rfl, Nat.le_refl _⟩, by simpa using ho⟩
    | some g =>
      obtain ⟨c', cur, rfl, hc, hcm, hblk, hlen, htk⟩ := hs
      by_cases hroom : els.length + news.length ≤ c'
      · have hcur : cur.toArray.size = c' * i.size := by rw [hsz]; simpa using hlen
        have hfit : els.length * i.size + news.flatten.length ≤ cur.toArray.size := by rw [hfl, hcur, ← Nat.add_mul]; exact Nat.mul_le_mul_right _ hroom
        have hr := run_append_room (P := P) w t ty e i hu hi g els.length c' cur.toArray hblk p news.length c news.flatten hfl hp h1' hroom hfit
        have hfit' : els.length * k + news.flatten.length ≤ cur.length := by rw [hsz] at hfit; simpa using hfit
        refine ⟨_, _, some g, hr, (Mod.refl _ w).setRow g _ (.inr (by simp)), .inl rfl, hall, c', upd cur (els.length * k) news.flatten, by simp, by simpa using hroom, hcm, ?_, by rw [upd_len hfit']; exact hlen, ?_⟩
        · rw [hsz]
          exact hblk.row _
        · have hfe : els.flatten.length = els.length * k := flatten_len hl
          have hfn : news.flatten.length = news.length * k := flatten_len hnl
          have e1 : (els ++ news).length * k = els.length * k + news.flatten.length := by rw [List.length_append, Nat.add_mul, hfn]
          rw [e1, List.flatten_append]
          unfold upd
          rw [List.append_assoc, htk, ← hfe, List.take_append, List.take_of_length_le (show els.flatten.length ≤ els.flatten.length + news.flatten.length by omega), Nat.add_sub_cancel_left, List.take_append, List.take_of_length_le (Nat.le_refl _), Nat.sub_self, List.take_zero, List.append_nil]
      · have hold : ∀ j u, els.flatten[j]? = some u → w.cell? ((⟨g, 0, none⟩ : Addr).add j) = some u := fun j u hj => by
          refine hblk.pts _ _ ?_
          rw [← htk, List.getElem?_take] at hj
          split at hj
          · exact hj
          · cases hj
        have hr := run_append_grow (P := P) w t ty e i z hu hi hz ⟨g, 0, none⟩ els.length c' els.flatten (by rw [hsz]; exact flatten_len hl) hold p news.length c news.flatten hfl hp (by omega) (by omega) (by rw [hby]; exact growslice_fits (by omega) hb)
        exact ⟨_, _, _, hr, mod _ _, .inr ⟨_, rfl, Nat.le_refl _⟩, own c'⟩

theorem LW_append {t e : TypeId} {k by_ : Nat} {x y : Operand} {v u : Value} {g : Option Nat} {els news : List (List Value)} [ht : TSlice P t e k by_] (hs : Own w v e k g els) (hn : Slc w u k news) (hx : ev env x = some v) (hy : ev env y = some u)
    (h1 : news.all (fun el => el.all Value.oneCell') = true) (hm : els.length + news.length ≤ 9223372036854775807) (hb : (els.length + news.length) * by_ ≤ 140737488355328)
    (next : ∀ v' w' g', Mod g.toList w w' → (g' = g ∨ ∃ b, g' = some b ∧ w.heap.size ≤ b) → Own w' v' e k g' (els ++ news) → LW P n ops rest Q ((d, v') :: env) w') (hd : Nat.blt d n = true := by rfl) :
    LW P n ops (⟨some d, .call ⟨.builtin .append, #[x, y], #[t, t]⟩, ty, pos, af, none⟩ :: rest) Q env w := by
  obtain ⟨v', w', g', hr, hmod, hg, ho⟩ := run_append (P := P) (t := t) ty hs hn h1 hm hb
  exact LW_run rfl hd (fun a ha => by simp [execOp, resolve, invoke, builtin, ha.ev hx, ha.ev hy, hr]) (next v' w' g' hmod hg ho)

/-- a slice of literal elements -/
theorem LW_slice0 {t e : TypeId} {k by_ : Nat} [ht : TSlice P t e k by_] (next : ∀ g w', g = w.heap.size → g < w'.heap.size → Ext w w' → Own w' (.slice (some ⟨g, 0, none⟩) 0 0) e k (some g) [] → LW P n ops rest Q ((d, .slice (some ⟨g, 0, none⟩) 0 0) :: env) w') (hd : Nat.blt d n = true := by rfl) :
    LW P n ops (⟨some d, .buildSlice t 0 #[], ty, pos, af, none⟩ :: rest) Q env w := by
  obtain ⟨i, z, hu, hi, hsz, _⟩ := ht.sl
  refine LW_run rfl hd (fun a ha => ?_) (next w.heap.size (w.alloc (.cells [].toArray e)) rfl (by simp) ((Mod.refl [] w).alloc _) ⟨by simp, 0, [], by simp, by simp, by unfold maxLen; omega, Blk.new w e [], by simp, by simp⟩)
  simp [execOp, Instr.buildSlice, run_underlying hu, sizeOf, typeInfo, hi, Instr.fill, newRow]
  have : (Array.range 0 : Array Nat) = #[] := by decide
  rw [this]; simp

theorem own_replicate {w : World} {g : Nat} {e : TypeId} {k m : Nat} {z : List Value} (hz : z.length = k) (hm : m ≤ 9223372036854775807) (hb : Blk w g e (List.replicate m z).flatten) : Own w (.slice (some ⟨g, 0, none⟩) m m) e k (some g) (List.replicate m z) := by
  have hl : ∀ el ∈ List.replicate m z, el.length = k := fun el hel => by rw [List.eq_of_mem_replicate hel]; exact hz
  have hf := flatten_len hl
  rw [List.length_replicate] at hf
  exact ⟨hl, m, _, by simp, by simp, by unfold maxLen; omega, hb, hf, by rw [List.length_replicate, List.take_of_length_le (by omega)]⟩
theorem madeCells_eq (z : List Value) (m k : Nat) (hz : z.length = k) (hk : 0 < k) : (madeCells z.toArray (m * k)).toList = (List.replicate m z).flatten := by
  apply List.ext_getElem?
  intro j
  have hl : ∀ el ∈ List.replicate m z, el.length = k := fun el hel => by rw [List.eq_of_mem_replicate hel]; exact hz
  have hf := flatten_len hl
  rw [List.length_replicate] at hf
  by_cases hj : j < m * k
  · have hd : j / k < m := Nat.div_lt_of_lt_mul (by rw [Nat.mul_comm]; exact hj)
    have hmod : j % k < z.length := by rw [hz]; exact Nat.mod_lt _ hk
    have e := flatten_get (i := j / k) (j := j % k) (el := z) (u := z[j % k]) hl (by simp [hd]) (List.getElem?_eq_getElem hmod)
    rw [show j / k * k + j % k = j by rw [Nat.mul_comm]; exact Nat.div_add_mod j k] at e
    rw [e]
    simp [madeCells, hj, hz, List.getElem?_eq_getElem hmod]
  · rw [List.getElem?_eq_none (by simp [size_madeCells]; omega), List.getElem?_eq_none (by omega)]
theorem LW_make {t e : TypeId} {k by_ m : Nat} {x y : Operand} {zl : List Value} [ht : TSlice P t e k by_] [hz : TZero P e zl] (hx : ev env x = some (.int .i64 m)) (hy : ev env y = some (.int .i64 m)) (hm : m ≤ 9223372036854775807) (hb : by_ * m ≤ 281474976710656)
    (next : ∀ g w', g = w.heap.size → g < w'.heap.size → Ext w w' → Own w' (.slice (some ⟨g, 0, none⟩) m m) e k (some g) (List.replicate m zl) → LW P n ops rest Q ((d, .slice (some ⟨g, 0, none⟩) m m) :: env) w') (hd : Nat.blt d n = true := by rfl) :
    LW P n ops (⟨some d, .makeSlice t x y, ty, pos, af, none⟩ :: rest) Q env w := by
  obtain ⟨i, z, hu, hi, hsz, hby, hzz, hzs, hk⟩ := ht.sl
  obtain ⟨i', z', hi', hz', hc', hs'⟩ := hz.zero
  have : i' = i := by rw [hi] at hi'; exact (Option.some.inj hi').symm
  subst this
  have : z' = z := by rw [hzz] at hz'; exact (Option.some.inj hz').symm
  subst this
  have hb' : (i'.bytes : Int) * (m : Int) ≤ 281474976710656 := by
    rw [hby]
    have : ((by_ * m : Nat) : Int) ≤ 281474976710656 := by omega
    rwa [Int.natCast_mul] at this
  have hr := run_make (P := P) w t e i' z' hu hi hzz .i64 .i64 m m (by omega) (Int.le_refl _) hb' (by omega)
  simp only [Int.toNat_natCast] at hr
  have e1 : madeCells z'.cells (m * i'.size) = (List.replicate m zl).flatten.toArray := by
    apply Array.ext'
    rw [hc', hsz, madeCells_eq zl m k (by omega) hk]
  rw [e1] at hr
  refine LW_run rfl hd (fun a ha => ?_) (next w.heap.size (w.alloc (.cells (List.replicate m zl).flatten.toArray e)) rfl (by simp) ((Mod.refl [] w).alloc _) (own_replicate (by omega) hm (Blk.new w e _)))
  simp only [execOp, ha.ev hx, ha.ev hy, Sem.run_bind, hr, Result.andThen_ok, Sem.run_pure]

/-- one cell of a block known whole -/
theorem LW_store1 {t e : TypeId} {x y : Operand} {g o : Nat} {cs : List Value} {u : Value} [ht : TOne P t] (hb : Blk w g e cs) (hx : ev env x = some (.pointer (some ⟨g, o, none⟩))) (hy : ev env y = some u)
    (h1 : u.oneCell' = true) (hfit : Nat.blt o cs.length = true) (next : ∀ w', Mod [g] w w' → Blk w' g e (cs.set o u) → LW P n ops rest Q env w') : LW P n ops (⟨none, .store t x y, ty, pos, af, none⟩ :: rest) Q env w := by
  obtain ⟨dd, i, _, _, hi, hs⟩ := ht.one
  have hlt : o < cs.length := by simpa [Nat.blt_eq] using hfit
  have hc : u.cells = [u].toArray := by cases u <;> first | rfl | cases h1
  refine LW_store (vs := [u]) hx hy hb hc (by simpa using h1) (by simp; omega) ⟨i, hi, by simpa using hs⟩ (fun w' m' hb' => next w' m' ?_)
  have : upd cs o [u] = cs.set o u := by
    apply List.ext_getElem?
    intro j
    rw [upd_get (by simp; omega), List.getElem?_set]
    by_cases hj : o = j
    · subst hj; simp [hlt]
    · rw [if_neg (by simp; omega), if_neg hj]
  rw [this] at hb'
  exact hb'
/-- a whole struct into a block of its own -/
theorem LW_storeK {t e : TypeId} {x y : Operand} {g : Nat} {cs vs : List Value} {k : Nat} [ht : TAgg P t k] (hb : Blk w g e cs) (hx : ev env x = some (.pointer (some ⟨g, 0, none⟩))) (hy : ev env y = some (.agg vs.toArray))
    (h1 : vs.all Value.oneCell' = true) (hk : vs.length = k) (hl : cs.length = vs.length) (next : ∀ w', Mod [g] w w' → Blk w' g e vs → LW P n ops rest Q env w') : LW P n ops (⟨none, .store t x y, ty, pos, af, none⟩ :: rest) Q env w := by
  obtain ⟨dd, i, _, _, hi, hs⟩ := ht.agg
  refine LW_store (vs := vs) hx hy hb rfl (fun u hu => List.all_eq_true.1 h1 u hu) (by omega) ⟨i, hi, by omega⟩ (fun w' m' hb' => next w' m' ?_)
  have : upd cs 0 vs = vs := by simp [upd, hl]
  rw [this] at hb'
  exact hb'

/-- a struct built of its parts -/
def evP (e : Env) : List (Nat × Operand) → Option (List (Nat × Value))
  | [] => some []
  | (i, x) :: r => match ev e x, evP e r with
    | some v, some l => some ((i, v) :: l)
    | _, _ => none
theorem Rep.evP {n : Nat} {a : Act} {e : Env} (h : Rep n a e) : ∀ {l : List (Nat × Operand)} {vs : List (Nat × Value)}, evP e l = some vs → l.map (fun (i, x) => (i, a.eval x)) = vs
  | [], vs, hx => by simp only [Go.Proofs.Ythjlafpfhgbfoaa.evP, Option.some.injEq] at hx; subst hx; rfl
  | (i, x) :: r, vs, hx => by
    simp only [Go.Proofs.Ythjlafpfhgbfoaa.evP] at hx
    split at hx
    · rename_i v l hv hl
      simp only [Option.some.injEq] at hx
      subst hx
      simp [h.ev hv, h.evP hl]
    · cases hx
theorem Y_build {t : TypeId} {parts : Array (Nat × Operand)} {vals : List (Nat × Value)} {cs : List Value} (hp : evP env parts.toList = some vals) (hb : P.built t vals = some cs.toArray) :
    Y P n ⟨some d, .build t parts, ty, pos, af, none⟩ env (.agg cs.toArray) := fun a ha w => by
  have h1 : parts.map (fun (i, x) => (i, a.eval x)) = vals.toArray := by
    rw [← Array.toList_inj, Array.toList_map, ha.evP hp]
  have h2 := run_build (P := P) w t vals.toArray cs.toArray (by simpa using hb)
  simp only [execOp, Sem.run_bind, h1, h2, Result.andThen_ok, Sem.run_pure]
theorem LW_build {t : TypeId} {parts : Array (Nat × Operand)} {vals : List (Nat × Value)} {cs : List Value} (hp : evP env parts.toList = some vals) (hb : P.built t vals = some cs.toArray)
    (next : LW P n ops rest Q ((d, .agg cs.toArray) :: env) w) (hd : Nat.blt d n = true := by rfl) : LW P n ops (⟨some d, .build t parts, ty, pos, af, none⟩ :: rest) Q env w := LW_y (Y_build hp hb) next hd
end
theorem Own.at {w : World} {v : Value} {t : TypeId} {k g i : Nat} {els : List (List Value)} {el : List Value} (h : Own w v t k (some g) els) (he : els[i]? = some el) : PtsTo w ⟨g, i * k, none⟩ el := by
  obtain ⟨hl, c, cur, hv, hc, hm, hb, hlen, htk⟩ := h
  intro j u hj
  have hf := flatten_get hl he hj
  have hek : el.length = k := hl el (List.mem_of_getElem? he)
  have hjk : j < k := by rw [← hek]; exact (List.getElem?_eq_some_iff.1 hj).1
  have hi : i < els.length := (List.getElem?_eq_some_iff.1 he).1
  have hik : i * k + k ≤ els.length * k := by rw [← Nat.succ_mul]; exact Nat.mul_le_mul_right _ hi
  rw [← htk, List.getElem?_take, if_pos (by omega)] at hf
  rw [add_at]
  have := hb.cell (i * k + j) hf
  rwa [add_at, Nat.zero_add] at this
end Go.Proofs.Ythjlafpfhgbfoaa
