/- The rules of the walks with the memory as a list, each piece sought once. No condition. -/
import Derived.Test.YthjlafpfhgbfoaaS2
namespace Go.Proofs.Ythjlafpfhgbfoaa
open Go Go.RowKit
set_option linter.unusedSimpArgs false
set_option linter.unusedVariables false

/-! searches -/
inductive SlcS : List Asr → Value → Nat → List (List Value) → Prop
  | own {v : Value} {t : TypeId} {k : Nat} {g : Option Nat} {els : List (List Value)} {A : List Asr} : SlcS (.own v t k g els :: A) v k els
  | skip {a : Asr} {A : List Asr} {v : Value} {k : Nat} {els : List (List Value)} (h : SlcS A v k els) : SlcS (a :: A) v k els
theorem SlcS.sat {A : List Asr} {v : Value} {k : Nat} {els : List (List Value)} (h : SlcS A v k els) {w : World} (hs : ∀ a ∈ A, a.sat w) : Slc w v k els := by
  induction h with
  | own => exact Own.slc (show Own w _ _ _ _ _ from hs _ List.mem_cons_self)
  | skip h ih => exact ih (fun a ha => hs a (by simp [ha]))
theorem SlcS.ok {A : List Asr} {v : Value} {k : Nat} {els : List (List Value)} {w0 w : World} (s : St w0 w A) (h : SlcS A v k els) : Slc w v k els := h.sat s.sat
inductive OneS : List Asr → Value → Prop
  | own {v : Value} {t : TypeId} {k : Nat} {g : Option Nat} {els : List (List Value)} {A : List Asr} : OneS (.own v t k g els :: A) v
  | skip {a : Asr} {A : List Asr} {v : Value} (h : OneS A v) : OneS (a :: A) v
theorem OneS.ok {A : List Asr} {v : Value} (h : OneS A v) : One A v := by
  induction h with
  | own => exact One.own 0 rfl
  | skip h ih => exact fun w hs => ih w (fun a ha => hs a (by simp [ha]))
/-- a list with a piece, and what it is with another one in its place -/
inductive Hole : List Asr → Asr → (Asr → List Asr) → Prop
  | here {a : Asr} {A : List Asr} : Hole (a :: A) a (fun b => b :: A)
  | skip {c a : Asr} {A : List Asr} {F : Asr → List Asr} (h : Hole A a F) : Hole (c :: A) a (fun b => c :: F b)
theorem Hole.ix {A : List Asr} {a : Asr} {F : Asr → List Asr} (h : Hole A a F) : ∃ i, A[i]? = some a ∧ ∀ b, A.set i b = F b := by
  induction h with
  | here => exact ⟨0, rfl, fun b => rfl⟩
  | skip h ih =>
    obtain ⟨i, h1, h2⟩ := ih
    exact ⟨i + 1, by simpa using h1, fun b => by simp [h2]⟩
inductive LoadAt (P : Program) : TypeId → List Asr → Addr → Value → Prop
  | one {t e : TypeId} {g : Nat} {v : Value} {cs : List Value} {A : List Asr} (h : TOne P t) : LoadAt P t (.blk g e (v :: cs) :: A) ⟨g, 0, none⟩ v
  | off {t e : TypeId} {g j : Nat} {v : Value} {cs : List Value} {A : List Asr} (h : TOne P t) (hv : cs[j]? = some v) : LoadAt P t (.blk g e cs :: A) ((⟨g, 0, none⟩ : Addr).add j) v
  | agg {t e : TypeId} {g k : Nat} {cs : List Value} {A : List Asr} (h : TAgg P t k) (hk : Nat.beq cs.length k = true) : LoadAt P t (.blk g e cs :: A) ⟨g, 0, none⟩ (.agg cs.toArray)
  | own1 {t e : TypeId} {k b ix : Nat} {v u : Value} {el : List Value} {els : List (List Value)} {A : List Asr} (h : TOne P t) (he : els[ix]? = some (u :: el)) : LoadAt P t (.own v e k (some b) els :: A) ⟨b, ix * k, none⟩ u
  | ownJ {t e : TypeId} {k b ix j : Nat} {v u : Value} {el : List Value} {els : List (List Value)} {A : List Asr} (h : TOne P t) (he : els[ix]? = some el) (hv : el[j]? = some u) : LoadAt P t (.own v e k (some b) els :: A) ((⟨b, ix * k, none⟩ : Addr).add j) u
  | ownK {t e : TypeId} {k k' b ix : Nat} {v : Value} {el : List Value} {els : List (List Value)} {A : List Asr} (h : TAgg P t k') (he : els[ix]? = some el) (hk : el.length = k') : LoadAt P t (.own v e k (some b) els :: A) ⟨b, ix * k, none⟩ (.agg el.toArray)
  | skip {t : TypeId} {a : Asr} {A : List Asr} {p : Addr} {v : Value} (h : LoadAt P t A p v) : LoadAt P t (a :: A) p v
theorem LoadAt.ok {P : Program} {t : TypeId} {A : List Asr} {p : Addr} {v : Value} (h : LoadAt P t A p v) {w : World} (hs : ∀ a ∈ A, a.sat w) :
    (TOne P t ∧ w.cell? p = some v) ∨ (∃ (k : Nat) (cs : List Value), TAgg P t k ∧ PtsTo w p cs ∧ cs.length = k ∧ v = .agg cs.toArray) := by
  induction h with
  | one h => exact .inl ⟨h, by
      have hb := hs _ List.mem_cons_self; simp only [Asr.sat] at hb
      simpa [add_zero] using hb.cell 0 rfl⟩
  | off h hv => exact .inl ⟨h, by
      have hb := hs _ List.mem_cons_self; simp only [Asr.sat] at hb
      exact hb.cell _ hv⟩
  | agg h hk => exact .inr ⟨_, _, h, by
      have hb := hs _ List.mem_cons_self; simp only [Asr.sat] at hb
      exact hb.pts, Nat.eq_of_beq_eq_true hk, rfl⟩
  | own1 h he => exact .inl ⟨h, by
      have hb := hs _ List.mem_cons_self; simp only [Asr.sat] at hb
      simpa [add_zero] using hb.at he 0 _ rfl⟩
  | ownJ h he hv => exact .inl ⟨h, by
      have hb := hs _ List.mem_cons_self; simp only [Asr.sat] at hb
      exact hb.at he _ _ hv⟩
  | ownK h he hk => exact .inr ⟨_, _, h, by
      have hb := hs _ List.mem_cons_self; simp only [Asr.sat] at hb
      exact hb.at he, hk, rfl⟩
  | skip h ih => exact ih (fun a ha => hs a (by simp [ha]))
section
variable {P : Program} {n : Nat} {Q : Post} {J : Env → Prop} {env : Env} {w0 : World} {A : List Asr} {ops : Array Oper} {rest : List Oper}
variable {d : Nat} {ty : TypeId} {pos : String} {af : Array Edge}
theorem SW_loadX {t : TypeId} {x : Operand} {p : Addr} {v : Value} (hx : ev env x = some (.pointer (some p))) (h : LoadAt P t A p v)
    (next : SW P n ops rest Q ((d, v) :: env) w0 A) (hd : Nat.blt d n = true := by rfl) : SW P n ops (⟨some d, .load t x, ty, pos, af, none⟩ :: rest) Q env w0 A := by
  unfold SW at next ⊢
  intro w s
  rcases h.ok s.sat with ⟨h1, h2⟩ | ⟨k, cs, h1, h2, h3, rfl⟩
  · exact LW_load hx h2 (next w s) hd
  · exact LW_loadK hx h2 h3 (next w s) hd
theorem SQ_loadX {t : TypeId} {x : Operand} {p : Addr} {v : Value} (hx : ev env x = some (.pointer (some p))) (h : LoadAt P t A p v)
    (next : SQ P n ops rest J ((d, v) :: env) w0 A) (hd : Nat.blt d n = true := by rfl) : SQ P n ops (⟨some d, .load t x, ty, pos, af, none⟩ :: rest) J env w0 A := by
  unfold SQ at next ⊢
  intro w s
  rcases h.ok s.sat with ⟨h1, h2⟩ | ⟨k, cs, h1, h2, h3, rfl⟩
  · exact QW_load hx h2 (next w s) hd
  · exact QW_loadK hx h2 h3 (next w s) hd
/-- a store into a block: the first cell, another one, the whole -/
theorem SW_storeX1 {t e : TypeId} {x y : Operand} {g : Nat} {c u : Value} {cs : List Value} {F : Asr → List Asr} [TOne P t] (hx : ev env x = some (.pointer (some ⟨g, 0, none⟩))) (hy : ev env y = some u) (h : Hole A (.blk g e (c :: cs)) F) (h1 : One A u)
    (next : SW P n ops rest Q env w0 (F (.blk g e (u :: cs)))) : SW P n ops (⟨none, .store t x y, ty, pos, af, none⟩ :: rest) Q env w0 A := by
  obtain ⟨i, hA, hB⟩ := h.ix
  exact SW_store1_ i hA hx hy h1 (hB _) next
theorem SW_storeX {t e : TypeId} {x y : Operand} {g o : Nat} {u : Value} {cs : List Value} {F : Asr → List Asr} [TOne P t] (hx : ev env x = some (.pointer (some ((⟨g, 0, none⟩ : Addr).add o)))) (hy : ev env y = some u) (h : Hole A (.blk g e cs) F) (h1 : One A u) (hfit : Nat.blt o cs.length = true)
    (next : SW P n ops rest Q env w0 (F (.blk g e (cs.set o u)))) : SW P n ops (⟨none, .store t x y, ty, pos, af, none⟩ :: rest) Q env w0 A := by
  obtain ⟨i, hA, hB⟩ := h.ix
  exact SW_store_ i hA hx hy h1 hfit (hB _) next
theorem SW_storeXK {t e : TypeId} {x y : Operand} {g k : Nat} {cs vs : List Value} {F : Asr → List Asr} [TAgg P t k] (hx : ev env x = some (.pointer (some ⟨g, 0, none⟩))) (hy : ev env y = some (.agg vs.toArray)) (h : Hole A (.blk g e cs) F) (h1 : OneAll A vs) (hk : Nat.beq vs.length k = true) (hl : Nat.beq cs.length vs.length = true)
    (next : SW P n ops rest Q env w0 (F (.blk g e vs))) : SW P n ops (⟨none, .store t x y, ty, pos, af, none⟩ :: rest) Q env w0 A := by
  obtain ⟨i, hA, hB⟩ := h.ix
  exact SW_storeK_ i hA hx hy h1 hk hl (hB _) next
/-- into an element of an own slice -/
theorem SW_storeOX {t e : TypeId} {k b ix o : Nat} {x y : Operand} {v u : Value} {el : List Value} {els : List (List Value)} {F : Asr → List Asr} [TOne P t] (hx : ev env x = some (.pointer (some ((⟨b, ix * k, none⟩ : Addr).add o)))) (hy : ev env y = some u) (h : Hole A (.own v e k (some b) els) F) (he : els[ix]? = some el) (h1 : One A u) (hfit : Nat.blt o k = true)
    (next : SW P n ops rest Q env w0 (F (.own v e k (some b) (els.set ix (upd el o [u]))))) : SW P n ops (⟨none, .store t x y, ty, pos, af, none⟩ :: rest) Q env w0 A := by
  obtain ⟨i, hA, hB⟩ := h.ix
  exact SW_storeO_ i hA hx hy he h1 hfit (hB _) next
theorem SW_storeOX1 {t e : TypeId} {k b ix : Nat} {x y : Operand} {v u : Value} {el : List Value} {els : List (List Value)} {F : Asr → List Asr} [TOne P t] (hx : ev env x = some (.pointer (some ⟨b, ix * k, none⟩))) (hy : ev env y = some u) (h : Hole A (.own v e k (some b) els) F) (he : els[ix]? = some el) (h1 : One A u) (hfit : Nat.blt 0 k = true)
    (next : SW P n ops rest Q env w0 (F (.own v e k (some b) (els.set ix (upd el 0 [u]))))) : SW P n ops (⟨none, .store t x y, ty, pos, af, none⟩ :: rest) Q env w0 A := by
  obtain ⟨i, hA, hB⟩ := h.ix
  exact SW_storeO1_ i hA hx hy he h1 hfit (hB _) next
theorem SW_storeOXK {t e : TypeId} {k k2 b ix : Nat} {x y : Operand} {v : Value} {el vs : List Value} {els : List (List Value)} {F : Asr → List Asr} [TAgg P t k2] (hx : ev env x = some (.pointer (some ⟨b, ix * k, none⟩))) (hy : ev env y = some (.agg vs.toArray)) (h : Hole A (.own v e k (some b) els) F) (he : els[ix]? = some el) (h1 : OneAll A vs) (hk : vs.length = k2) (hkk : Nat.beq k2 k = true)
    (next : SW P n ops rest Q env w0 (F (.own v e k (some b) (els.set ix vs)))) : SW P n ops (⟨none, .store t x y, ty, pos, af, none⟩ :: rest) Q env w0 A := by
  obtain ⟨i, hA, hB⟩ := h.ix
  exact SW_storeOK_ i hA hx hy he h1 hk hkk (hB _) next
theorem SW_lenX {t e : TypeId} {k by_ m : Nat} {x : Operand} {v : Value} {els : List (List Value)} [ht : TSlice P t e k by_] (hx : ev env x = some v) (h : SlcS A v k els) (hm : els.length = m)
    (next : SW P n ops rest Q ((d, .int .i64 m) :: env) w0 A) (hd : Nat.blt d n = true := by rfl) : SW P n ops (⟨some d, .call ⟨.builtin .len, #[x], #[t]⟩, ty, pos, af, none⟩ :: rest) Q env w0 A := by
  unfold SW at next ⊢
  exact fun w s => LW_len (h.ok s) hx hm (next w s) hd
theorem SQ_lenX {t e : TypeId} {k by_ m : Nat} {x : Operand} {v : Value} {els : List (List Value)} [ht : TSlice P t e k by_] (hx : ev env x = some v) (h : SlcS A v k els) (hm : els.length = m)
    (next : SQ P n ops rest J ((d, .int .i64 m) :: env) w0 A) (hd : Nat.blt d n = true := by rfl) : SQ P n ops (⟨some d, .call ⟨.builtin .len, #[x], #[t]⟩, ty, pos, af, none⟩ :: rest) J env w0 A := by
  unfold SQ at next ⊢
  exact fun w s => QW_len (h.ok s) hx hm (next w s) hd
theorem SW_indexOX {t e e' : TypeId} {k by_ : Nat} {g : Option Nat} {x y : Operand} {v : Value} {ix : Int} {els : List (List Value)} {F : Asr → List Asr} [ht : TSlice P t e k by_] (hx : ev env x = some v) (hy : ev env y = some (.int .i64 ix)) (h : Hole A (.own v e' k g els) F) (h0 : 0 ≤ ix) (he : ix < els.length)
    (next : ∀ b, g = some b → SW P n ops rest Q ((d, .pointer (some ⟨b, ix.toNat * k, none⟩)) :: env) w0 A) (hd : Nat.blt d n = true := by rfl) : SW P n ops (⟨some d, .indexAddr t x y, ty, pos, af, none⟩ :: rest) Q env w0 A := by
  obtain ⟨i, hA, hB⟩ := h.ix
  exact SW_indexO_ i hA hx hy h0 he next hd
theorem SQ_indexOX {t e e' : TypeId} {k by_ : Nat} {g : Option Nat} {x y : Operand} {v : Value} {ix : Int} {els : List (List Value)} {F : Asr → List Asr} [ht : TSlice P t e k by_] (hx : ev env x = some v) (hy : ev env y = some (.int .i64 ix)) (h : Hole A (.own v e' k g els) F) (h0 : 0 ≤ ix) (he : ix < els.length)
    (next : ∀ b, g = some b → SQ P n ops rest J ((d, .pointer (some ⟨b, ix.toNat * k, none⟩)) :: env) w0 A) (hd : Nat.blt d n = true := by rfl) : SQ P n ops (⟨some d, .indexAddr t x y, ty, pos, af, none⟩ :: rest) J env w0 A := by
  obtain ⟨i, hA, hB⟩ := h.ix
  exact SQ_indexO_ i hA hx hy h0 he next hd
/-- an element of an own slice, told as in the entry's world -/
theorem SW_appendX {t e : TypeId} {k by_ : Nat} {x y : Operand} {v u : Value} {g : Option Nat} {els news : List (List Value)} {F : Asr → List Asr} [ht : TSlice P t e k by_] (hx : ev env x = some v) (hy : ev env y = some u) (h : Hole A (.own v e k g els) F)
    (hn : SlcS A u k news) (h1 : news.all (fun el => el.all Value.oneCell') = true) (hm : els.length + news.length ≤ 9223372036854775807) (hb : (els.length + news.length) * by_ ≤ 140737488355328)
    (next : ∀ v' g', SW P n ops rest Q ((d, v') :: env) w0 (F (.own v' e k g' (els ++ news)))) (hd : Nat.blt d n = true := by rfl) :
    SW P n ops (⟨some d, .call ⟨.builtin .append, #[x, y], #[t, t]⟩, ty, pos, af, none⟩ :: rest) Q env w0 A := by
  obtain ⟨i, hA, hB⟩ := h.ix
  exact SW_append_ i hA hx hy (fun w s => hn.ok s) (fun w hs => h1) hm hb (fun v' g' => by rw [hB]; exact next v' g') hd
/-- the same, the news in the entry's world -/
theorem SW_appendW {t e : TypeId} {k by_ : Nat} {x y : Operand} {v u : Value} {g : Option Nat} {els news : List (List Value)} {F : Asr → List Asr} [ht : TSlice P t e k by_] (hx : ev env x = some v) (hy : ev env y = some u) (h : Hole A (.own v e k g els) F)
    (hn : Slc w0 u k news) (h1 : news.all (fun el => el.all Value.oneCell') = true) (hm : els.length + news.length ≤ 9223372036854775807) (hb : (els.length + news.length) * by_ ≤ 140737488355328)
    (next : ∀ v' g', SW P n ops rest Q ((d, v') :: env) w0 (F (.own v' e k g' (els ++ news)))) (hd : Nat.blt d n = true := by rfl) :
    SW P n ops (⟨some d, .call ⟨.builtin .append, #[x, y], #[t, t]⟩, ty, pos, af, none⟩ :: rest) Q env w0 A := by
  obtain ⟨i, hA, hB⟩ := h.ix
  exact SW_append_ i hA hx hy (fun w s => hn.ext s.ext) (fun w hs => h1) hm hb (fun v' g' => by rw [hB]; exact next v' g') hd
/-- to a nil slice that is not in the list -/
theorem SW_appendXN {t e : TypeId} {k by_ : Nat} {x y : Operand} {u : Value} {news : List (List Value)} [ht : TSlice P t e k by_] (hx : ev env x = some (.slice none 0 0)) (hy : ev env y = some u)
    (hn : SlcS A u k news) (h1 : news.all (fun el => el.all Value.oneCell') = true) (hm : news.length ≤ 9223372036854775807) (hb : news.length * by_ ≤ 140737488355328)
    (next : ∀ v' g', SW P n ops rest Q ((d, v') :: env) w0 (.own v' e k g' news :: A)) (hd : Nat.blt d n = true := by rfl) :
    SW P n ops (⟨some d, .call ⟨.builtin .append, #[x, y], #[t, t]⟩, ty, pos, af, none⟩ :: rest) Q env w0 A :=
  SW_appendN hx hy (fun w s => hn.ok s) (fun w hs => h1) hm hb next hd
theorem SW_callMX {f : FuncId} {args : Array Operand} {tys : Array TypeId} {vals : List Value} {r v : Value} {t : TypeId} {k : Nat} {g : Option Nat} {els els' : List (List Value)} {F : Asr → List Asr} (ha : evL env args.toList = some vals) (hc : CallOK P f)
    (h : ∀ w, Own w v t k g els → Calls P f vals.toArray w (RetM r v t k g els' w)) (hu : Hole A (.own v t k g els) F) (next : SW P n ops rest Q ((d, r) :: env) w0 (F (.own v t k g els'))) (hd : Nat.blt d n = true := by rfl) :
    SW P n ops (⟨some d, .call ⟨.value (.func f), args, tys⟩, ty, pos, af, none⟩ :: rest) Q env w0 A := by
  obtain ⟨i, hA, hB⟩ := hu.ix
  exact SW_callM_ i hA ha hc h (hB _) next hd
theorem SW_extractX {x : Operand} {i : Nat} {v : Value} {vs : List Value} (hx : ev env x = some (.tuple vs.toArray)) (hv : vs[i]? = some v) (next : SW P n ops rest Q ((d, v) :: env) w0 A) (hd : Nat.blt d n = true := by rfl) :
    SW P n ops (⟨some d, .extract x i, ty, pos, af, none⟩ :: rest) Q env w0 A := by
  obtain ⟨h1, h2⟩ := List.getElem?_eq_some_iff.1 hv
  refine SW_extract hx ?_ next hd
  simp [hv]
/-- a call that lays nothing of account -/
def Ret0 (Φ : Value → Prop) : World → Ending → World → Prop := fun w e w' => ∃ v, e = .returned v ∧ Φ v ∧ Ext w w'
theorem SW_call0 {f : FuncId} {args : Array Operand} {tys : Array TypeId} {vals : List Value} {Φ : Value → Prop} (ha : evL env args.toList = some vals) (hc : CallOK P f)
    (h : ∀ w, St w0 w A → Calls P f vals.toArray w (Ret0 Φ w)) (next : ∀ v, Φ v → SW P n ops rest Q ((d, v) :: env) w0 A) (hd : Nat.blt d n = true := by rfl) :
    SW P n ops (⟨some d, .call ⟨.value (.func f), args, tys⟩, ty, pos, af, none⟩ :: rest) Q env w0 A := by
  unfold SW at next ⊢
  exact fun w s => LW_call ha hc (h w s) (fun e w' ⟨v, he, hp, hx⟩ => ⟨v, he, next v hp w' (s.more hx)⟩) hd
theorem SE_ret0 {fn : Func} {Φ : Value → Prop} {vs : List Value} (hr : SRes P env A fn.results.toList vs) (h : Φ (tup vs)) : SE (FnQ P fn (Ret0 Φ w0)) .ret env w0 A := SE_ret hr (fun w s => ⟨_, rfl, h, s.ext⟩)
theorem LW_boxv {w : World} {t : TypeId} {x : Operand} {v : Value} {cs : List Value} (hx : ev env x = some v) (hc : v.cells = cs.toArray)
    (next : ∀ g w', g = w.heap.size → g < w'.heap.size → Ext w w' → Blk w' g t cs → LW P n ops rest Q ((d, (.pointer (some ⟨g, 0, none⟩))) :: env) w') (hd : Nat.blt d n = true := by rfl) :
    LW P n ops (⟨some d, .box t x, ty, pos, af, none⟩ :: rest) Q env w := by
  refine LW_run rfl hd (fun a ha => ?_) (next w.heap.size (w.alloc (.cells cs.toArray t)) rfl (by simp) ((Mod.refl [] w).alloc _) (Blk.new w t cs))
  simp [execOp, Instr.box, ha.ev hx, newVar, newRow, hc]
theorem SW_boxv {t : TypeId} {x : Operand} {v : Value} (hx : ev env x = some v) (hc : v.cells = #[v])
    (next : ∀ g, SW P n ops rest Q ((d, (.pointer (some ⟨g, 0, none⟩))) :: env) w0 (.blk g t [v] :: A)) (hd : Nat.blt d n = true := by rfl) :
    SW P n ops (⟨some d, .box t x, ty, pos, af, none⟩ :: rest) Q env w0 A := by
  unfold SW at next ⊢
  exact fun w s => LW_boxv (cs := [v]) hx hc (fun g w' hg hl x hb => next g w' (s.push x hb (fun b hbm => by simp [Asr.foot] at hbm; omega))) hd
theorem SC_seqR {i : Nat} {l : Array Oper} {b : Bool} {y : Code} (h : SC P n (.region i l b) (thenE (fun e w => CW P n y Q e w) Q) env w0 A) : SC P n (.seq (.region i l b) y) Q env w0 A := SC_seq h
/-- the ways through a part come together: what is kept of the frame, and the pieces as they were -/
theorem SC_merge {c : Code} {E' : Env} (t : Nat) (v : Value) (hs : Sub E' env) (hx : SC P n c (thenE (fun e w => Sub ((t, v) :: E') e ∧ St w0 w A) Q) env w0 A) (hy : SE Q .normal ((t, v) :: E') w0 A) (hq : ∀ e e' w, Sub e e' → Q .normal e w → Q .normal e' w) : SC P n c Q env w0 A := by
  unfold SC SE at *
  exact fun w s => (hx w s).mono fun x e w' h => by
    cases x with
    | normal => exact hq _ _ _ h.1 (hy w' h.2)
    | exit i => exact h
    | goto l => exact h
    | ret => exact h
    | panic c => exact h
    | outgrown => exact h
theorem SE_merge {E' : Env} {A' : List Asr} {t : Nat} {v : Value} (h : Sub ((t, v) :: E') env) (hA : Sel A' A) : SE (thenE (fun e w => Sub ((t, v) :: E') e ∧ St w0 w A) Q) .normal env w0 A' := by
  unfold SE
  exact fun w s => N_then ⟨h, s.sel hA⟩
theorem then_sub {y : Code} {Q' : Post} : ∀ e e' w, Sub e e' → thenE (fun e w => CW P n y Q e w) Q' .normal e w → thenE (fun e w => CW P n y Q e w) Q' .normal e' w := fun e e' w hs h => CW.sub h hs
theorem SWf (f : FuncId) {args : Array Operand} {tys : Array TypeId} (h : SW P n ops (⟨some d, .call ⟨.value (.func f), args, tys⟩, ty, pos, af, none⟩ :: rest) Q env w0 A) : SW P n ops (⟨some d, .call ⟨.value (.func f), args, tys⟩, ty, pos, af, none⟩ :: rest) Q env w0 A := h
theorem SQf (f : FuncId) {args : Array Operand} {tys : Array TypeId} (h : SQ P n ops (⟨some d, .call ⟨.value (.func f), args, tys⟩, ty, pos, af, none⟩ :: rest) J env w0 A) : SQ P n ops (⟨some d, .call ⟨.value (.func f), args, tys⟩, ty, pos, af, none⟩ :: rest) J env w0 A := h
theorem SWbi (b : Builtin) {args : Array Operand} {tys : Array TypeId} (h : SW P n ops (⟨some d, .call ⟨.builtin b, args, tys⟩, ty, pos, af, none⟩ :: rest) Q env w0 A) : SW P n ops (⟨some d, .call ⟨.builtin b, args, tys⟩, ty, pos, af, none⟩ :: rest) Q env w0 A := h
theorem SQbi (b : Builtin) {args : Array Operand} {tys : Array TypeId} (h : SQ P n ops (⟨some d, .call ⟨.builtin b, args, tys⟩, ty, pos, af, none⟩ :: rest) J env w0 A) : SQ P n ops (⟨some d, .call ⟨.builtin b, args, tys⟩, ty, pos, af, none⟩ :: rest) J env w0 A := h
theorem SWv {f : Operand} {args : Array Operand} {tys : Array TypeId} (h : SW P n ops (⟨some d, .call ⟨.value f, args, tys⟩, ty, pos, af, none⟩ :: rest) Q env w0 A) : SW P n ops (⟨some d, .call ⟨.value f, args, tys⟩, ty, pos, af, none⟩ :: rest) Q env w0 A := h
end
end Go.Proofs.Ythjlafpfhgbfoaa
