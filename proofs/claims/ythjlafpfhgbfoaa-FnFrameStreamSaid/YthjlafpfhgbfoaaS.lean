/- Walks with the memory as a list: what the call has laid, each piece apart from the others, over a world that stays. No condition. -/
import Derived.Test.YthjlafpfhgbfoaaMem2
import Derived.KernelRfl
namespace Go.Proofs.Ythjlafpfhgbfoaa
open Go Go.RowKit
set_option linter.unusedSimpArgs false
set_option linter.unusedVariables false

inductive Asr where
  | blk (g : Nat) (t : TypeId) (cs : List Value)
  | own (v : Value) (t : TypeId) (k : Nat) (g : Option Nat) (els : List (List Value))
def Asr.sat (w : World) : Asr → Prop
  | .blk g t cs => Blk w g t cs
  | .own v t k g els => Own w v t k g els
def Asr.foot : Asr → List Nat
  | .blk g _ _ => [g]
  | .own _ _ _ g _ => g.toList
theorem Asr.mod {S : List Nat} {w w' : World} {a : Asr} (h : a.sat w) (m : Mod S w w') (hs : ∀ b ∈ a.foot, b ∉ S) : a.sat w' := by
  cases a with
  | blk g t cs => exact Blk.mod h m (hs g (by simp [foot]))
  | own v t k g els => exact Own.mod h m (fun b hb => hs b (by simp [foot, hb]))
theorem Asr.lt {w : World} {a : Asr} (h : a.sat w) : ∀ b ∈ a.foot, b < w.heap.size := by
  cases a with
  | blk g t cs => intro b hb; obtain rfl : b = g := by simpa [foot] using hb
                  exact Blk.lt h
  | own v t k g els => intro b hb; obtain rfl : g = some b := by simpa [foot] using hb
                       exact Own.lt h

structure St (w0 w : World) (A : List Asr) : Prop where
  ext : Ext w0 w
  sat : ∀ a ∈ A, a.sat w
  new : ∀ a ∈ A, ∀ b ∈ a.foot, w0.heap.size ≤ b
  dis : A.Pairwise (fun a c => ∀ b ∈ a.foot, b ∉ c.foot)
theorem St.refl (w : World) : St w w [] := ⟨Mod.refl _ w, by simp, by simp, .nil⟩
theorem St.more {w0 w w' : World} {A : List Asr} (s : St w0 w A) (x : Ext w w') : St w0 w' A :=
  ⟨s.ext.trans x, fun a ha => Asr.mod (s.sat a ha) x (by simp), s.new, s.dis⟩
theorem St.join {w0 w w' : World} {A B : List Asr} (s : St w0 w A) (t : St w w' B) : St w0 w' (B ++ A) := by
  refine ⟨s.ext.trans t.ext, fun a ha => ?_, fun a ha b hb => ?_, List.pairwise_append.2 ⟨t.dis, s.dis, fun a ha c hc b hb hbc => ?_⟩⟩
  · rcases List.mem_append.1 ha with h | h
    · exact t.sat a h
    · exact Asr.mod (s.sat a h) t.ext (by simp)
  · rcases List.mem_append.1 ha with h | h
    · have := t.new a h b hb; have := s.ext.size; omega
    · exact s.new a h b hb
  · have := t.new a ha b hb
    have := Asr.lt (s.sat c hc) b hbc
    omega
theorem St.push {w0 w w' : World} {A : List Asr} {a : Asr} (s : St w0 w A) (x : Ext w w') (h : a.sat w') (hn : ∀ b ∈ a.foot, w.heap.size ≤ b) : St w0 w' (a :: A) :=
  s.join (B := [a]) ⟨x, by simpa using h, by simpa using hn, List.pairwise_singleton _ _⟩
theorem mem_set_of {A : List Asr} {i : Nat} {a c : Asr} (h : c ∈ A.set i a) : c = a ∨ ∃ j, j ≠ i ∧ A[j]? = some c := by
  obtain ⟨j, hj⟩ := List.mem_iff_getElem?.1 h
  rw [List.getElem?_set] at hj
  split at hj
  · rename_i hij
    split at hj
    · exact .inl (Option.some.inj hj).symm
    · cases hj
  · exact .inr ⟨j, fun e => by omega, hj⟩
theorem dis_at {A : List Asr} (h : A.Pairwise (fun a c => ∀ b ∈ a.foot, b ∉ c.foot)) {i j : Nat} {a c : Asr} (hij : i ≠ j) (hi : A[i]? = some a) (hj : A[j]? = some c) : ∀ b ∈ a.foot, b ∉ c.foot := by
  rw [List.pairwise_iff_getElem] at h
  obtain ⟨hi1, hi2⟩ := List.getElem?_eq_some_iff.1 hi
  obtain ⟨hj1, hj2⟩ := List.getElem?_eq_some_iff.1 hj
  rcases Nat.lt_or_gt_of_ne hij with h1 | h1
  · have := h i j hi1 hj1 h1; rw [hi2, hj2] at this; exact this
  · have := h j i hj1 hi1 h1; rw [hi2, hj2] at this
    exact fun b hb hc => this b hc hb
theorem St.set {w0 w w' : World} {A : List Asr} (i : Nat) {a a' : Asr} (s : St w0 w A) (hi : A[i]? = some a) (m : Mod a.foot w w') (h : a'.sat w') (hf : ∀ b ∈ a'.foot, b ∈ a.foot ∨ w.heap.size ≤ b) : St w0 w' (A.set i a') := by
  have hmem := List.mem_of_getElem? hi
  have key : ∀ j c, j ≠ i → A[j]? = some c → (∀ b ∈ a'.foot, b ∉ c.foot) := fun j c hji hc b hb hbc => by
    rcases hf b hb with h1 | h1
    · exact dis_at s.dis (Ne.symm hji) hi hc b h1 hbc
    · have := Asr.lt (s.sat c (List.mem_of_getElem? hc)) b hbc; omega
  refine ⟨s.ext.fresh m (s.new a hmem), fun c hc => ?_, fun c hc b hb => ?_, ?_⟩
  · rcases mem_set_of hc with rfl | ⟨j, hji, hj⟩
    · exact h
    · exact Asr.mod (s.sat c (List.mem_of_getElem? hj)) m (fun b hb hba => dis_at s.dis hji hj hi b hb hba)
  · rcases mem_set_of hc with rfl | ⟨j, hji, hj⟩
    · rcases hf b hb with h1 | h1
      · exact s.new a hmem b h1
      · have := s.ext.size; omega
    · exact s.new c (List.mem_of_getElem? hj) b hb
  · rw [List.pairwise_iff_getElem]
    intro x y hx hy hxy
    simp only [List.length_set] at hx hy
    rw [List.getElem_set, List.getElem_set]
    split
    · rename_i hix
      rw [if_neg (by omega)]
      exact key y _ (by omega) (List.getElem?_eq_getElem hy)
    · split
      · rename_i hix hiy
        intro b hb hc
        exact key x _ (by omega) (List.getElem?_eq_getElem hx) b hc hb
      · exact dis_at s.dis (by omega) (List.getElem?_eq_getElem hx) (List.getElem?_eq_getElem hy)
/-- the pieces of B lie in A -/
inductive Sel : List Asr → List Asr → Prop
  | refl (A : List Asr) : Sel A A
  | nil (A : List Asr) : Sel A []
  | take {A B : List Asr} (i : Nat) {a : Asr} (h : A[i]? = some a) (r : Sel (A.eraseIdx i) B) : Sel A (a :: B)
  | drop {A B : List Asr} {a : Asr} (r : Sel A B) : Sel (a :: A) B
theorem Sel.mem {A B : List Asr} (h : Sel A B) : ∀ b ∈ B, b ∈ A := by
  induction h with
  | refl A => exact fun b hb => hb
  | nil A => simp
  | take i h r ih =>
    intro b hb
    rcases List.mem_cons.1 hb with rfl | hb
    · exact List.mem_of_getElem? h
    · exact List.mem_of_mem_eraseIdx (ih b hb)
  | drop r ih => exact fun b hb => List.mem_cons_of_mem _ (ih b hb)
theorem Sel.dis {A B : List Asr} (h : Sel A B) : A.Pairwise (fun a c => ∀ b ∈ a.foot, b ∉ c.foot) → B.Pairwise (fun a c => ∀ b ∈ a.foot, b ∉ c.foot) := by
  induction h with
  | refl A => exact fun h => h
  | nil A => exact fun _ => .nil
  | @take A B i a h r ih =>
    intro hp
    refine List.pairwise_cons.2 ⟨fun c hc => ?_, ih (hp.sublist (List.eraseIdx_sublist _ _))⟩
    have hm := r.mem c hc
    obtain ⟨j, hj⟩ := List.mem_iff_getElem?.1 hm
    rw [List.getElem?_eraseIdx] at hj
    split at hj
    · exact dis_at hp (by omega) h hj
    · exact dis_at hp (by omega) h hj
  | drop r ih => exact fun hp => ih (List.pairwise_cons.1 hp).2
theorem St.sel {w0 w : World} {A B : List Asr} (s : St w0 w A) (h : Sel A B) : St w0 w B :=
  ⟨s.ext, fun a ha => s.sat a (h.mem a ha), fun a ha => s.new a (h.mem a ha), h.dis s.dis⟩
theorem St.own {w0 w : World} {A : List Asr} (s : St w0 w A) (i : Nat) {v : Value} {t : TypeId} {k : Nat} {g : Option Nat} {els : List (List Value)} (h : A[i]? = some (.own v t k g els)) : Own w v t k g els := s.sat _ (List.mem_of_getElem? h)
theorem St.slc {w0 w : World} {A : List Asr} (s : St w0 w A) (i : Nat) {v : Value} {t : TypeId} {k : Nat} {g : Option Nat} {els : List (List Value)} (h : A[i]? = some (.own v t k g els)) : Slc w v k els := (s.own i h).slc
theorem St.blk {w0 w : World} {A : List Asr} (s : St w0 w A) (i : Nat) {g : Nat} {t : TypeId} {cs : List Value} (h : A[i]? = some (.blk g t cs)) : Blk w g t cs := s.sat _ (List.mem_of_getElem? h)
/-- a value of one cell -/
theorem Own.one {w : World} {v : Value} {t : TypeId} {k : Nat} {g : Option Nat} {els : List (List Value)} (h : Own w v t k g els) : v.oneCell' = true := by
  obtain ⟨_, h⟩ := h
  cases g with
  | none => rw [h.1]; rfl
  | some g => obtain ⟨c, cur, h, _⟩ := h; rw [h]; rfl
theorem Slc.one {w : World} {v : Value} {k : Nat} {els : List (List Value)} (h : Slc w v k els) : v.oneCell' = true := by
  obtain ⟨A, c, h, _⟩ := h; rw [h]; rfl
def One (A : List Asr) (u : Value) : Prop := ∀ w, (∀ a ∈ A, a.sat w) → u.oneCell' = true
theorem One.lit {A : List Asr} {u : Value} (h : u.oneCell' = true) : One A u := fun _ _ => h
theorem One.own {A : List Asr} {u : Value} (i : Nat) {t : TypeId} {k : Nat} {g : Option Nat} {els : List (List Value)} (h : A[i]? = some (.own u t k g els)) : One A u := fun w hs => Own.one (hs _ (List.mem_of_getElem? h))
def OneAll (A : List Asr) (us : List Value) : Prop := ∀ u ∈ us, One A u
theorem OneAll.nil {A : List Asr} : OneAll A [] := fun u hu => by cases hu
theorem OneAll.cons {A : List Asr} {u : Value} {us : List Value} (h : One A u) (r : OneAll A us) : OneAll A (u :: us) := fun v hv => by
  rcases List.mem_cons.1 hv with rfl | hv
  · exact h
  · exact r v hv
theorem OneAll.lit {A : List Asr} {us : List Value} (h : us.all Value.oneCell' = true) : OneAll A us := fun u hu => .lit (List.all_eq_true.1 h u hu)

/-! ## judgements -/
def SC (P : Program) (n : Nat) (c : Code) (Q : Post) (env : Env) (w0 : World) (A : List Asr) : Prop := ∀ w, St w0 w A → CW P n c Q env w
def SW (P : Program) (n : Nat) (ops : Array Oper) (l : List Oper) (Q : Post) (env : Env) (w0 : World) (A : List Asr) : Prop := ∀ w, St w0 w A → LW P n ops l Q env w
def SQ (P : Program) (n : Nat) (ops : Array Oper) (l : List Oper) (J : Env → Prop) (env : Env) (w0 : World) (A : List Asr) : Prop := ∀ w, St w0 w A → QW P n ops l w J env
def SA (P : Program) (n : Nat) (ops : Array Oper) (k : Nat) (listed : Array Bool) (Q : Post) (env : Env) (w0 : World) (A : List Asr) : Prop := ∀ w, St w0 w A → AW P n ops k listed Q env w
def SE (Q : Post) (x : Exit) (env : Env) (w0 : World) (A : List Asr) : Prop := ∀ w, St w0 w A → Q x env w
/-- what a quiet region leaves -/
def JQ (Q : Post) (w0 : World) (A : List Asr) : Env → Prop := fun e => ∀ w, St w0 w A → Q .normal e w
def LoopK {α : Type} (E : α → Env) (As : α → List Asr) (R : α → Prop) (m : α → Nat) (x : α) (w0 : World) : Env → World → Prop := fun e w' => ∃ y, Sub (E y) e ∧ St w0 w' (As y) ∧ R y ∧ m y < m x

section
variable {P : Program} {n : Nat} {Q : Post} {env : Env} {w0 : World} {A : List Asr}
theorem SCk {c : Code} (h : SC P n c Q env w0 A) : SC P n c Q env w0 A := h
theorem SWk {ops : Array Oper} {l : List Oper} (h : SW P n ops l Q env w0 A) : SW P n ops l Q env w0 A := h
theorem SQk {J : Env → Prop} {ops : Array Oper} {l : List Oper} (h : SQ P n ops l J env w0 A) : SQ P n ops l J env w0 A := h
theorem SAk {ops : Array Oper} {k : Nat} {listed : Array Bool} (h : SA P n ops k listed Q env w0 A) : SA P n ops k listed Q env w0 A := h
theorem SEk {x : Exit} (h : SE Q x env w0 A) : SE Q x env w0 A := h
theorem SC_seq {x y : Code} (h : SC P n x (thenE (fun e w => CW P n y Q e w) Q) env w0 A) : SC P n (.seq x y) Q env w0 A := fun w s => CW_seq (h w s)
theorem SE_seq {y : Code} (h : SC P n y Q env w0 A) : SE (thenE (fun e w => CW P n y Q e w) Q) .normal env w0 A := fun w s => N_then (h w s)
theorem SC_skip (h : SE Q .normal env w0 A) : SC P n .skip Q env w0 A := fun w s => CW_skip (h w s)
theorem SC_ret (h : SE Q .ret env w0 A) : SC P n .ret Q env w0 A := fun w s => CW_ret (h w s)
theorem SC_exit {i : Nat} (h : SE Q (.exit i) env w0 A) : SC P n (.exit i) Q env w0 A := fun w s => CW_exit (h w s)
theorem SC_block {i : Nat} {c : Code} (h : SC P n c (blockE i Q) env w0 A) : SC P n (.block i c) Q env w0 A := fun w s => CW_block (h w s)
theorem SC_cond {c : Operand} {x y : Code} {b : Bool} (hc : ev env c = some (.bool b)) (ht : b = true → SC P n x Q env w0 A) (hf : b = false → SC P n y Q env w0 A) : SC P n (.cond c x y) Q env w0 A :=
  fun w s => CW_cond hc (fun h => ht h w s) (fun h => hf h w s)
theorem SC_true {c : Operand} {x y : Code} (hc : ev env c = some (.bool true)) (ht : SC P n x Q env w0 A) : SC P n (.cond c x y) Q env w0 A := fun w s => CW_true hc (ht w s)
theorem SC_false {c : Operand} {x y : Code} (hc : ev env c = some (.bool false)) (hf : SC P n y Q env w0 A) : SC P n (.cond c x y) Q env w0 A := fun w s => CW_false hc (hf w s)
theorem SC_region {i : Nat} {l : List Oper} (h : SW P n l.toArray l Q env w0 A) : SC P n (.region i l.toArray false) Q env w0 A := fun w s => CW_region (h w s)
theorem SC_quiet {i : Nat} {l : List Oper} (hm : P.follows .mixedOrders = true) (hB : Region.lexB .any l.toArray = true) (h : SQ P n l.toArray l (JQ Q w0 A) env w0 A) : SC P n (.region i l.toArray true) Q env w0 A := fun w s =>
  CW_quiet hm hB (by
    have := h w s
    unfold QW at this ⊢
    exact fun a ha => wpQuiet_mono (fun a' ⟨e, he, hq⟩ => ⟨e, he, fun w' hw' => hq w' (s.more hw')⟩) _ _ (this a ha))
theorem SQ_nil {ops : Array Oper} (h : SE Q .normal env w0 A) : SQ P n ops [] (JQ Q w0 A) env w0 A := fun w s => QW_nil (fun w' s' => h w' s')
theorem SC_any {i : Nat} {l : List Oper} (hm : P.follows .mixedOrders = true) (h : SA P n l.toArray l.length (Array.replicate l.length false) Q env w0 A) : SC P n (.region i l.toArray true) Q env w0 A := fun w s =>
  CW_any hm (fun w' x => h w' (s.more x))
theorem SC_loop {c : Code} {α : Type} (E : α → Env) (As : α → List Asr) (R : α → Prop) (m : α → Nat) (x0 : α) (h0 : Sub (E x0) env) (hA : Sel A (As x0)) (r0 : R x0)
    (round : ∀ x, R x → SC P n c (thenE (LoopK E As R m x w0) Q) (E x) w0 (As x)) : SC P n (.loop c) Q env w0 A := fun w s =>
  CW_loop (α := α) E (fun x w => R x ∧ St w0 w (As x)) m x0 h0 ⟨r0, s.sel hA⟩ (fun x w ⟨r, s⟩ => (round x r w s).mono (fun x e w h => by
    cases x with
    | normal => obtain ⟨y, h1, h2, h3, h4⟩ := h; exact ⟨y, h1, ⟨h3, h2⟩, h4⟩
    | exit i => exact h
    | goto l => exact h
    | ret => exact h
    | panic c => exact h
    | outgrown => exact h))
theorem SE_loop {α : Type} {E : α → Env} {As : α → List Asr} {R : α → Prop} {m : α → Nat} {x : α} (y : α) (hs : Sub (E y) env) (hA : Sel A (As y)) (r : R y) (hm : m y < m x) : SE (thenE (LoopK E As R m x w0) Q) .normal env w0 A :=
  fun w s => N_then ⟨y, hs, s.sel hA, r, hm⟩
theorem SE_thenR {K : Env → World → Prop} (h : SE Q .ret env w0 A) : SE (thenE K Q) .ret env w0 A := h
theorem SE_thenX {K : Env → World → Prop} {i : Nat} (h : SE Q (.exit i) env w0 A) : SE (thenE K Q) (.exit i) env w0 A := h
theorem SE_blockN {i : Nat} (h : SE Q .normal env w0 A) : SE (blockE i Q) .normal env w0 A := h
theorem SE_blockR {i : Nat} (h : SE Q .ret env w0 A) : SE (blockE i Q) .ret env w0 A := h
theorem SE_blockX {i j : Nat} (hij : Nat.beq j i = true) (h : SE Q .normal env w0 A) : SE (blockE i Q) (.exit j) env w0 A := fun w s => X_block hij (h w s)
theorem SE_blockY {i j : Nat} (hij : Nat.beq j i = false) (h : SE Q (.exit j) env w0 A) : SE (blockE i Q) (.exit j) env w0 A := fun w s => X_block_ne hij (h w s)
/-- a sequence whose first part is proved apart -/
theorem SC_cut {x y : Code} (M : Env → List Asr → Prop) (hx : SC P n x (thenE (fun e w => ∃ B, M e B ∧ St w0 w B) Q) env w0 A) (hy : ∀ e B, M e B → SC P n y Q e w0 B) : SC P n (.seq x y) Q env w0 A := fun w s =>
  CW_cut (fun e w => ∃ B, M e B ∧ St w0 w B) (hx w s) (fun e w ⟨B, hm, hs⟩ => hy e B hm w hs)
theorem SE_cut {M : Env → List Asr → Prop} (B : List Asr) (hm : M env B) (hs : Sel A B) : SE (thenE (fun e w => ∃ B, M e B ∧ St w0 w B) Q) .normal env w0 A := fun w s => N_then ⟨B, hm, s.sel hs⟩
theorem SC_sel {c : Code} {B : List Asr} (hs : Sel A B) (h : SC P n c Q env w0 B) : SC P n c Q env w0 A := fun w s => h w (s.sel hs)
theorem SC_sub {c : Code} {env' : Env} (hs : Sub env' env) (h : SC P n c Q env' w0 A) : SC P n c Q env w0 A := fun w s => (h w s).sub hs
theorem SW_sel {ops : Array Oper} {l : List Oper} {B : List Asr} (hs : Sel A B) (h : SW P n ops l Q env w0 B) : SW P n ops l Q env w0 A := fun w s => h w (s.sel hs)

/-! ## a function's body, its results -/
theorem SCalls_of {f : FuncId} {fn : Func} {c : Code} {args : List Value} {w : World} {R : Ending → World → Prop} (hf : P.funcs[f]? = some fn) (hnt : fn.ntmps = n) (hb : fn.body = some c)
    (hn : Nat.ble args.length n = true) (h : SC P n c (FnQ P fn R) (argE 0 args) w []) : Calls P f args.toArray w R := Calls_of hf hnt hb hn (h w (St.refl w))
theorem SCalls_ofF {f : FuncId} {fn : Func} {c : Code} {args : List Value} {w : World} {R : Ending → World → Prop} (s : St w0 w A) (hf : P.funcs[f]? = some fn) (hnt : fn.ntmps = n) (hb : fn.body = some c)
    (hn : Nat.ble args.length n = true) (h : SC P n c (FnQ P fn R) (argE 0 args) w0 A) : Calls P f args.toArray w R := Calls_of hf hnt hb hn (h w s)
inductive SRes (P : Program) (env : Env) (A : List Asr) : List ResultVar → List Value → Prop
  | nil : SRes P env A [] []
  | tmp {t : Nat} {v : Value} {r : List ResultVar} {vs : List Value} (h : lk env t = some v) (hr : SRes P env A r vs) : SRes P env A (.tmp t :: r) (v :: vs)
  | cell {t : Nat} {ty te : TypeId} {k : Nat} {g : Nat} {cs : List Value} {r : List ResultVar} {vs : List Value} (i : Nat) [TAgg P ty k] (h : lk env t = some (.pointer (some ⟨g, 0, none⟩))) (hA : A[i]? = some (.blk g te cs)) (hk : Nat.beq cs.length k = true) (hr : SRes P env A r vs) : SRes P env A (.cell t ty :: r) (.agg cs.toArray :: vs)
  | cell1 {t : Nat} {ty te : TypeId} {g : Nat} {v : Value} {r : List ResultVar} {vs : List Value} (i : Nat) [TOne P ty] (h : lk env t = some (.pointer (some ⟨g, 0, none⟩))) (hA : A[i]? = some (.blk g te [v])) (hr : SRes P env A r vs) : SRes P env A (.cell t ty :: r) (v :: vs)
theorem SRes.ok {w : World} {rs : List ResultVar} {vs : List Value} (s : St w0 w A) (h : SRes P env A rs vs) : ResOK P env w rs vs := by
  induction h with
  | nil => exact .nil
  | tmp h hr ih => exact .tmp h ih
  | cell i h hA hk hr ih => exact .cell h (run_loadVar_agg (s.blk i hA).pts (Nat.eq_of_beq_eq_true hk)) ih
  | cell1 i h hA hr ih => exact .cell h (run_loadVar_one (by simpa [add_zero] using (s.blk i hA).cell 0 rfl)) ih
theorem SE_ret {fn : Func} {R : Ending → World → Prop} {vs : List Value} (hr : SRes P env A fn.results.toList vs) (h : ∀ w, St w0 w A → R (.returned (tup vs)) w) : SE (FnQ P fn R) .ret env w0 A := fun w s => ⟨vs, hr.ok s, h w s⟩
theorem SE_end {fn : Func} {R : Ending → World → Prop} {vs : List Value} (hr : SRes P env A fn.results.toList vs) (h : ∀ w, St w0 w A → R (.returned (tup vs)) w) : SE (FnQ P fn R) .normal env w0 A := fun w s => ⟨vs, hr.ok s, h w s⟩
theorem SE_retT {fn : Func} {p : Prop} (hr : SRes P env A fn.results.toList [.bool true]) (h : p) : SE (FnQ P fn (RetX p w0)) .ret env w0 A := SE_ret hr (fun w s => ⟨by rw [tr_true h]; rfl, s.ext⟩)
theorem SE_retF {fn : Func} {p : Prop} (hr : SRes P env A fn.results.toList [.bool false]) (h : ¬ p) : SE (FnQ P fn (RetX p w0)) .ret env w0 A := SE_ret hr (fun w s => ⟨by rw [tr_false h]; rfl, s.ext⟩)
theorem SE_retB {fn : Func} {p : Prop} {b : Bool} (hr : SRes P env A fn.results.toList [.bool b]) (h : tr p = b) : SE (FnQ P fn (RetX p w0)) .ret env w0 A := SE_ret hr (fun w s => ⟨by rw [h]; rfl, s.ext⟩)
theorem SE_retV {fn : Func} {v u : Value} (hr : SRes P env A fn.results.toList [u]) (h : u = v) : SE (FnQ P fn (RetV v w0)) .ret env w0 A := SE_ret hr (fun w s => ⟨by rw [h]; rfl, s.ext⟩)
/-- fresh results: what the value is, what pieces belong to it -/
def RetS (Φ : Value → List Asr → Prop) (w : World) : Ending → World → Prop := fun e w' => ∃ v B, e = .returned v ∧ Φ v B ∧ St w w' B
theorem SE_retS {fn : Func} {Φ : Value → List Asr → Prop} {vs : List Value} (B : List Asr) (hr : SRes P env A fn.results.toList vs) (h : Φ (tup vs) B) (hs : Sel A B) : SE (FnQ P fn (RetS Φ w0)) .ret env w0 A := SE_ret hr (fun w s => ⟨_, B, rfl, h, s.sel hs⟩)
theorem RetS.at {Φ : Value → List Asr → Prop} {w : World} {e : Ending} {w' : World} (s : St w0 w A) (h : RetS Φ w e w') : ∃ v B, e = .returned v ∧ Φ v B ∧ St w0 w' (B ++ A) := by
  obtain ⟨v, B, h1, h2, h3⟩ := h
  exact ⟨v, B, h1, h2, s.join h3⟩
/-- one fresh piece, two, three -/
def Ret1 (Φ : Value → Asr → Prop) : World → Ending → World → Prop := RetS (fun v B => ∃ a, B = [a] ∧ Φ v a)
def Ret2 (Φ : Value → Asr → Asr → Prop) : World → Ending → World → Prop := RetS (fun v B => ∃ a b, B = [a, b] ∧ Φ v a b)
def Ret3 (Φ : Value → Asr → Asr → Asr → Prop) : World → Ending → World → Prop := RetS (fun v B => ∃ a b c, B = [a, b, c] ∧ Φ v a b c)
theorem SE_ret1 {fn : Func} {Φ : Value → Asr → Prop} {vs : List Value} (a : Asr) (hr : SRes P env A fn.results.toList vs) (h : Φ (tup vs) a) (hs : Sel A [a]) : SE (FnQ P fn (Ret1 Φ w0)) .ret env w0 A := SE_retS [a] hr ⟨a, rfl, h⟩ hs
theorem SE_ret2 {fn : Func} {Φ : Value → Asr → Asr → Prop} {vs : List Value} (a b : Asr) (hr : SRes P env A fn.results.toList vs) (h : Φ (tup vs) a b) (hs : Sel A [a, b]) : SE (FnQ P fn (Ret2 Φ w0)) .ret env w0 A := SE_retS [a, b] hr ⟨a, b, rfl, h⟩ hs
theorem SE_ret3 {fn : Func} {Φ : Value → Asr → Asr → Asr → Prop} {vs : List Value} (a b c : Asr) (hr : SRes P env A fn.results.toList vs) (h : Φ (tup vs) a b c) (hs : Sel A [a, b, c]) : SE (FnQ P fn (Ret3 Φ w0)) .ret env w0 A := SE_retS [a, b, c] hr ⟨a, b, c, rfl, h⟩ hs
/-- pieces picked by their places -/
def pick (A : List Asr) : List Nat → Option (List Asr)
  | [] => some []
  | i :: r => match A[i]?, pick A r with
    | some a, some l => some (a :: l)
    | _, _ => none
def nodupB : List Nat → Bool
  | [] => true
  | i :: r => r.all (fun j => !(Nat.beq i j)) && nodupB r
theorem pick_mem {A : List Asr} : ∀ {is : List Nat} {B : List Asr}, pick A is = some B → ∀ b ∈ B, ∃ j ∈ is, A[j]? = some b
  | [], B, h, b, hb => by simp only [pick, Option.some.injEq] at h; subst h; cases hb
  | i :: r, B, h, b, hb => by
    simp only [pick] at h
    split at h
    · rename_i a l ha hl
      simp only [Option.some.injEq] at h
      subst h
      rcases List.mem_cons.1 hb with rfl | hb
      · exact ⟨i, by simp, ha⟩
      · obtain ⟨j, hj, hh⟩ := pick_mem hl b hb
        exact ⟨j, by simp [hj], hh⟩
    · cases h
theorem St.pick {w0 w : World} {A : List Asr} (s : St w0 w A) : ∀ {is : List Nat} {B : List Asr}, Go.Proofs.Ythjlafpfhgbfoaa.pick A is = some B → nodupB is = true → St w0 w B
  | [], B, h, _ => by simp only [Go.Proofs.Ythjlafpfhgbfoaa.pick, Option.some.injEq] at h; subst h; exact ⟨s.ext, by simp, by simp, .nil⟩
  | i :: r, B, h, hn => by
    simp only [Go.Proofs.Ythjlafpfhgbfoaa.pick] at h
    split at h
    · rename_i a l ha hl
      simp only [Option.some.injEq] at h
      subst h
      simp only [nodupB, Bool.and_eq_true, List.all_eq_true, Bool.not_eq_true'] at hn
      have ih := s.pick hl hn.2
      refine ⟨s.ext, fun c hc => ?_, fun c hc => ?_, List.pairwise_cons.2 ⟨fun c hc => ?_, ih.dis⟩⟩
      · rcases List.mem_cons.1 hc with rfl | hc
        · exact s.sat _ (List.mem_of_getElem? ha)
        · exact ih.sat c hc
      · rcases List.mem_cons.1 hc with rfl | hc
        · exact s.new _ (List.mem_of_getElem? ha)
        · exact ih.new c hc
      · obtain ⟨j, hj, hh⟩ := pick_mem hl c hc
        refine dis_at s.dis (fun e => ?_) ha hh
        have := hn.1 j hj
        rw [e, Nat.beq_refl] at this; cases this
    · cases h
theorem SE_addNil {Q : Post} {x : Exit} {env : Env} {w0 : World} {A : List Asr} (t k : Nat) (h : SE Q x env w0 (.own (.slice none 0 0) t k none [] :: A)) : SE Q x env w0 A := fun w s =>
  h w (s.push (Mod.refl _ w) (Own.nil w t k) (by simp [Asr.foot]))
theorem SW_addNil {Q : Post} {ops : Array Oper} {l : List Oper} {env : Env} {w0 : World} {A : List Asr} (t k : Nat) (h : SW P n ops l Q env w0 (.own (.slice none 0 0) t k none [] :: A)) : SW P n ops l Q env w0 A := fun w s =>
  h w (s.push (Mod.refl _ w) (Own.nil w t k) (by simp [Asr.foot]))
theorem SC_addNil {Q : Post} {c : Code} {env : Env} {w0 : World} {A : List Asr} (t k : Nat) (h : SC P n c Q env w0 (.own (.slice none 0 0) t k none [] :: A)) : SC P n c Q env w0 A := fun w s =>
  h w (s.push (Mod.refl _ w) (Own.nil w t k) (by simp [Asr.foot]))
theorem own_els {v : Value} {t : TypeId} {k : Nat} {g : Option Nat} {a b : List (List Value)} (h : a = b) : Asr.own v t k g a = Asr.own v t k g b := by rw [h]
theorem SE_retP {fn : Func} {Φ : Value → List Asr → Prop} {vs : List Value} {B : List Asr} (is : List Nat) (hB : pick A is = some B) (hn : nodupB is = true) (hr : SRes P env A fn.results.toList vs) (h : Φ (tup vs) B) : SE (FnQ P fn (RetS Φ w0)) .ret env w0 A := SE_ret hr (fun w s => ⟨_, B, rfl, h, s.pick hB hn⟩)
/-- in a frame: what is there afterwards, told whole -/
def RetF (Φ : Value → List Asr → Prop) (w0 : World) : Ending → World → Prop := fun e w' => ∃ v B, e = .returned v ∧ Φ v B ∧ St w0 w' B
theorem SE_retFr {fn : Func} {Φ : Value → List Asr → Prop} {vs : List Value} (B : List Asr) (hr : SRes P env A fn.results.toList vs) (h : Φ (tup vs) B) (hs : Sel A B) : SE (FnQ P fn (RetF Φ w0)) .ret env w0 A := SE_ret hr (fun w s => ⟨_, B, rfl, h, s.sel hs⟩)
end

/-! ## operations -/
section
variable {P : Program} {n : Nat} {Q : Post} {J : Env → Prop} {env : Env} {w0 : World} {A : List Asr} {ops : Array Oper} {rest : List Oper}
variable {d : Nat} {ty : TypeId} {pos : String} {af : Array Edge}
theorem SW_nil (h : SE Q .normal env w0 A) : SW P n ops [] Q env w0 A := fun w s => LW_nil (h w s)
theorem SWo {op : Op} (h : SW P n ops (⟨some d, op, ty, pos, af, none⟩ :: rest) Q env w0 A) : SW P n ops (⟨some d, op, ty, pos, af, none⟩ :: rest) Q env w0 A := h
theorem SWs {op : Op} (h : SW P n ops (⟨none, op, ty, pos, af, none⟩ :: rest) Q env w0 A) : SW P n ops (⟨none, op, ty, pos, af, none⟩ :: rest) Q env w0 A := h
theorem SWb {o : BinOp} {t u : TypeId} {x y : Operand} (h : SW P n ops (⟨some d, .binOp o t x y u, ty, pos, af, none⟩ :: rest) Q env w0 A) : SW P n ops (⟨some d, .binOp o t x y u, ty, pos, af, none⟩ :: rest) Q env w0 A := h
theorem SWc {c : Call} (h : SW P n ops (⟨some d, .call c, ty, pos, af, none⟩ :: rest) Q env w0 A) : SW P n ops (⟨some d, .call c, ty, pos, af, none⟩ :: rest) Q env w0 A := h
theorem SWl {t : TypeId} {x : Operand} (h : SW P n ops (⟨some d, .load t x, ty, pos, af, none⟩ :: rest) Q env w0 A) : SW P n ops (⟨some d, .load t x, ty, pos, af, none⟩ :: rest) Q env w0 A := h
theorem SWi {t : TypeId} {x y : Operand} (h : SW P n ops (⟨some d, .indexAddr t x y, ty, pos, af, none⟩ :: rest) Q env w0 A) : SW P n ops (⟨some d, .indexAddr t x y, ty, pos, af, none⟩ :: rest) Q env w0 A := h
theorem SQo {op : Op} (h : SQ P n ops (⟨some d, op, ty, pos, af, none⟩ :: rest) J env w0 A) : SQ P n ops (⟨some d, op, ty, pos, af, none⟩ :: rest) J env w0 A := h
theorem SQb {o : BinOp} {t u : TypeId} {x y : Operand} (h : SQ P n ops (⟨some d, .binOp o t x y u, ty, pos, af, none⟩ :: rest) J env w0 A) : SQ P n ops (⟨some d, .binOp o t x y u, ty, pos, af, none⟩ :: rest) J env w0 A := h
theorem SQc {c : Call} (h : SQ P n ops (⟨some d, .call c, ty, pos, af, none⟩ :: rest) J env w0 A) : SQ P n ops (⟨some d, .call c, ty, pos, af, none⟩ :: rest) J env w0 A := h
theorem SQl {t : TypeId} {x : Operand} (h : SQ P n ops (⟨some d, .load t x, ty, pos, af, none⟩ :: rest) J env w0 A) : SQ P n ops (⟨some d, .load t x, ty, pos, af, none⟩ :: rest) J env w0 A := h
theorem SQi {t : TypeId} {x y : Operand} (h : SQ P n ops (⟨some d, .indexAddr t x y, ty, pos, af, none⟩ :: rest) J env w0 A) : SQ P n ops (⟨some d, .indexAddr t x y, ty, pos, af, none⟩ :: rest) J env w0 A := h
theorem SW_y {o : Op} {v : Value} (h : Y P n ⟨some d, o, ty, pos, af, none⟩ env v) (next : SW P n ops rest Q ((d, v) :: env) w0 A) (hd : Nat.blt d n = true := by rfl) : SW P n ops (⟨some d, o, ty, pos, af, none⟩ :: rest) Q env w0 A := fun w s => LW_y h (next w s) hd
theorem SQ_y {o : Op} {v : Value} (h : Y P n ⟨some d, o, ty, pos, af, none⟩ env v) (next : SQ P n ops rest J ((d, v) :: env) w0 A) (hd : Nat.blt d n = true := by rfl) : SQ P n ops (⟨some d, o, ty, pos, af, none⟩ :: rest) J env w0 A := fun w s => QW_y h (next w s) hd
theorem SW_move {x : Operand} {v : Value} (hx : ev env x = some v) (next : SW P n ops rest Q ((d, v) :: env) w0 A) (hd : Nat.blt d n = true := by rfl) : SW P n ops (⟨some d, .move x, ty, pos, af, none⟩ :: rest) Q env w0 A := SW_y (Y_move hx) next hd
theorem SQ_move {x : Operand} {v : Value} (hx : ev env x = some v) (next : SQ P n ops rest J ((d, v) :: env) w0 A) (hd : Nat.blt d n = true := by rfl) : SQ P n ops (⟨some d, .move x, ty, pos, af, none⟩ :: rest) J env w0 A := SQ_y (Y_move hx) next hd
theorem SW_assign {x : Operand} {v : Value} (hx : ev env x = some v) (next : SW P n ops rest Q ((d, v) :: env) w0 A) (hd : Nat.blt d n = true := by rfl) : SW P n ops (⟨some d, .assign x, ty, pos, af, none⟩ :: rest) Q env w0 A := SW_y (Y_assign hx) next hd
theorem SQ_assign {x : Operand} {v : Value} (hx : ev env x = some v) (next : SQ P n ops rest J ((d, v) :: env) w0 A) (hd : Nat.blt d n = true := by rfl) : SQ P n ops (⟨some d, .assign x, ty, pos, af, none⟩ :: rest) J env w0 A := SQ_y (Y_assign hx) next hd
theorem SW_pickT {c x y : Operand} {v : Value} (hc : ev env c = some (.bool true)) (hx : ev env x = some v) (next : SW P n ops rest Q ((d, v) :: env) w0 A) (hd : Nat.blt d n = true := by rfl) : SW P n ops (⟨some d, .pick c x y, ty, pos, af, none⟩ :: rest) Q env w0 A := SW_y (Y_pickT hc hx) next hd
theorem SQ_pickT {c x y : Operand} {v : Value} (hc : ev env c = some (.bool true)) (hx : ev env x = some v) (next : SQ P n ops rest J ((d, v) :: env) w0 A) (hd : Nat.blt d n = true := by rfl) : SQ P n ops (⟨some d, .pick c x y, ty, pos, af, none⟩ :: rest) J env w0 A := SQ_y (Y_pickT hc hx) next hd
theorem SW_pickF {c x y : Operand} {v : Value} (hc : ev env c = some (.bool false)) (hx : ev env y = some v) (next : SW P n ops rest Q ((d, v) :: env) w0 A) (hd : Nat.blt d n = true := by rfl) : SW P n ops (⟨some d, .pick c x y, ty, pos, af, none⟩ :: rest) Q env w0 A := SW_y (Y_pickF hc hx) next hd
theorem SQ_pickF {c x y : Operand} {v : Value} (hc : ev env c = some (.bool false)) (hx : ev env y = some v) (next : SQ P n ops rest J ((d, v) :: env) w0 A) (hd : Nat.blt d n = true := by rfl) : SQ P n ops (⟨some d, .pick c x y, ty, pos, af, none⟩ :: rest) J env w0 A := SQ_y (Y_pickF hc hx) next hd
theorem SW_add {x y : Operand} {t u : TypeId} {a b : Int} (hx : ev env x = some (.int .i64 a)) (hy : ev env y = some (.int .i64 b)) (hb : -9223372036854775808 ≤ a + b ∧ a + b ≤ 9223372036854775807) (next : SW P n ops rest Q ((d, .int .i64 (a + b)) :: env) w0 A) (hd : Nat.blt d n = true := by rfl) : SW P n ops (⟨some d, .binOp .add t x y u, ty, pos, af, none⟩ :: rest) Q env w0 A := SW_y (Y_add hx hy hb) next hd
theorem SQ_add {x y : Operand} {t u : TypeId} {a b : Int} (hx : ev env x = some (.int .i64 a)) (hy : ev env y = some (.int .i64 b)) (hb : -9223372036854775808 ≤ a + b ∧ a + b ≤ 9223372036854775807) (next : SQ P n ops rest J ((d, .int .i64 (a + b)) :: env) w0 A) (hd : Nat.blt d n = true := by rfl) : SQ P n ops (⟨some d, .binOp .add t x y u, ty, pos, af, none⟩ :: rest) J env w0 A := SQ_y (Y_add hx hy hb) next hd
theorem SW_addw {x y : Operand} {t u : TypeId} {a b : Int} (hx : ev env x = some (.int .i64 a)) (hy : ev env y = some (.int .i64 b)) (next : SW P n ops rest Q ((d, .int .i64 (IntKind.i64.wrap (a + b))) :: env) w0 A) (hd : Nat.blt d n = true := by rfl) : SW P n ops (⟨some d, .binOp .add t x y u, ty, pos, af, none⟩ :: rest) Q env w0 A := SW_y (Y_addw hx hy) next hd
theorem SQ_addw {x y : Operand} {t u : TypeId} {a b : Int} (hx : ev env x = some (.int .i64 a)) (hy : ev env y = some (.int .i64 b)) (next : SQ P n ops rest J ((d, .int .i64 (IntKind.i64.wrap (a + b))) :: env) w0 A) (hd : Nat.blt d n = true := by rfl) : SQ P n ops (⟨some d, .binOp .add t x y u, ty, pos, af, none⟩ :: rest) J env w0 A := SQ_y (Y_addw hx hy) next hd
theorem SW_sub {x y : Operand} {t u : TypeId} {a b : Int} (hx : ev env x = some (.int .i64 a)) (hy : ev env y = some (.int .i64 b)) (hb : -9223372036854775808 ≤ a - b ∧ a - b ≤ 9223372036854775807) (next : SW P n ops rest Q ((d, .int .i64 (a - b)) :: env) w0 A) (hd : Nat.blt d n = true := by rfl) : SW P n ops (⟨some d, .binOp .sub t x y u, ty, pos, af, none⟩ :: rest) Q env w0 A := SW_y (Y_sub hx hy hb) next hd
theorem SQ_sub {x y : Operand} {t u : TypeId} {a b : Int} (hx : ev env x = some (.int .i64 a)) (hy : ev env y = some (.int .i64 b)) (hb : -9223372036854775808 ≤ a - b ∧ a - b ≤ 9223372036854775807) (next : SQ P n ops rest J ((d, .int .i64 (a - b)) :: env) w0 A) (hd : Nat.blt d n = true := by rfl) : SQ P n ops (⟨some d, .binOp .sub t x y u, ty, pos, af, none⟩ :: rest) J env w0 A := SQ_y (Y_sub hx hy hb) next hd
theorem SW_subw {x y : Operand} {t u : TypeId} {a b : Int} (hx : ev env x = some (.int .i64 a)) (hy : ev env y = some (.int .i64 b)) (next : SW P n ops rest Q ((d, .int .i64 (IntKind.i64.wrap (a - b))) :: env) w0 A) (hd : Nat.blt d n = true := by rfl) : SW P n ops (⟨some d, .binOp .sub t x y u, ty, pos, af, none⟩ :: rest) Q env w0 A := SW_y (Y_subw hx hy) next hd
theorem SQ_subw {x y : Operand} {t u : TypeId} {a b : Int} (hx : ev env x = some (.int .i64 a)) (hy : ev env y = some (.int .i64 b)) (next : SQ P n ops rest J ((d, .int .i64 (IntKind.i64.wrap (a - b))) :: env) w0 A) (hd : Nat.blt d n = true := by rfl) : SQ P n ops (⟨some d, .binOp .sub t x y u, ty, pos, af, none⟩ :: rest) J env w0 A := SQ_y (Y_subw hx hy) next hd
theorem SW_mul {x y : Operand} {t u : TypeId} {a b : Int} (hx : ev env x = some (.int .i64 a)) (hy : ev env y = some (.int .i64 b)) (hb : -9223372036854775808 ≤ a * b ∧ a * b ≤ 9223372036854775807) (next : SW P n ops rest Q ((d, .int .i64 (a * b)) :: env) w0 A) (hd : Nat.blt d n = true := by rfl) : SW P n ops (⟨some d, .binOp .mul t x y u, ty, pos, af, none⟩ :: rest) Q env w0 A := SW_y (Y_mul hx hy hb) next hd
theorem SQ_mul {x y : Operand} {t u : TypeId} {a b : Int} (hx : ev env x = some (.int .i64 a)) (hy : ev env y = some (.int .i64 b)) (hb : -9223372036854775808 ≤ a * b ∧ a * b ≤ 9223372036854775807) (next : SQ P n ops rest J ((d, .int .i64 (a * b)) :: env) w0 A) (hd : Nat.blt d n = true := by rfl) : SQ P n ops (⟨some d, .binOp .mul t x y u, ty, pos, af, none⟩ :: rest) J env w0 A := SQ_y (Y_mul hx hy hb) next hd
theorem SW_mulw {x y : Operand} {t u : TypeId} {a b : Int} (hx : ev env x = some (.int .i64 a)) (hy : ev env y = some (.int .i64 b)) (next : SW P n ops rest Q ((d, .int .i64 (IntKind.i64.wrap (a * b))) :: env) w0 A) (hd : Nat.blt d n = true := by rfl) : SW P n ops (⟨some d, .binOp .mul t x y u, ty, pos, af, none⟩ :: rest) Q env w0 A := SW_y (Y_mulw hx hy) next hd
theorem SQ_mulw {x y : Operand} {t u : TypeId} {a b : Int} (hx : ev env x = some (.int .i64 a)) (hy : ev env y = some (.int .i64 b)) (next : SQ P n ops rest J ((d, .int .i64 (IntKind.i64.wrap (a * b))) :: env) w0 A) (hd : Nat.blt d n = true := by rfl) : SQ P n ops (⟨some d, .binOp .mul t x y u, ty, pos, af, none⟩ :: rest) J env w0 A := SQ_y (Y_mulw hx hy) next hd
theorem SW_quo {x y : Operand} {t u : TypeId} {a b : Int} (hx : ev env x = some (.int .i64 a)) (hy : ev env y = some (.int .i64 b)) (hb : 0 ≤ a ∧ a ≤ 9223372036854775807 ∧ 1 ≤ b) (next : SW P n ops rest Q ((d, .int .i64 (a / b)) :: env) w0 A) (hd : Nat.blt d n = true := by rfl) : SW P n ops (⟨some d, .binOp .quo t x y u, ty, pos, af, none⟩ :: rest) Q env w0 A := SW_y (Y_quo hx hy hb) next hd
theorem SQ_quo {x y : Operand} {t u : TypeId} {a b : Int} (hx : ev env x = some (.int .i64 a)) (hy : ev env y = some (.int .i64 b)) (hb : 0 ≤ a ∧ a ≤ 9223372036854775807 ∧ 1 ≤ b) (next : SQ P n ops rest J ((d, .int .i64 (a / b)) :: env) w0 A) (hd : Nat.blt d n = true := by rfl) : SQ P n ops (⟨some d, .binOp .quo t x y u, ty, pos, af, none⟩ :: rest) J env w0 A := SQ_y (Y_quo hx hy hb) next hd
theorem SW_rem {x y : Operand} {t u : TypeId} {a b : Int} (hx : ev env x = some (.int .i64 a)) (hy : ev env y = some (.int .i64 b)) (hb : 0 ≤ a ∧ 1 ≤ b) (next : SW P n ops rest Q ((d, .int .i64 (a % b)) :: env) w0 A) (hd : Nat.blt d n = true := by rfl) : SW P n ops (⟨some d, .binOp .rem t x y u, ty, pos, af, none⟩ :: rest) Q env w0 A := SW_y (Y_rem hx hy hb) next hd
theorem SQ_rem {x y : Operand} {t u : TypeId} {a b : Int} (hx : ev env x = some (.int .i64 a)) (hy : ev env y = some (.int .i64 b)) (hb : 0 ≤ a ∧ 1 ≤ b) (next : SQ P n ops rest J ((d, .int .i64 (a % b)) :: env) w0 A) (hd : Nat.blt d n = true := by rfl) : SQ P n ops (⟨some d, .binOp .rem t x y u, ty, pos, af, none⟩ :: rest) J env w0 A := SQ_y (Y_rem hx hy hb) next hd
theorem SW_not {x : Operand} {t : TypeId} {b : Bool} (hx : ev env x = some (.bool b)) (next : SW P n ops rest Q ((d, .bool (!b)) :: env) w0 A) (hd : Nat.blt d n = true := by rfl) : SW P n ops (⟨some d, .unOp .not t x, ty, pos, af, none⟩ :: rest) Q env w0 A := SW_y (Y_not hx) next hd
theorem SQ_not {x : Operand} {t : TypeId} {b : Bool} (hx : ev env x = some (.bool b)) (next : SQ P n ops rest J ((d, .bool (!b)) :: env) w0 A) (hd : Nat.blt d n = true := by rfl) : SQ P n ops (⟨some d, .unOp .not t x, ty, pos, af, none⟩ :: rest) J env w0 A := SQ_y (Y_not hx) next hd
theorem SW_extract {x : Operand} {i : Nat} {vs : Array Value} {v : Value} (hx : ev env x = some (.tuple vs)) (hv : vs[i]? = some v) (next : SW P n ops rest Q ((d, v) :: env) w0 A) (hd : Nat.blt d n = true := by rfl) : SW P n ops (⟨some d, .extract x i, ty, pos, af, none⟩ :: rest) Q env w0 A := SW_y (Y_extract hx hv) next hd
theorem SQ_extract {x : Operand} {i : Nat} {vs : Array Value} {v : Value} (hx : ev env x = some (.tuple vs)) (hv : vs[i]? = some v) (next : SQ P n ops rest J ((d, v) :: env) w0 A) (hd : Nat.blt d n = true := by rfl) : SQ P n ops (⟨some d, .extract x i, ty, pos, af, none⟩ :: rest) J env w0 A := SQ_y (Y_extract hx hv) next hd
theorem SW_nilc {x : Operand} {p : Addr} (hx : ev env x = some (.pointer (some p))) (next : SW P n ops rest Q ((d, .pointer (some p)) :: env) w0 A) (hd : Nat.blt d n = true := by rfl) : SW P n ops (⟨some d, .nilCheck x, ty, pos, af, none⟩ :: rest) Q env w0 A := SW_y (Y_nilc hx) next hd
theorem SQ_nilc {x : Operand} {p : Addr} (hx : ev env x = some (.pointer (some p))) (next : SQ P n ops rest J ((d, .pointer (some p)) :: env) w0 A) (hd : Nat.blt d n = true := by rfl) : SQ P n ops (⟨some d, .nilCheck x, ty, pos, af, none⟩ :: rest) J env w0 A := SQ_y (Y_nilc hx) next hd
theorem SW_max {x y : Operand} {ts : Array TypeId} {k : IntKind} {a b : Int} (hx : ev env x = some (.int k a)) (hy : ev env y = some (.int k b)) (next : SW P n ops rest Q ((d, .int k (max a b)) :: env) w0 A) (hd : Nat.blt d n = true := by rfl) : SW P n ops (⟨some d, .call ⟨.builtin .max, #[x, y], ts⟩, ty, pos, af, none⟩ :: rest) Q env w0 A := SW_y (Y_max hx hy) next hd
theorem SQ_max {x y : Operand} {ts : Array TypeId} {k : IntKind} {a b : Int} (hx : ev env x = some (.int k a)) (hy : ev env y = some (.int k b)) (next : SQ P n ops rest J ((d, .int k (max a b)) :: env) w0 A) (hd : Nat.blt d n = true := by rfl) : SQ P n ops (⟨some d, .call ⟨.builtin .max, #[x, y], ts⟩, ty, pos, af, none⟩ :: rest) J env w0 A := SQ_y (Y_max hx hy) next hd
theorem SW_min {x y : Operand} {ts : Array TypeId} {k : IntKind} {a b : Int} (hx : ev env x = some (.int k a)) (hy : ev env y = some (.int k b)) (next : SW P n ops rest Q ((d, .int k (min a b)) :: env) w0 A) (hd : Nat.blt d n = true := by rfl) : SW P n ops (⟨some d, .call ⟨.builtin .min, #[x, y], ts⟩, ty, pos, af, none⟩ :: rest) Q env w0 A := SW_y (Y_min hx hy) next hd
theorem SQ_min {x y : Operand} {ts : Array TypeId} {k : IntKind} {a b : Int} (hx : ev env x = some (.int k a)) (hy : ev env y = some (.int k b)) (next : SQ P n ops rest J ((d, .int k (min a b)) :: env) w0 A) (hd : Nat.blt d n = true := by rfl) : SQ P n ops (⟨some d, .call ⟨.builtin .min, #[x, y], ts⟩, ty, pos, af, none⟩ :: rest) J env w0 A := SQ_y (Y_min hx hy) next hd
theorem SW_eqlB {x y : Operand} {t u : TypeId} {a b : Bool} (hu : P.underlying t = some .bool) (hx : ev env x = some (.bool a)) (hy : ev env y = some (.bool b)) (next : SW P n ops rest Q ((d, .bool ((a == b))) :: env) w0 A) (hd : Nat.blt d n = true := by rfl) : SW P n ops (⟨some d, .binOp .eql t x y u, ty, pos, af, none⟩ :: rest) Q env w0 A := SW_y (Y_eqlB hu hx hy) next hd
theorem SQ_eqlB {x y : Operand} {t u : TypeId} {a b : Bool} (hu : P.underlying t = some .bool) (hx : ev env x = some (.bool a)) (hy : ev env y = some (.bool b)) (next : SQ P n ops rest J ((d, .bool ((a == b))) :: env) w0 A) (hd : Nat.blt d n = true := by rfl) : SQ P n ops (⟨some d, .binOp .eql t x y u, ty, pos, af, none⟩ :: rest) J env w0 A := SQ_y (Y_eqlB hu hx hy) next hd
theorem SW_eqlS {x y : Operand} {t u : TypeId} {a b : Array Value} {c0 : Bool} (hm : P.eqGuardType P.depth t = false) (he : ∀ w, (Op.equalIn 10000 t (.agg a) (.agg b)).run P w = .ok c0 w) (hx : ev env x = some (.agg a)) (hy : ev env y = some (.agg b)) (next : SW P n ops rest Q ((d, .bool (c0)) :: env) w0 A) (hd : Nat.blt d n = true := by rfl) : SW P n ops (⟨some d, .binOp .eql t x y u, ty, pos, af, none⟩ :: rest) Q env w0 A := SW_y (Y_eqlS hm he hx hy) next hd
theorem SQ_eqlS {x y : Operand} {t u : TypeId} {a b : Array Value} {c0 : Bool} (hm : P.eqGuardType P.depth t = false) (he : ∀ w, (Op.equalIn 10000 t (.agg a) (.agg b)).run P w = .ok c0 w) (hx : ev env x = some (.agg a)) (hy : ev env y = some (.agg b)) (next : SQ P n ops rest J ((d, .bool (c0)) :: env) w0 A) (hd : Nat.blt d n = true := by rfl) : SQ P n ops (⟨some d, .binOp .eql t x y u, ty, pos, af, none⟩ :: rest) J env w0 A := SQ_y (Y_eqlS hm he hx hy) next hd
theorem SW_neqB {x y : Operand} {t u : TypeId} {a b : Bool} (hu : P.underlying t = some .bool) (hx : ev env x = some (.bool a)) (hy : ev env y = some (.bool b)) (next : SW P n ops rest Q ((d, .bool (!(a == b))) :: env) w0 A) (hd : Nat.blt d n = true := by rfl) : SW P n ops (⟨some d, .binOp .neq t x y u, ty, pos, af, none⟩ :: rest) Q env w0 A := SW_y (Y_neqB hu hx hy) next hd
theorem SQ_neqB {x y : Operand} {t u : TypeId} {a b : Bool} (hu : P.underlying t = some .bool) (hx : ev env x = some (.bool a)) (hy : ev env y = some (.bool b)) (next : SQ P n ops rest J ((d, .bool (!(a == b))) :: env) w0 A) (hd : Nat.blt d n = true := by rfl) : SQ P n ops (⟨some d, .binOp .neq t x y u, ty, pos, af, none⟩ :: rest) J env w0 A := SQ_y (Y_neqB hu hx hy) next hd
theorem SW_neqS {x y : Operand} {t u : TypeId} {a b : Array Value} {c0 : Bool} (hm : P.eqGuardType P.depth t = false) (he : ∀ w, (Op.equalIn 10000 t (.agg a) (.agg b)).run P w = .ok c0 w) (hx : ev env x = some (.agg a)) (hy : ev env y = some (.agg b)) (next : SW P n ops rest Q ((d, .bool (!c0)) :: env) w0 A) (hd : Nat.blt d n = true := by rfl) : SW P n ops (⟨some d, .binOp .neq t x y u, ty, pos, af, none⟩ :: rest) Q env w0 A := SW_y (Y_neqS hm he hx hy) next hd
theorem SQ_neqS {x y : Operand} {t u : TypeId} {a b : Array Value} {c0 : Bool} (hm : P.eqGuardType P.depth t = false) (he : ∀ w, (Op.equalIn 10000 t (.agg a) (.agg b)).run P w = .ok c0 w) (hx : ev env x = some (.agg a)) (hy : ev env y = some (.agg b)) (next : SQ P n ops rest J ((d, .bool (!c0)) :: env) w0 A) (hd : Nat.blt d n = true := by rfl) : SQ P n ops (⟨some d, .binOp .neq t x y u, ty, pos, af, none⟩ :: rest) J env w0 A := SQ_y (Y_neqS hm he hx hy) next hd
theorem SW_neqBs {x y : Operand} {t u : TypeId} {a : Bool} (hu : P.underlying t = some .bool) (hx : ev env x = some (.bool a)) (hy : ev env y = some (.bool a)) (next : SW P n ops rest Q ((d, .bool false) :: env) w0 A) (hd : Nat.blt d n = true := by rfl) : SW P n ops (⟨some d, .binOp .neq t x y u, ty, pos, af, none⟩ :: rest) Q env w0 A := SW_y (Y_neqBs hu hx hy) next hd
theorem SQ_neqBs {x y : Operand} {t u : TypeId} {a : Bool} (hu : P.underlying t = some .bool) (hx : ev env x = some (.bool a)) (hy : ev env y = some (.bool a)) (next : SQ P n ops rest J ((d, .bool false) :: env) w0 A) (hd : Nat.blt d n = true := by rfl) : SQ P n ops (⟨some d, .binOp .neq t x y u, ty, pos, af, none⟩ :: rest) J env w0 A := SQ_y (Y_neqBs hu hx hy) next hd
theorem SW_eqlNil {x : Operand} {t u e : TypeId} {p : Option Addr} {n0 c0 : Nat} (hu : P.underlying t = some (.slice e)) (hx : ev env x = some (.slice p n0 c0)) (next : SW P n ops rest Q ((d, .bool (p.isNone)) :: env) w0 A) (hd : Nat.blt d n = true := by rfl) : SW P n ops (⟨some d, .binOp .eql t x (.const (.slice none 0 0)) u, ty, pos, af, none⟩ :: rest) Q env w0 A := SW_y (Y_eqlNil hu hx) next hd
theorem SQ_eqlNil {x : Operand} {t u e : TypeId} {p : Option Addr} {n0 c0 : Nat} (hu : P.underlying t = some (.slice e)) (hx : ev env x = some (.slice p n0 c0)) (next : SQ P n ops rest J ((d, .bool (p.isNone)) :: env) w0 A) (hd : Nat.blt d n = true := by rfl) : SQ P n ops (⟨some d, .binOp .eql t x (.const (.slice none 0 0)) u, ty, pos, af, none⟩ :: rest) J env w0 A := SQ_y (Y_eqlNil hu hx) next hd
theorem SW_neqNil {x : Operand} {t u e : TypeId} {p : Option Addr} {n0 c0 : Nat} (hu : P.underlying t = some (.slice e)) (hx : ev env x = some (.slice p n0 c0)) (next : SW P n ops rest Q ((d, .bool (!p.isNone)) :: env) w0 A) (hd : Nat.blt d n = true := by rfl) : SW P n ops (⟨some d, .binOp .neq t x (.const (.slice none 0 0)) u, ty, pos, af, none⟩ :: rest) Q env w0 A := SW_y (Y_neqNil hu hx) next hd
theorem SQ_neqNil {x : Operand} {t u e : TypeId} {p : Option Addr} {n0 c0 : Nat} (hu : P.underlying t = some (.slice e)) (hx : ev env x = some (.slice p n0 c0)) (next : SQ P n ops rest J ((d, .bool (!p.isNone)) :: env) w0 A) (hd : Nat.blt d n = true := by rfl) : SQ P n ops (⟨some d, .binOp .neq t x (.const (.slice none 0 0)) u, ty, pos, af, none⟩ :: rest) J env w0 A := SQ_y (Y_neqNil hu hx) next hd
theorem SW_lss {k : IntKind} {x y : Operand} {t u : TypeId} {a b : Int} (hx : ev env x = some (.int k a)) (hy : ev env y = some (.int k b)) (ht : a < b → SW P n ops rest Q ((d, .bool true) :: env) w0 A)
    (hf : ¬ a < b → SW P n ops rest Q ((d, .bool false) :: env) w0 A) (hd : Nat.blt d n = true := by rfl) : SW P n ops (⟨some d, .binOp .lss t x y u, ty, pos, af, none⟩ :: rest) Q env w0 A := by
  by_cases h : a < b
  · exact SW_y (Y_lssT hx hy h) (ht h) hd
  · exact SW_y (Y_lssF hx hy h) (hf (h)) hd
theorem SQ_lss {k : IntKind} {x y : Operand} {t u : TypeId} {a b : Int} (hx : ev env x = some (.int k a)) (hy : ev env y = some (.int k b)) (ht : a < b → SQ P n ops rest J ((d, .bool true) :: env) w0 A)
    (hf : ¬ a < b → SQ P n ops rest J ((d, .bool false) :: env) w0 A) (hd : Nat.blt d n = true := by rfl) : SQ P n ops (⟨some d, .binOp .lss t x y u, ty, pos, af, none⟩ :: rest) J env w0 A := by
  by_cases h : a < b
  · exact SQ_y (Y_lssT hx hy h) (ht h) hd
  · exact SQ_y (Y_lssF hx hy h) (hf (h)) hd
theorem SW_leq {k : IntKind} {x y : Operand} {t u : TypeId} {a b : Int} (hx : ev env x = some (.int k a)) (hy : ev env y = some (.int k b)) (ht : a ≤ b → SW P n ops rest Q ((d, .bool true) :: env) w0 A)
    (hf : ¬ a ≤ b → SW P n ops rest Q ((d, .bool false) :: env) w0 A) (hd : Nat.blt d n = true := by rfl) : SW P n ops (⟨some d, .binOp .leq t x y u, ty, pos, af, none⟩ :: rest) Q env w0 A := by
  by_cases h : a ≤ b
  · exact SW_y (Y_leqT hx hy h) (ht h) hd
  · exact SW_y (Y_leqF hx hy h) (hf (h)) hd
theorem SQ_leq {k : IntKind} {x y : Operand} {t u : TypeId} {a b : Int} (hx : ev env x = some (.int k a)) (hy : ev env y = some (.int k b)) (ht : a ≤ b → SQ P n ops rest J ((d, .bool true) :: env) w0 A)
    (hf : ¬ a ≤ b → SQ P n ops rest J ((d, .bool false) :: env) w0 A) (hd : Nat.blt d n = true := by rfl) : SQ P n ops (⟨some d, .binOp .leq t x y u, ty, pos, af, none⟩ :: rest) J env w0 A := by
  by_cases h : a ≤ b
  · exact SQ_y (Y_leqT hx hy h) (ht h) hd
  · exact SQ_y (Y_leqF hx hy h) (hf (h)) hd
theorem SW_gtr {k : IntKind} {x y : Operand} {t u : TypeId} {a b : Int} (hx : ev env x = some (.int k a)) (hy : ev env y = some (.int k b)) (ht : b < a → SW P n ops rest Q ((d, .bool true) :: env) w0 A)
    (hf : ¬ b < a → SW P n ops rest Q ((d, .bool false) :: env) w0 A) (hd : Nat.blt d n = true := by rfl) : SW P n ops (⟨some d, .binOp .gtr t x y u, ty, pos, af, none⟩ :: rest) Q env w0 A := by
  by_cases h : b < a
  · exact SW_y (Y_gtrT hx hy h) (ht h) hd
  · exact SW_y (Y_gtrF hx hy h) (hf (h)) hd
theorem SQ_gtr {k : IntKind} {x y : Operand} {t u : TypeId} {a b : Int} (hx : ev env x = some (.int k a)) (hy : ev env y = some (.int k b)) (ht : b < a → SQ P n ops rest J ((d, .bool true) :: env) w0 A)
    (hf : ¬ b < a → SQ P n ops rest J ((d, .bool false) :: env) w0 A) (hd : Nat.blt d n = true := by rfl) : SQ P n ops (⟨some d, .binOp .gtr t x y u, ty, pos, af, none⟩ :: rest) J env w0 A := by
  by_cases h : b < a
  · exact SQ_y (Y_gtrT hx hy h) (ht h) hd
  · exact SQ_y (Y_gtrF hx hy h) (hf (h)) hd
theorem SW_geq {k : IntKind} {x y : Operand} {t u : TypeId} {a b : Int} (hx : ev env x = some (.int k a)) (hy : ev env y = some (.int k b)) (ht : b ≤ a → SW P n ops rest Q ((d, .bool true) :: env) w0 A)
    (hf : ¬ b ≤ a → SW P n ops rest Q ((d, .bool false) :: env) w0 A) (hd : Nat.blt d n = true := by rfl) : SW P n ops (⟨some d, .binOp .geq t x y u, ty, pos, af, none⟩ :: rest) Q env w0 A := by
  by_cases h : b ≤ a
  · exact SW_y (Y_geqT hx hy h) (ht h) hd
  · exact SW_y (Y_geqF hx hy h) (hf (h)) hd
theorem SQ_geq {k : IntKind} {x y : Operand} {t u : TypeId} {a b : Int} (hx : ev env x = some (.int k a)) (hy : ev env y = some (.int k b)) (ht : b ≤ a → SQ P n ops rest J ((d, .bool true) :: env) w0 A)
    (hf : ¬ b ≤ a → SQ P n ops rest J ((d, .bool false) :: env) w0 A) (hd : Nat.blt d n = true := by rfl) : SQ P n ops (⟨some d, .binOp .geq t x y u, ty, pos, af, none⟩ :: rest) J env w0 A := by
  by_cases h : b ≤ a
  · exact SQ_y (Y_geqT hx hy h) (ht h) hd
  · exact SQ_y (Y_geqF hx hy h) (hf (h)) hd
theorem SW_eql {k : IntKind} {x y : Operand} {t u : TypeId} {a b : Int} (hx : ev env x = some (.int k a)) (hy : ev env y = some (.int k b)) (ht : a = b → SW P n ops rest Q ((d, .bool true) :: env) w0 A)
    (hf : a ≠ b → SW P n ops rest Q ((d, .bool false) :: env) w0 A) (hd : Nat.blt d n = true := by rfl) : SW P n ops (⟨some d, .binOp .eql t x y u, ty, pos, af, none⟩ :: rest) Q env w0 A := by
  by_cases h : a = b
  · exact SW_y (Y_eqlT hx hy h) (ht h) hd
  · exact SW_y (Y_eqlF hx hy h) (hf (h)) hd
theorem SQ_eql {k : IntKind} {x y : Operand} {t u : TypeId} {a b : Int} (hx : ev env x = some (.int k a)) (hy : ev env y = some (.int k b)) (ht : a = b → SQ P n ops rest J ((d, .bool true) :: env) w0 A)
    (hf : a ≠ b → SQ P n ops rest J ((d, .bool false) :: env) w0 A) (hd : Nat.blt d n = true := by rfl) : SQ P n ops (⟨some d, .binOp .eql t x y u, ty, pos, af, none⟩ :: rest) J env w0 A := by
  by_cases h : a = b
  · exact SQ_y (Y_eqlT hx hy h) (ht h) hd
  · exact SQ_y (Y_eqlF hx hy h) (hf (h)) hd
theorem SW_neq {k : IntKind} {x y : Operand} {t u : TypeId} {a b : Int} (hx : ev env x = some (.int k a)) (hy : ev env y = some (.int k b)) (ht : a ≠ b → SW P n ops rest Q ((d, .bool true) :: env) w0 A)
    (hf : a = b → SW P n ops rest Q ((d, .bool false) :: env) w0 A) (hd : Nat.blt d n = true := by rfl) : SW P n ops (⟨some d, .binOp .neq t x y u, ty, pos, af, none⟩ :: rest) Q env w0 A := by
  by_cases h : a ≠ b
  · exact SW_y (Y_neqT hx hy h) (ht h) hd
  · exact SW_y (Y_neqF hx hy h) (hf (Classical.not_not.1 h)) hd
theorem SQ_neq {k : IntKind} {x y : Operand} {t u : TypeId} {a b : Int} (hx : ev env x = some (.int k a)) (hy : ev env y = some (.int k b)) (ht : a ≠ b → SQ P n ops rest J ((d, .bool true) :: env) w0 A)
    (hf : a = b → SQ P n ops rest J ((d, .bool false) :: env) w0 A) (hd : Nat.blt d n = true := by rfl) : SQ P n ops (⟨some d, .binOp .neq t x y u, ty, pos, af, none⟩ :: rest) J env w0 A := by
  by_cases h : a ≠ b
  · exact SQ_y (Y_neqT hx hy h) (ht h) hd
  · exact SQ_y (Y_neqF hx hy h) (hf (Classical.not_not.1 h)) hd


/-! guards -/
theorem SW_guard {l : List Oper} {dst : Option Nat} {op : Op} {j : Nat} {want : Bool} {dj : Nat} (hj : dstAt l j = some dj) (hb : lk env dj = some (.bool want))
    (next : SW P n l.toArray (⟨dst, op, ty, pos, af, none⟩ :: rest) Q env w0 A) : SW P n l.toArray (⟨dst, op, ty, pos, af, some (j, want)⟩ :: rest) Q env w0 A := fun w s => LW_guard hj hb (next w s)
theorem SW_pass {l : List Oper} {dst : Nat} {op : Op} {j : Nat} {want b : Bool} {dj : Nat} (hj : dstAt l j = some dj) (hb : lk env dj = some (.bool b)) (hne : (b == want) = false)
    (next : SW P n l.toArray rest Q ((dst, undef) :: env) w0 A) (hd : Nat.blt dst n = true := by rfl) : SW P n l.toArray (⟨some dst, op, ty, pos, af, some (j, want)⟩ :: rest) Q env w0 A := fun w s => LW_pass hj hb hne (next w s) hd
theorem SW_passU {l : List Oper} {dst : Nat} {op : Op} {j : Nat} {want : Bool} {dj : Nat} (hj : dstAt l j = some dj) (hb : lk env dj = some undef)
    (next : SW P n l.toArray rest Q ((dst, undef) :: env) w0 A) (hd : Nat.blt dst n = true := by rfl) : SW P n l.toArray (⟨some dst, op, ty, pos, af, some (j, want)⟩ :: rest) Q env w0 A := fun w s => LW_passU hj hb (next w s) hd
theorem SQ_guard {l : List Oper} {dst : Option Nat} {op : Op} {j : Nat} {want : Bool} {dj : Nat} (hj : dstAt l j = some dj) (hb : lk env dj = some (.bool want))
    (next : SQ P n l.toArray (⟨dst, op, ty, pos, af, none⟩ :: rest) J env w0 A) : SQ P n l.toArray (⟨dst, op, ty, pos, af, some (j, want)⟩ :: rest) J env w0 A := fun w s => QW_guard hj hb (next w s)
theorem SQ_pass {l : List Oper} {dst : Nat} {op : Op} {j : Nat} {want b : Bool} {dj : Nat} (hj : dstAt l j = some dj) (hb : lk env dj = some (.bool b)) (hne : (b == want) = false)
    (next : SQ P n l.toArray rest J ((dst, undef) :: env) w0 A) (hd : Nat.blt dst n = true := by rfl) : SQ P n l.toArray (⟨some dst, op, ty, pos, af, some (j, want)⟩ :: rest) J env w0 A := fun w s => QW_pass hj hb hne (next w s) hd
theorem SQ_passU {l : List Oper} {dst : Nat} {op : Op} {j : Nat} {want : Bool} {dj : Nat} (hj : dstAt l j = some dj) (hb : lk env dj = some undef)
    (next : SQ P n l.toArray rest J ((dst, undef) :: env) w0 A) (hd : Nat.blt dst n = true := by rfl) : SQ P n l.toArray (⟨some dst, op, ty, pos, af, some (j, want)⟩ :: rest) J env w0 A := fun w s => QW_passU hj hb (next w s) hd

/-! memory -/
theorem SW_field {t : TypeId} {i off : Nat} {x : Operand} {p : Addr} [TField P t i off] (hx : ev env x = some (.pointer (some p)))
    (next : SW P n ops rest Q ((d, .pointer (some (p.add off))) :: env) w0 A) (hd : Nat.blt d n = true := by rfl) : SW P n ops (⟨some d, .fieldAddr t x i, ty, pos, af, none⟩ :: rest) Q env w0 A := SW_y (Y_field hx) next hd
theorem SQ_field {t : TypeId} {i off : Nat} {x : Operand} {p : Addr} [TField P t i off] (hx : ev env x = some (.pointer (some p)))
    (next : SQ P n ops rest J ((d, .pointer (some (p.add off))) :: env) w0 A) (hd : Nat.blt d n = true := by rfl) : SQ P n ops (⟨some d, .fieldAddr t x i, ty, pos, af, none⟩ :: rest) J env w0 A := SQ_y (Y_field hx) next hd
theorem SW_build {t : TypeId} {parts : Array (Nat × Operand)} {vals : List (Nat × Value)} {cs : List Value} (hp : evP env parts.toList = some vals) (hb : P.built t vals = some cs.toArray)
    (next : SW P n ops rest Q ((d, .agg cs.toArray) :: env) w0 A) (hd : Nat.blt d n = true := by rfl) : SW P n ops (⟨some d, .build t parts, ty, pos, af, none⟩ :: rest) Q env w0 A := SW_y (Y_build hp hb) next hd
theorem SQ_build {t : TypeId} {parts : Array (Nat × Operand)} {vals : List (Nat × Value)} {cs : List Value} (hp : evP env parts.toList = some vals) (hb : P.built t vals = some cs.toArray)
    (next : SQ P n ops rest J ((d, .agg cs.toArray) :: env) w0 A) (hd : Nat.blt d n = true := by rfl) : SQ P n ops (⟨some d, .build t parts, ty, pos, af, none⟩ :: rest) J env w0 A := SQ_y (Y_build hp hb) next hd
theorem SW_alloc {t : TypeId} {z : List Value} [h : TZero P t z] (next : ∀ g, SW P n ops rest Q ((d, (.pointer (some ⟨g, 0, none⟩))) :: env) w0 (.blk g t z :: A)) (hd : Nat.blt d n = true := by rfl) :
    SW P n ops (⟨some d, .alloc t, ty, pos, af, none⟩ :: rest) Q env w0 A := fun w s => LW_alloc (fun g w' hg hl x hb => next g w' (s.push x hb (fun b hbm => by simp [Asr.foot] at hbm; omega))) hd
theorem SW_box {t : TypeId} {x : Operand} {cs : List Value} (hx : ev env x = some (.agg cs.toArray))
    (next : ∀ g, SW P n ops rest Q ((d, (.pointer (some ⟨g, 0, none⟩))) :: env) w0 (.blk g t cs :: A)) (hd : Nat.blt d n = true := by rfl) :
    SW P n ops (⟨some d, .box t x, ty, pos, af, none⟩ :: rest) Q env w0 A := fun w s => LW_box hx (fun g w' hg hl x hb => next g w' (s.push x hb (fun b hbm => by simp [Asr.foot] at hbm; omega))) hd
theorem SW_slice0 {t e : TypeId} {k by_ : Nat} [ht : TSlice P t e k by_] (next : ∀ g, SW P n ops rest Q ((d, .slice (some ⟨g, 0, none⟩) 0 0) :: env) w0 (.own (.slice (some ⟨g, 0, none⟩) 0 0) e k (some g) [] :: A)) (hd : Nat.blt d n = true := by rfl) :
    SW P n ops (⟨some d, .buildSlice t 0 #[], ty, pos, af, none⟩ :: rest) Q env w0 A := fun w s => LW_slice0 (fun g w' hg hl x hb => next g w' (s.push x hb (fun b hbm => by simp [Asr.foot] at hbm; omega))) hd
theorem SW_make {t e : TypeId} {k by_ m : Nat} {x y : Operand} {zl : List Value} [ht : TSlice P t e k by_] [hz : TZero P e zl] (hx : ev env x = some (.int .i64 m)) (hy : ev env y = some (.int .i64 m)) (hm : m ≤ 9223372036854775807) (hb : by_ * m ≤ 281474976710656)
    (next : ∀ g, SW P n ops rest Q ((d, .slice (some ⟨g, 0, none⟩) m m) :: env) w0 (.own (.slice (some ⟨g, 0, none⟩) m m) e k (some g) (List.replicate m zl) :: A)) (hd : Nat.blt d n = true := by rfl) :
    SW P n ops (⟨some d, .makeSlice t x y, ty, pos, af, none⟩ :: rest) Q env w0 A := fun w s => LW_make hx hy hm hb (fun g w' hg hl x hb => next g w' (s.push x hb (fun b hbm => by simp [Asr.foot] at hbm; omega))) hd
theorem SW_buildS {t e : TypeId} {k by_ len : Nat} {parts : Array (Nat × Operand)} {vals : List (Nat × Value)} {zl : List Value} (els : List (List Value)) [ht : TSlice P t e k by_] [hz : TZero P e zl] (hp : evP env parts.toList = some vals)
    (hpos : Nat.ble 1 len = true) (hsm : Nat.ble (len * k) 1000 = true) (hlen : els.length = len) (hl : els.all (fun el => Nat.beq el.length k) = true)
    (hf : Instr.fill (fun i => some (i * k, k)) ((Array.range (len * k)).map (zl.toArray[· % zl.toArray.size]!)) vals = some els.flatten.toArray)
    (next : ∀ g, SW P n ops rest Q ((d, .slice (some ⟨g, 0, none⟩) len len) :: env) w0 (.own (.slice (some ⟨g, 0, none⟩) len len) e k (some g) els :: A)) (hd : Nat.blt d n = true := by rfl) :
    SW P n ops (⟨some d, .buildSlice t len parts, ty, pos, af, none⟩ :: rest) Q env w0 A := fun w s => LW_buildS els hp hpos hsm hlen hl hf (fun g w' hg hl x hb => next g w' (s.push x hb (fun b hbm => by simp [Asr.foot] at hbm; omega))) hd

/-- a struct variable laid and filled at once -/
theorem SW_var {t : TypeId} {z cs : List Value} {s0 : Nat} {y : Operand} {ty' : TypeId} {pos' : String} {af' : Array Edge} [TZero P t z] (hy : ev env y = some (.agg cs.toArray)) (hs : Nat.beq cs.length z.length = true) (h1 : OneAll A cs)
    (hne : ∀ p, lk ((s0, .pointer (some p)) :: env) s0 = some (.pointer (some p))) (hy' : ∀ v, ev ((s0, v) :: env) y = some (.agg cs.toArray))
    (next : ∀ g, SW P n ops rest Q ((s0, .pointer (some ⟨g, 0, none⟩)) :: env) w0 (.blk g t cs :: A)) (hd : Nat.blt s0 n = true := by rfl) :
    SW P n ops (⟨some s0, .alloc t, ty, pos, af, none⟩ :: ⟨none, .store t (.tmp s0) y, ty', pos', af', none⟩ :: rest) Q env w0 A := fun w s =>
  LW_var hy hs (List.all_eq_true.2 (fun u hu => h1 u hu w s.sat)) (fun g w' hg hl x hb => next g w' (s.push x hb (fun b hbm => by simp [Asr.foot] at hbm; omega))) (hne _) hy' hd

/-! what the world at the entry holds -/
theorem SW_len {t e : TypeId} {k by_ m : Nat} {x : Operand} {v : Value} {els : List (List Value)} [ht : TSlice P t e k by_] (hs : Slc w0 v k els) (hx : ev env x = some v) (hm : els.length = m)
    (next : SW P n ops rest Q ((d, .int .i64 m) :: env) w0 A) (hd : Nat.blt d n = true := by rfl) : SW P n ops (⟨some d, .call ⟨.builtin .len, #[x], #[t]⟩, ty, pos, af, none⟩ :: rest) Q env w0 A := SW_y (Y_len (t := t) hs hx hm) next hd
theorem SQ_len {t e : TypeId} {k by_ m : Nat} {x : Operand} {v : Value} {els : List (List Value)} [ht : TSlice P t e k by_] (hs : Slc w0 v k els) (hx : ev env x = some v) (hm : els.length = m)
    (next : SQ P n ops rest J ((d, .int .i64 m) :: env) w0 A) (hd : Nat.blt d n = true := by rfl) : SQ P n ops (⟨some d, .call ⟨.builtin .len, #[x], #[t]⟩, ty, pos, af, none⟩ :: rest) J env w0 A := SQ_y (Y_len (t := t) hs hx hm) next hd
theorem SW_index {t e : TypeId} {k by_ : Nat} {x y : Operand} {v : Value} {i : Int} {els : List (List Value)} {el : List Value} [ht : TSlice P t e k by_] (hs : Slc w0 v k els) (hx : ev env x = some v) (hy : ev env y = some (.int .i64 i)) (h0 : 0 ≤ i) (he : els[i.toNat]? = some el)
    (next : ∀ p, PtsTo w0 p el → SW P n ops rest Q ((d, .pointer (some p)) :: env) w0 A) (hd : Nat.blt d n = true := by rfl) : SW P n ops (⟨some d, .indexAddr t x y, ty, pos, af, none⟩ :: rest) Q env w0 A := by
  obtain ⟨p, hp, hy'⟩ := Y_index (t := t) (P := P) (n := n) (env := env) (d := d) (ty := ty) (pos := pos) (af := af) hs hx hy h0 he
  exact SW_y hy' (next p hp) hd
theorem SQ_index {t e : TypeId} {k by_ : Nat} {x y : Operand} {v : Value} {i : Int} {els : List (List Value)} {el : List Value} [ht : TSlice P t e k by_] (hs : Slc w0 v k els) (hx : ev env x = some v) (hy : ev env y = some (.int .i64 i)) (h0 : 0 ≤ i) (he : els[i.toNat]? = some el)
    (next : ∀ p, PtsTo w0 p el → SQ P n ops rest J ((d, .pointer (some p)) :: env) w0 A) (hd : Nat.blt d n = true := by rfl) : SQ P n ops (⟨some d, .indexAddr t x y, ty, pos, af, none⟩ :: rest) J env w0 A := by
  obtain ⟨p, hp, hy'⟩ := Y_index (t := t) (P := P) (n := n) (env := env) (d := d) (ty := ty) (pos := pos) (af := af) hs hx hy h0 he
  exact SQ_y hy' (next p hp) hd
theorem SW_loadP {t : TypeId} {x : Operand} {p : Addr} {cs : List Value} {v : Value} (j : Nat) [TOne P t] (hp : PtsTo w0 p cs) (hx : ev env x = some (.pointer (some (p.add j)))) (hv : cs[j]? = some v)
    (next : SW P n ops rest Q ((d, v) :: env) w0 A) (hd : Nat.blt d n = true := by rfl) : SW P n ops (⟨some d, .load t x, ty, pos, af, none⟩ :: rest) Q env w0 A := fun w s => LW_load hx ((hp.ext s.ext).cell j hv) (next w s) hd
theorem SW_loadP1 {t : TypeId} {x : Operand} {p : Addr} {v : Value} [TOne P t] (hp : PtsTo w0 p [v]) (hx : ev env x = some (.pointer (some p)))
    (next : SW P n ops rest Q ((d, v) :: env) w0 A) (hd : Nat.blt d n = true := by rfl) : SW P n ops (⟨some d, .load t x, ty, pos, af, none⟩ :: rest) Q env w0 A := fun w s => LW_load hx (by simpa [add_zero] using (hp.ext s.ext).cell 0 rfl) (next w s) hd
theorem SW_loadPK {t : TypeId} {k : Nat} {x : Operand} {p : Addr} {cs : List Value} [TAgg P t k] (hp : PtsTo w0 p cs) (hx : ev env x = some (.pointer (some p))) (hk : cs.length = k)
    (next : SW P n ops rest Q ((d, .agg cs.toArray) :: env) w0 A) (hd : Nat.blt d n = true := by rfl) : SW P n ops (⟨some d, .load t x, ty, pos, af, none⟩ :: rest) Q env w0 A := fun w s => LW_loadK hx (hp.ext s.ext) hk (next w s) hd
theorem SQ_loadP {t : TypeId} {x : Operand} {p : Addr} {cs : List Value} {v : Value} (j : Nat) [TOne P t] (hp : PtsTo w0 p cs) (hx : ev env x = some (.pointer (some (p.add j)))) (hv : cs[j]? = some v)
    (next : SQ P n ops rest J ((d, v) :: env) w0 A) (hd : Nat.blt d n = true := by rfl) : SQ P n ops (⟨some d, .load t x, ty, pos, af, none⟩ :: rest) J env w0 A := fun w s => QW_load hx ((hp.ext s.ext).cell j hv) (next w s) hd
theorem SQ_loadP1 {t : TypeId} {x : Operand} {p : Addr} {v : Value} [TOne P t] (hp : PtsTo w0 p [v]) (hx : ev env x = some (.pointer (some p)))
    (next : SQ P n ops rest J ((d, v) :: env) w0 A) (hd : Nat.blt d n = true := by rfl) : SQ P n ops (⟨some d, .load t x, ty, pos, af, none⟩ :: rest) J env w0 A := fun w s => QW_load hx (by simpa [add_zero] using (hp.ext s.ext).cell 0 rfl) (next w s) hd
theorem SQ_loadPK {t : TypeId} {k : Nat} {x : Operand} {p : Addr} {cs : List Value} [TAgg P t k] (hp : PtsTo w0 p cs) (hx : ev env x = some (.pointer (some p))) (hk : cs.length = k)
    (next : SQ P n ops rest J ((d, .agg cs.toArray) :: env) w0 A) (hd : Nat.blt d n = true := by rfl) : SQ P n ops (⟨some d, .load t x, ty, pos, af, none⟩ :: rest) J env w0 A := fun w s => QW_loadK hx (hp.ext s.ext) hk (next w s) hd

/-! pieces in the list, by their place: the general rules -/
theorem SW_load_ {t e : TypeId} {x : Operand} {g j : Nat} {cs : List Value} {v : Value} (i : Nat) [TOne P t] (hA : A[i]? = some (.blk g e cs)) (hx : ev env x = some (.pointer (some ((⟨g, 0, none⟩ : Addr).add j)))) (hv : cs[j]? = some v)
    (next : SW P n ops rest Q ((d, v) :: env) w0 A) (hd : Nat.blt d n = true := by rfl) : SW P n ops (⟨some d, .load t x, ty, pos, af, none⟩ :: rest) Q env w0 A := fun w s => LW_load hx ((s.blk i hA).cell j hv) (next w s) hd
theorem SW_load1_ {t e : TypeId} {x : Operand} {g : Nat} {v : Value} {cs : List Value} (i : Nat) [TOne P t] (hA : A[i]? = some (.blk g e (v :: cs))) (hx : ev env x = some (.pointer (some ⟨g, 0, none⟩)))
    (next : SW P n ops rest Q ((d, v) :: env) w0 A) (hd : Nat.blt d n = true := by rfl) : SW P n ops (⟨some d, .load t x, ty, pos, af, none⟩ :: rest) Q env w0 A := fun w s => LW_load hx (by simpa [add_zero] using (s.blk i hA).cell 0 rfl) (next w s) hd
theorem SW_loadK_ {t e : TypeId} {k : Nat} {x : Operand} {g : Nat} {cs : List Value} (i : Nat) [TAgg P t k] (hA : A[i]? = some (.blk g e cs)) (hx : ev env x = some (.pointer (some ⟨g, 0, none⟩))) (hk : Nat.beq cs.length k = true)
    (next : SW P n ops rest Q ((d, .agg cs.toArray) :: env) w0 A) (hd : Nat.blt d n = true := by rfl) : SW P n ops (⟨some d, .load t x, ty, pos, af, none⟩ :: rest) Q env w0 A := fun w s => LW_loadK hx (s.blk i hA).pts (Nat.eq_of_beq_eq_true hk) (next w s) hd
theorem SQ_load_ {t e : TypeId} {x : Operand} {g j : Nat} {cs : List Value} {v : Value} (i : Nat) [TOne P t] (hA : A[i]? = some (.blk g e cs)) (hx : ev env x = some (.pointer (some ((⟨g, 0, none⟩ : Addr).add j)))) (hv : cs[j]? = some v)
    (next : SQ P n ops rest J ((d, v) :: env) w0 A) (hd : Nat.blt d n = true := by rfl) : SQ P n ops (⟨some d, .load t x, ty, pos, af, none⟩ :: rest) J env w0 A := fun w s => QW_load hx ((s.blk i hA).cell j hv) (next w s) hd
theorem SQ_load1_ {t e : TypeId} {x : Operand} {g : Nat} {v : Value} {cs : List Value} (i : Nat) [TOne P t] (hA : A[i]? = some (.blk g e (v :: cs))) (hx : ev env x = some (.pointer (some ⟨g, 0, none⟩)))
    (next : SQ P n ops rest J ((d, v) :: env) w0 A) (hd : Nat.blt d n = true := by rfl) : SQ P n ops (⟨some d, .load t x, ty, pos, af, none⟩ :: rest) J env w0 A := fun w s => QW_load hx (by simpa [add_zero] using (s.blk i hA).cell 0 rfl) (next w s) hd
theorem SQ_loadK_ {t e : TypeId} {k : Nat} {x : Operand} {g : Nat} {cs : List Value} (i : Nat) [TAgg P t k] (hA : A[i]? = some (.blk g e cs)) (hx : ev env x = some (.pointer (some ⟨g, 0, none⟩))) (hk : Nat.beq cs.length k = true)
    (next : SQ P n ops rest J ((d, .agg cs.toArray) :: env) w0 A) (hd : Nat.blt d n = true := by rfl) : SQ P n ops (⟨some d, .load t x, ty, pos, af, none⟩ :: rest) J env w0 A := fun w s => QW_loadK hx (s.blk i hA).pts (Nat.eq_of_beq_eq_true hk) (next w s) hd
theorem SW_store_ {t e : TypeId} {x y : Operand} {g o : Nat} {cs : List Value} {u : Value} {B : List Asr} (i : Nat) [TOne P t] (hA : A[i]? = some (.blk g e cs)) (hx : ev env x = some (.pointer (some ((⟨g, 0, none⟩ : Addr).add o)))) (hy : ev env y = some u)
    (h1 : One A u) (hfit : Nat.blt o cs.length = true) (hB : A.set i (.blk g e (cs.set o u)) = B) (next : SW P n ops rest Q env w0 B) : SW P n ops (⟨none, .store t x y, ty, pos, af, none⟩ :: rest) Q env w0 A := fun w s => by
  rw [add_at, Nat.zero_add] at hx
  exact LW_store1 (s.blk i hA) hx hy (h1 w s.sat) hfit (fun w' m hb => next w' (hB ▸ s.set i hA m hb (fun b hb => .inl (by simpa [Asr.foot] using hb))))
theorem SW_store1_ {t e : TypeId} {x y : Operand} {g : Nat} {c : Value} {cs : List Value} {u : Value} {B : List Asr} (i : Nat) [TOne P t] (hA : A[i]? = some (.blk g e (c :: cs))) (hx : ev env x = some (.pointer (some ⟨g, 0, none⟩))) (hy : ev env y = some u)
    (h1 : One A u) (hB : A.set i (.blk g e (u :: cs)) = B) (next : SW P n ops rest Q env w0 B) : SW P n ops (⟨none, .store t x y, ty, pos, af, none⟩ :: rest) Q env w0 A :=
  SW_store_ (o := 0) i hA (by simpa [add_zero] using hx) hy h1 rfl hB next
theorem SW_storeK_ {t e : TypeId} {x y : Operand} {g : Nat} {cs vs : List Value} {k : Nat} {B : List Asr} (i : Nat) [TAgg P t k] (hA : A[i]? = some (.blk g e cs)) (hx : ev env x = some (.pointer (some ⟨g, 0, none⟩))) (hy : ev env y = some (.agg vs.toArray))
    (h1 : OneAll A vs) (hk : Nat.beq vs.length k = true) (hl : Nat.beq cs.length vs.length = true) (hB : A.set i (.blk g e vs) = B) (next : SW P n ops rest Q env w0 B) : SW P n ops (⟨none, .store t x y, ty, pos, af, none⟩ :: rest) Q env w0 A := fun w s =>
  LW_storeK (s.blk i hA) hx hy (List.all_eq_true.2 (fun u hu => h1 u hu w s.sat)) (Nat.eq_of_beq_eq_true hk) (Nat.eq_of_beq_eq_true hl) (fun w' m hb => next w' (hB ▸ s.set i hA m hb (fun b hb => .inl (by simpa [Asr.foot] using hb))))
theorem SW_lenO_ {t e e' : TypeId} {k by_ m : Nat} {g : Option Nat} {x : Operand} {v : Value} {els : List (List Value)} (i : Nat) [ht : TSlice P t e k by_] (hA : A[i]? = some (.own v e' k g els)) (hx : ev env x = some v) (hm : els.length = m)
    (next : SW P n ops rest Q ((d, .int .i64 m) :: env) w0 A) (hd : Nat.blt d n = true := by rfl) : SW P n ops (⟨some d, .call ⟨.builtin .len, #[x], #[t]⟩, ty, pos, af, none⟩ :: rest) Q env w0 A := fun w s => LW_len (s.slc i hA) hx hm (next w s) hd
theorem SQ_lenO_ {t e e' : TypeId} {k by_ m : Nat} {g : Option Nat} {x : Operand} {v : Value} {els : List (List Value)} (i : Nat) [ht : TSlice P t e k by_] (hA : A[i]? = some (.own v e' k g els)) (hx : ev env x = some v) (hm : els.length = m)
    (next : SQ P n ops rest J ((d, .int .i64 m) :: env) w0 A) (hd : Nat.blt d n = true := by rfl) : SQ P n ops (⟨some d, .call ⟨.builtin .len, #[x], #[t]⟩, ty, pos, af, none⟩ :: rest) J env w0 A := fun w s => QW_len (s.slc i hA) hx hm (next w s) hd
theorem Own.some_of {w : World} {v : Value} {t : TypeId} {k : Nat} {g : Option Nat} {els : List (List Value)} (h : Own w v t k g els) (h0 : 0 < els.length) : ∃ b, g = some b := by
  cases g with
  | some b => exact ⟨b, rfl⟩
  | none => obtain ⟨_, _, rfl⟩ := h; simp at h0
theorem SW_indexO_ {t e e' : TypeId} {k by_ : Nat} {g : Option Nat} {x y : Operand} {v : Value} {ix : Int} {els : List (List Value)} (i : Nat) [ht : TSlice P t e k by_] (hA : A[i]? = some (.own v e' k g els)) (hx : ev env x = some v) (hy : ev env y = some (.int .i64 ix)) (h0 : 0 ≤ ix) (he : ix < els.length)
    (next : ∀ b, g = some b → SW P n ops rest Q ((d, .pointer (some ⟨b, ix.toNat * k, none⟩)) :: env) w0 A) (hd : Nat.blt d n = true := by rfl) : SW P n ops (⟨some d, .indexAddr t x y, ty, pos, af, none⟩ :: rest) Q env w0 A := fun w s => by
  obtain ⟨b, rfl⟩ := (s.own i hA).some_of (by omega)
  exact LW_indexO (s.own i hA) hx hy h0 he (next b rfl w s) hd
theorem SQ_indexO_ {t e e' : TypeId} {k by_ : Nat} {g : Option Nat} {x y : Operand} {v : Value} {ix : Int} {els : List (List Value)} (i : Nat) [ht : TSlice P t e k by_] (hA : A[i]? = some (.own v e' k g els)) (hx : ev env x = some v) (hy : ev env y = some (.int .i64 ix)) (h0 : 0 ≤ ix) (he : ix < els.length)
    (next : ∀ b, g = some b → SQ P n ops rest J ((d, .pointer (some ⟨b, ix.toNat * k, none⟩)) :: env) w0 A) (hd : Nat.blt d n = true := by rfl) : SQ P n ops (⟨some d, .indexAddr t x y, ty, pos, af, none⟩ :: rest) J env w0 A := fun w s => by
  obtain ⟨b, rfl⟩ := (s.own i hA).some_of (by omega)
  have hs := s.own i hA
  obtain ⟨ti, z0, hu, hi, hsz, _⟩ := ht.sl
  obtain ⟨_, c, cur, rfl, _⟩ := hs
  obtain ⟨j, rfl⟩ := Int.eq_ofNat_of_zero_le h0
  have hlt : j < els.length := by omega
  refine QW_y (fun a ha w' => ?_) (next b rfl w s) hd
  simp [execOp, ha.ev hx, ha.ev hy, Instr.indexAt, asIntOf, run_underlying hu, sizeOf, typeInfo, hi, hsz, hlt, add_at]
theorem SW_loadO_ {t e' : TypeId} {k b ix j : Nat} {x : Operand} {v u : Value} {els : List (List Value)} {el : List Value} (i : Nat) [TOne P t] (hA : A[i]? = some (.own v e' k (some b) els)) (hx : ev env x = some (.pointer (some ((⟨b, ix * k, none⟩ : Addr).add j)))) (he : els[ix]? = some el) (hv : el[j]? = some u)
    (next : SW P n ops rest Q ((d, u) :: env) w0 A) (hd : Nat.blt d n = true := by rfl) : SW P n ops (⟨some d, .load t x, ty, pos, af, none⟩ :: rest) Q env w0 A := fun w s => LW_load hx ((s.own i hA).at he j u hv) (next w s) hd
theorem SW_loadO1_ {t e' : TypeId} {k b ix : Nat} {x : Operand} {v u : Value} {els : List (List Value)} {el : List Value} (i : Nat) [TOne P t] (hA : A[i]? = some (.own v e' k (some b) els)) (hx : ev env x = some (.pointer (some ⟨b, ix * k, none⟩))) (he : els[ix]? = some (u :: el))
    (next : SW P n ops rest Q ((d, u) :: env) w0 A) (hd : Nat.blt d n = true := by rfl) : SW P n ops (⟨some d, .load t x, ty, pos, af, none⟩ :: rest) Q env w0 A := fun w s => LW_load hx (by simpa [add_zero] using (s.own i hA).at he 0 u rfl) (next w s) hd
theorem SW_loadOK_ {t e' : TypeId} {k k' b ix : Nat} {x : Operand} {v : Value} {els : List (List Value)} {el : List Value} (i : Nat) [TAgg P t k'] (hA : A[i]? = some (.own v e' k (some b) els)) (hx : ev env x = some (.pointer (some ⟨b, ix * k, none⟩))) (he : els[ix]? = some el) (hk : el.length = k')
    (next : SW P n ops rest Q ((d, .agg el.toArray) :: env) w0 A) (hd : Nat.blt d n = true := by rfl) : SW P n ops (⟨some d, .load t x, ty, pos, af, none⟩ :: rest) Q env w0 A := fun w s => LW_loadK hx ((s.own i hA).at he) hk (next w s) hd
theorem SQ_loadO_ {t e' : TypeId} {k b ix j : Nat} {x : Operand} {v u : Value} {els : List (List Value)} {el : List Value} (i : Nat) [TOne P t] (hA : A[i]? = some (.own v e' k (some b) els)) (hx : ev env x = some (.pointer (some ((⟨b, ix * k, none⟩ : Addr).add j)))) (he : els[ix]? = some el) (hv : el[j]? = some u)
    (next : SQ P n ops rest J ((d, u) :: env) w0 A) (hd : Nat.blt d n = true := by rfl) : SQ P n ops (⟨some d, .load t x, ty, pos, af, none⟩ :: rest) J env w0 A := fun w s => QW_load hx ((s.own i hA).at he j u hv) (next w s) hd
theorem SQ_loadO1_ {t e' : TypeId} {k b ix : Nat} {x : Operand} {v u : Value} {els : List (List Value)} {el : List Value} (i : Nat) [TOne P t] (hA : A[i]? = some (.own v e' k (some b) els)) (hx : ev env x = some (.pointer (some ⟨b, ix * k, none⟩))) (he : els[ix]? = some (u :: el))
    (next : SQ P n ops rest J ((d, u) :: env) w0 A) (hd : Nat.blt d n = true := by rfl) : SQ P n ops (⟨some d, .load t x, ty, pos, af, none⟩ :: rest) J env w0 A := fun w s => QW_load hx (by simpa [add_zero] using (s.own i hA).at he 0 u rfl) (next w s) hd
/-- a store into an element of an own slice -/
theorem SW_storeO_ {t e : TypeId} {k b ix o : Nat} {x y : Operand} {v u : Value} {el : List Value} {els : List (List Value)} {B : List Asr} (i : Nat) [ht : TOne P t] (hA : A[i]? = some (.own v e k (some b) els)) (hx : ev env x = some (.pointer (some ((⟨b, ix * k, none⟩ : Addr).add o)))) (hy : ev env y = some u)
    (he : els[ix]? = some el) (h1 : One A u) (hfit : Nat.blt o k = true) (hB : A.set i (.own v e k (some b) (els.set ix (upd el o [u]))) = B) (next : SW P n ops rest Q env w0 B) : SW P n ops (⟨none, .store t x y, ty, pos, af, none⟩ :: rest) Q env w0 A := fun w s => by
  obtain ⟨dd, ii, _, _, hi, hs⟩ := ht.one
  rw [add_at] at hx
  have h1' := h1 w s.sat
  have hc : u.cells = [u].toArray := by cases u <;> first | rfl | cases h1'
  have hlt : o < k := by simpa [Nat.blt_eq] using hfit
  exact LW_storeO (vs := [u]) (s.own i hA) hx hy he hc (by simpa using h1') (by simp; omega) ⟨ii, hi, by simpa using hs⟩ (fun w' m ho => next w' (hB ▸ s.set i hA m ho (fun b hb => .inl (by simpa [Asr.foot] using hb))))
theorem SW_storeO1_ {t e : TypeId} {k b ix : Nat} {x y : Operand} {v u : Value} {el : List Value} {els : List (List Value)} {B : List Asr} (i : Nat) [ht : TOne P t] (hA : A[i]? = some (.own v e k (some b) els)) (hx : ev env x = some (.pointer (some ⟨b, ix * k, none⟩))) (hy : ev env y = some u)
    (he : els[ix]? = some el) (h1 : One A u) (hfit : Nat.blt 0 k = true) (hB : A.set i (.own v e k (some b) (els.set ix (upd el 0 [u]))) = B) (next : SW P n ops rest Q env w0 B) : SW P n ops (⟨none, .store t x y, ty, pos, af, none⟩ :: rest) Q env w0 A :=
  SW_storeO_ (o := 0) i hA (by simpa [add_zero] using hx) hy he h1 hfit hB next
theorem SW_storeOK_ {t e : TypeId} {k k' b ix : Nat} {x y : Operand} {v : Value} {el vs : List Value} {els : List (List Value)} {B : List Asr} (i : Nat) [ht : TAgg P t k'] (hA : A[i]? = some (.own v e k (some b) els)) (hx : ev env x = some (.pointer (some ⟨b, ix * k, none⟩))) (hy : ev env y = some (.agg vs.toArray))
    (he : els[ix]? = some el) (h1 : OneAll A vs) (hk : vs.length = k') (hkk : Nat.beq k' k = true) (hB : A.set i (.own v e k (some b) (els.set ix vs)) = B) (next : SW P n ops rest Q env w0 B) : SW P n ops (⟨none, .store t x y, ty, pos, af, none⟩ :: rest) Q env w0 A := fun w s => by
  obtain ⟨dd, ii, _, _, hi, hs⟩ := ht.agg
  have hkk' := Nat.eq_of_beq_eq_true hkk
  have hel : el.length = k := (s.own i hA).len _ (List.mem_of_getElem? he)
  have hu : upd el 0 vs = vs := by simp [upd]; omega
  refine LW_storeO (o := 0) (vs := vs) (s.own i hA) (by simpa using hx) hy he rfl (List.all_eq_true.2 (fun u hu => h1 u hu w s.sat)) (by omega) ⟨ii, hi, by omega⟩ (fun w' m ho => next w' (hB ▸ s.set i hA m ?_ (fun b hb => .inl (by simpa [Asr.foot] using hb))))
  rw [hu] at ho
  exact ho
theorem SW_append_ {t e : TypeId} {k by_ : Nat} {x y : Operand} {v u : Value} {g : Option Nat} {els news : List (List Value)} (i : Nat) [ht : TSlice P t e k by_] (hA : A[i]? = some (.own v e k g els)) (hx : ev env x = some v) (hy : ev env y = some u)
    (hn : ∀ w, St w0 w A → Slc w u k news) (h1 : ∀ w, (∀ a ∈ A, a.sat w) → news.all (fun el => el.all Value.oneCell') = true) (hm : els.length + news.length ≤ 9223372036854775807) (hb : (els.length + news.length) * by_ ≤ 140737488355328)
    (next : ∀ v' g', SW P n ops rest Q ((d, v') :: env) w0 (A.set i (.own v' e k g' (els ++ news)))) (hd : Nat.blt d n = true := by rfl) :
    SW P n ops (⟨some d, .call ⟨.builtin .append, #[x, y], #[t, t]⟩, ty, pos, af, none⟩ :: rest) Q env w0 A := fun w s =>
  LW_append (s.own i hA) (hn w s) hx hy (h1 w s.sat) hm hb (fun v' w' g' m hg o => next v' g' w' (s.set i hA m o (fun b hb => by
    simp only [Asr.foot, Option.mem_toList, Option.mem_def] at hb
    rcases hg with rfl | ⟨b', rfl, hle⟩
    · exact .inl (by simpa [Asr.foot] using hb)
    · injection hb with hb; exact .inr (by omega)))) hd
/-- an append to nil: the slice need not be in the list -/
theorem SW_appendN {t e : TypeId} {k by_ : Nat} {x y : Operand} {u : Value} {news : List (List Value)} [ht : TSlice P t e k by_] (hx : ev env x = some (.slice none 0 0)) (hy : ev env y = some u)
    (hn : ∀ w, St w0 w A → Slc w u k news) (h1 : ∀ w, (∀ a ∈ A, a.sat w) → news.all (fun el => el.all Value.oneCell') = true) (hm : news.length ≤ 9223372036854775807) (hb : news.length * by_ ≤ 140737488355328)
    (next : ∀ v' g', SW P n ops rest Q ((d, v') :: env) w0 (.own v' e k g' news :: A)) (hd : Nat.blt d n = true := by rfl) :
    SW P n ops (⟨some d, .call ⟨.builtin .append, #[x, y], #[t, t]⟩, ty, pos, af, none⟩ :: rest) Q env w0 A := fun w s =>
  LW_append (Own.nil w e k) (hn w s) hx hy (h1 w s.sat) (by simpa using hm) (by simpa using hb) (fun v' w' g' m hg o => next v' g' w' (s.push m o (fun b hb => by
    simp only [Asr.foot, Option.mem_toList, Option.mem_def] at hb
    rcases hg with rfl | ⟨b', rfl, hle⟩
    · cases hb
    · injection hb with hb; omega))) hd
theorem SW_sliceH {t e : TypeId} {k by_ : Nat} {x y : Operand} {v : Value} {h : Int} {els : List (List Value)} [ht : TSlice P t e k by_] (hs : Slc w0 v k els) (hx : ev env x = some v) (hy : ev env y = some (.int .i64 h)) (h0 : 0 ≤ h) (h1 : h ≤ els.length)
    (next : ∀ v', Slc w0 v' k (els.take h.toNat) → SW P n ops rest Q ((d, v') :: env) w0 A) (hd : Nat.blt d n = true := by rfl) : SW P n ops (⟨some d, .slice t x none (some y) none, ty, pos, af, none⟩ :: rest) Q env w0 A := by
  obtain ⟨i, z0, hu, hi, hsz, _⟩ := ht.sl
  obtain ⟨A', c, rfl, hc, hs'⟩ := slc_cut hs (l := 0) (h := h.toNat) (by omega) (by omega)
  refine SW_y (v := sliced A' 0 h.toNat c k) (fun a hA w => ?_) (next _ (by simpa using hs')) hd
  have hu' : P.underlying t = some (.slice (P.elem t)) := by rw [elem_of hu]; exact hu
  have h3 := run_sliceAt_slice (P := P) (w := w) t (.slice A' els.length c) none (some (.int .i64 h)) none hu'
  have h4 := run_slice_h (P := P) (w := w) t A' els.length c hu' .i64 h h0 (by omega)
  rw [elem_of hu] at h4
  simp [execOp, hA.ev hx, hA.ev hy, h3, h4, sizeOf, typeInfo, hi, hsz]
theorem SW_sliceLH {t e : TypeId} {k by_ : Nat} {x y z : Operand} {v : Value} {l h : Int} {els : List (List Value)} [ht : TSlice P t e k by_] (hs : Slc w0 v k els) (hx : ev env x = some v) (hz : ev env z = some (.int .i64 l)) (hy : ev env y = some (.int .i64 h)) (h0 : 0 ≤ l) (h2 : l ≤ h) (h1 : h ≤ els.length)
    (next : ∀ v', Slc w0 v' k ((els.take h.toNat).drop l.toNat) → SW P n ops rest Q ((d, v') :: env) w0 A) (hd : Nat.blt d n = true := by rfl) : SW P n ops (⟨some d, .slice t x (some z) (some y) none, ty, pos, af, none⟩ :: rest) Q env w0 A := by
  obtain ⟨i, z0, hu, hi, hsz, _⟩ := ht.sl
  obtain ⟨A', c, rfl, hc, hs'⟩ := slc_cut hs (l := l.toNat) (h := h.toNat) (by omega) (by omega)
  refine SW_y (v := sliced A' l.toNat h.toNat c k) (fun a hA w => ?_) (next _ hs') hd
  have hu' : P.underlying t = some (.slice (P.elem t)) := by rw [elem_of hu]; exact hu
  have h3 := run_sliceAt_slice (P := P) (w := w) t (.slice A' els.length c) (some (.int .i64 l)) (some (.int .i64 h)) none hu'
  have h4 := run_slice_lh (P := P) (w := w) t A' els.length c hu' .i64 .i64 l h h0 h2 (by omega)
  rw [elem_of hu] at h4
  simp [execOp, hA.ev hx, hA.ev hy, hA.ev hz, h3, h4, sizeOf, typeInfo, hi, hsz]
/-! calls -/
theorem SW_callX {f : FuncId} {args : Array Operand} {tys : Array TypeId} {vals : List Value} {p : Prop} (ha : evL env args.toList = some vals) (hc : CallOK P f)
    (h : ∀ w, St w0 w A → Calls P f vals.toArray w (RetX p w)) (ht : p → SW P n ops rest Q ((d, (.bool true)) :: env) w0 A) (hf : ¬ p → SW P n ops rest Q ((d, (.bool false)) :: env) w0 A) (hd : Nat.blt d n = true := by rfl) :
    SW P n ops (⟨some d, .call ⟨.value (.func f), args, tys⟩, ty, pos, af, none⟩ :: rest) Q env w0 A := fun w s =>
  LW_callX ha hc (h w s) (fun w' x hp => ht hp w' (s.more x)) (fun w' x hp => hf hp w' (s.more x)) hd
theorem SQ_callX {f : FuncId} {args : Array Operand} {tys : Array TypeId} {vals : List Value} {p : Prop} (ha : evL env args.toList = some vals) (hc : CallOK P f)
    (h : ∀ w, St w0 w A → Calls P f vals.toArray w (RetX p w)) (ht : p → SQ P n ops rest J ((d, (.bool true)) :: env) w0 A) (hf : ¬ p → SQ P n ops rest J ((d, (.bool false)) :: env) w0 A) (hd : Nat.blt d n = true := by rfl) :
    SQ P n ops (⟨some d, .call ⟨.value (.func f), args, tys⟩, ty, pos, af, none⟩ :: rest) J env w0 A := fun w s =>
  QW_callX ha hc (fun w' x => h w' (s.more x)) (fun hp => ht hp w s) (fun hp => hf hp w s) hd
theorem SW_callV {f : FuncId} {args : Array Operand} {tys : Array TypeId} {vals : List Value} {v : Value} (ha : evL env args.toList = some vals) (hc : CallOK P f)
    (h : ∀ w, St w0 w A → Calls P f vals.toArray w (RetV v w)) (next : SW P n ops rest Q ((d, v) :: env) w0 A) (hd : Nat.blt d n = true := by rfl) :
    SW P n ops (⟨some d, .call ⟨.value (.func f), args, tys⟩, ty, pos, af, none⟩ :: rest) Q env w0 A := fun w s =>
  LW_callV ha hc (h w s) (fun w' x => next w' (s.more x)) hd
theorem SQ_callV {f : FuncId} {args : Array Operand} {tys : Array TypeId} {vals : List Value} {v : Value} (ha : evL env args.toList = some vals) (hc : CallOK P f)
    (h : ∀ w, St w0 w A → Calls P f vals.toArray w (RetV v w)) (next : SQ P n ops rest J ((d, v) :: env) w0 A) (hd : Nat.blt d n = true := by rfl) :
    SQ P n ops (⟨some d, .call ⟨.value (.func f), args, tys⟩, ty, pos, af, none⟩ :: rest) J env w0 A := fun w s =>
  QW_callV ha hc (fun w' x => h w' (s.more x)) (next w s) hd
theorem SW_callB {f : FuncId} {args : Array Operand} {tys : Array TypeId} {vals : List Value} {p : Prop} (ha : evL env args.toList = some vals) (hc : CallOK P f)
    (h : ∀ w, Calls P f vals.toArray w (RetB p w)) (ht : p → SW P n ops rest Q ((d, (.bool true)) :: env) w0 A) (hf : ¬ p → SW P n ops rest Q ((d, (.bool false)) :: env) w0 A) (hd : Nat.blt d n = true := by rfl) :
    SW P n ops (⟨some d, .call ⟨.value (.func f), args, tys⟩, ty, pos, af, none⟩ :: rest) Q env w0 A :=
  SW_callX ha hc (fun w _ => (h w).mono fun e w' ⟨h, hw⟩ => ⟨h, by rw [hw]; exact Mod.refl _ _⟩) ht hf hd
theorem SQ_callB {f : FuncId} {args : Array Operand} {tys : Array TypeId} {vals : List Value} {p : Prop} (ha : evL env args.toList = some vals) (hc : CallOK P f)
    (h : ∀ w, Calls P f vals.toArray w (RetB p w)) (ht : p → SQ P n ops rest J ((d, (.bool true)) :: env) w0 A) (hf : ¬ p → SQ P n ops rest J ((d, (.bool false)) :: env) w0 A) (hd : Nat.blt d n = true := by rfl) :
    SQ P n ops (⟨some d, .call ⟨.value (.func f), args, tys⟩, ty, pos, af, none⟩ :: rest) J env w0 A :=
  SQ_callX ha hc (fun w _ => (h w).mono fun e w' ⟨h, hw⟩ => ⟨h, by rw [hw]; exact Mod.refl _ _⟩) ht hf hd
theorem SW_callU {f : FuncId} {args : Array Operand} {tys : Array TypeId} {vals : List Value} {v : Value} (ha : evL env args.toList = some vals) (hc : CallOK P f)
    (h : ∀ w, St w0 w A → Calls P f vals.toArray w (fun e w' => e = .returned v ∧ w' = w)) (next : SW P n ops rest Q ((d, v) :: env) w0 A) (hd : Nat.blt d n = true := by rfl) :
    SW P n ops (⟨some d, .call ⟨.value (.func f), args, tys⟩, ty, pos, af, none⟩ :: rest) Q env w0 A :=
  SW_callV ha hc (fun w s => (h w s).mono fun e w' ⟨h, hw⟩ => ⟨h, by rw [hw]; exact Mod.refl _ _⟩) next hd
/-- the general one: what is there afterwards is told -/
theorem SW_callF {f : FuncId} {args : Array Operand} {tys : Array TypeId} {vals : List Value} {Φ : Value → List Asr → Prop} (ha : evL env args.toList = some vals) (hc : CallOK P f)
    (h : ∀ w, St w0 w A → Calls P f vals.toArray w (RetF Φ w0)) (next : ∀ v B, Φ v B → SW P n ops rest Q ((d, v) :: env) w0 B) (hd : Nat.blt d n = true := by rfl) :
    SW P n ops (⟨some d, .call ⟨.value (.func f), args, tys⟩, ty, pos, af, none⟩ :: rest) Q env w0 A := fun w s =>
  LW_call ha hc (h w s) (fun e w' ⟨v, B, he, hp, hs⟩ => ⟨v, he, next v B hp w' hs⟩) hd
theorem SW_call1 {f : FuncId} {args : Array Operand} {tys : Array TypeId} {vals : List Value} {Φ : Value → Asr → Prop} (ha : evL env args.toList = some vals) (hc : CallOK P f)
    (h : ∀ w, St w0 w A → Calls P f vals.toArray w (Ret1 Φ w)) (next : ∀ v a, Φ v a → SW P n ops rest Q ((d, v) :: env) w0 (a :: A)) (hd : Nat.blt d n = true := by rfl) :
    SW P n ops (⟨some d, .call ⟨.value (.func f), args, tys⟩, ty, pos, af, none⟩ :: rest) Q env w0 A := fun w s =>
  LW_call ha hc (h w s) (fun e w' hr => by
    obtain ⟨v, B, he, ⟨a, rfl, hp⟩, hs⟩ := RetS.at s hr
    exact ⟨v, he, next v a hp w' hs⟩) hd
theorem SW_call2 {f : FuncId} {args : Array Operand} {tys : Array TypeId} {vals : List Value} {Φ : Value → Asr → Asr → Prop} (ha : evL env args.toList = some vals) (hc : CallOK P f)
    (h : ∀ w, St w0 w A → Calls P f vals.toArray w (Ret2 Φ w)) (next : ∀ v a b, Φ v a b → SW P n ops rest Q ((d, v) :: env) w0 (a :: b :: A)) (hd : Nat.blt d n = true := by rfl) :
    SW P n ops (⟨some d, .call ⟨.value (.func f), args, tys⟩, ty, pos, af, none⟩ :: rest) Q env w0 A := fun w s =>
  LW_call ha hc (h w s) (fun e w' hr => by
    obtain ⟨v, B, he, ⟨a, b, rfl, hp⟩, hs⟩ := RetS.at s hr
    exact ⟨v, he, next v a b hp w' hs⟩) hd
theorem SW_call3 {f : FuncId} {args : Array Operand} {tys : Array TypeId} {vals : List Value} {Φ : Value → Asr → Asr → Asr → Prop} (ha : evL env args.toList = some vals) (hc : CallOK P f)
    (h : ∀ w, St w0 w A → Calls P f vals.toArray w (Ret3 Φ w)) (next : ∀ v a b c, Φ v a b c → SW P n ops rest Q ((d, v) :: env) w0 (a :: b :: c :: A)) (hd : Nat.blt d n = true := by rfl) :
    SW P n ops (⟨some d, .call ⟨.value (.func f), args, tys⟩, ty, pos, af, none⟩ :: rest) Q env w0 A := fun w s =>
  LW_call ha hc (h w s) (fun e w' hr => by
    obtain ⟨v, B, he, ⟨a, b, c, rfl, hp⟩, hs⟩ := RetS.at s hr
    exact ⟨v, he, next v a b c hp w' hs⟩) hd
/-- a call that writes into a slice of the caller's own -/
def RetM (r v : Value) (t : TypeId) (k : Nat) (g : Option Nat) (els : List (List Value)) (w : World) : Ending → World → Prop := fun e w' => e = .returned r ∧ Mod g.toList w w' ∧ Own w' v t k g els
theorem SW_callM_ {f : FuncId} {args : Array Operand} {tys : Array TypeId} {vals : List Value} {r v : Value} {t : TypeId} {k : Nat} {g : Option Nat} {els els' : List (List Value)} {B : List Asr} (i : Nat) (hA : A[i]? = some (.own v t k g els)) (ha : evL env args.toList = some vals) (hc : CallOK P f)
    (h : ∀ w, Own w v t k g els → Calls P f vals.toArray w (RetM r v t k g els' w)) (hB : A.set i (.own v t k g els') = B) (next : SW P n ops rest Q ((d, r) :: env) w0 B) (hd : Nat.blt d n = true := by rfl) :
    SW P n ops (⟨some d, .call ⟨.value (.func f), args, tys⟩, ty, pos, af, none⟩ :: rest) Q env w0 A := fun w s =>
  LW_call ha hc (h w (s.own i hA)) (fun e w' ⟨he, m, o⟩ => ⟨r, he, next w' (hB ▸ s.set i hA m o (fun b hb => .inl (by simpa [Asr.foot] using hb)))⟩) hd
theorem SW_callM_0 {f : FuncId} {args : Array Operand} {tys : Array TypeId} {vals : List Value} {r v : Value} {t : TypeId} {k : Nat} {g : Option Nat} {els els' : List (List Value)} {A : List Asr} (ha : evL env args.toList = some vals) (hc : CallOK P f) (h : ∀ w, Own w v t k g els → Calls P f vals.toArray w (RetM r v t k g els' w)) (next : SW P n ops rest Q ((d, r) :: env) w0 (.own v t k g els' :: A)) (hd : Nat.blt d n = true := by rfl) : SW P n ops (⟨some d, .call ⟨.value (.func f), args, tys⟩, ty, pos, af, none⟩ :: rest) Q env w0 (.own v t k g els :: A) := SW_callM_ 0 rfl ha hc h rfl next hd
theorem SW_callM_1 {a0 : Asr} {f : FuncId} {args : Array Operand} {tys : Array TypeId} {vals : List Value} {r v : Value} {t : TypeId} {k : Nat} {g : Option Nat} {els els' : List (List Value)} {A : List Asr} (ha : evL env args.toList = some vals) (hc : CallOK P f) (h : ∀ w, Own w v t k g els → Calls P f vals.toArray w (RetM r v t k g els' w)) (next : SW P n ops rest Q ((d, r) :: env) w0 (a0 :: .own v t k g els' :: A)) (hd : Nat.blt d n = true := by rfl) : SW P n ops (⟨some d, .call ⟨.value (.func f), args, tys⟩, ty, pos, af, none⟩ :: rest) Q env w0 (a0 :: .own v t k g els :: A) := SW_callM_ 1 rfl ha hc h rfl next hd
theorem SW_callM_2 {a0 a1 : Asr} {f : FuncId} {args : Array Operand} {tys : Array TypeId} {vals : List Value} {r v : Value} {t : TypeId} {k : Nat} {g : Option Nat} {els els' : List (List Value)} {A : List Asr} (ha : evL env args.toList = some vals) (hc : CallOK P f) (h : ∀ w, Own w v t k g els → Calls P f vals.toArray w (RetM r v t k g els' w)) (next : SW P n ops rest Q ((d, r) :: env) w0 (a0 :: a1 :: .own v t k g els' :: A)) (hd : Nat.blt d n = true := by rfl) : SW P n ops (⟨some d, .call ⟨.value (.func f), args, tys⟩, ty, pos, af, none⟩ :: rest) Q env w0 (a0 :: a1 :: .own v t k g els :: A) := SW_callM_ 2 rfl ha hc h rfl next hd
theorem SW_callM_3 {a0 a1 a2 : Asr} {f : FuncId} {args : Array Operand} {tys : Array TypeId} {vals : List Value} {r v : Value} {t : TypeId} {k : Nat} {g : Option Nat} {els els' : List (List Value)} {A : List Asr} (ha : evL env args.toList = some vals) (hc : CallOK P f) (h : ∀ w, Own w v t k g els → Calls P f vals.toArray w (RetM r v t k g els' w)) (next : SW P n ops rest Q ((d, r) :: env) w0 (a0 :: a1 :: a2 :: .own v t k g els' :: A)) (hd : Nat.blt d n = true := by rfl) : SW P n ops (⟨some d, .call ⟨.value (.func f), args, tys⟩, ty, pos, af, none⟩ :: rest) Q env w0 (a0 :: a1 :: a2 :: .own v t k g els :: A) := SW_callM_ 3 rfl ha hc h rfl next hd
theorem SW_callM_4 {a0 a1 a2 a3 : Asr} {f : FuncId} {args : Array Operand} {tys : Array TypeId} {vals : List Value} {r v : Value} {t : TypeId} {k : Nat} {g : Option Nat} {els els' : List (List Value)} {A : List Asr} (ha : evL env args.toList = some vals) (hc : CallOK P f) (h : ∀ w, Own w v t k g els → Calls P f vals.toArray w (RetM r v t k g els' w)) (next : SW P n ops rest Q ((d, r) :: env) w0 (a0 :: a1 :: a2 :: a3 :: .own v t k g els' :: A)) (hd : Nat.blt d n = true := by rfl) : SW P n ops (⟨some d, .call ⟨.value (.func f), args, tys⟩, ty, pos, af, none⟩ :: rest) Q env w0 (a0 :: a1 :: a2 :: a3 :: .own v t k g els :: A) := SW_callM_ 4 rfl ha hc h rfl next hd
theorem SW_callM_5 {a0 a1 a2 a3 a4 : Asr} {f : FuncId} {args : Array Operand} {tys : Array TypeId} {vals : List Value} {r v : Value} {t : TypeId} {k : Nat} {g : Option Nat} {els els' : List (List Value)} {A : List Asr} (ha : evL env args.toList = some vals) (hc : CallOK P f) (h : ∀ w, Own w v t k g els → Calls P f vals.toArray w (RetM r v t k g els' w)) (next : SW P n ops rest Q ((d, r) :: env) w0 (a0 :: a1 :: a2 :: a3 :: a4 :: .own v t k g els' :: A)) (hd : Nat.blt d n = true := by rfl) : SW P n ops (⟨some d, .call ⟨.value (.func f), args, tys⟩, ty, pos, af, none⟩ :: rest) Q env w0 (a0 :: a1 :: a2 :: a3 :: a4 :: .own v t k g els :: A) := SW_callM_ 5 rfl ha hc h rfl next hd
theorem SW_callM_6 {a0 a1 a2 a3 a4 a5 : Asr} {f : FuncId} {args : Array Operand} {tys : Array TypeId} {vals : List Value} {r v : Value} {t : TypeId} {k : Nat} {g : Option Nat} {els els' : List (List Value)} {A : List Asr} (ha : evL env args.toList = some vals) (hc : CallOK P f) (h : ∀ w, Own w v t k g els → Calls P f vals.toArray w (RetM r v t k g els' w)) (next : SW P n ops rest Q ((d, r) :: env) w0 (a0 :: a1 :: a2 :: a3 :: a4 :: a5 :: .own v t k g els' :: A)) (hd : Nat.blt d n = true := by rfl) : SW P n ops (⟨some d, .call ⟨.value (.func f), args, tys⟩, ty, pos, af, none⟩ :: rest) Q env w0 (a0 :: a1 :: a2 :: a3 :: a4 :: a5 :: .own v t k g els :: A) := SW_callM_ 6 rfl ha hc h rfl next hd
theorem SW_callM_7 {a0 a1 a2 a3 a4 a5 a6 : Asr} {f : FuncId} {args : Array Operand} {tys : Array TypeId} {vals : List Value} {r v : Value} {t : TypeId} {k : Nat} {g : Option Nat} {els els' : List (List Value)} {A : List Asr} (ha : evL env args.toList = some vals) (hc : CallOK P f) (h : ∀ w, Own w v t k g els → Calls P f vals.toArray w (RetM r v t k g els' w)) (next : SW P n ops rest Q ((d, r) :: env) w0 (a0 :: a1 :: a2 :: a3 :: a4 :: a5 :: a6 :: .own v t k g els' :: A)) (hd : Nat.blt d n = true := by rfl) : SW P n ops (⟨some d, .call ⟨.value (.func f), args, tys⟩, ty, pos, af, none⟩ :: rest) Q env w0 (a0 :: a1 :: a2 :: a3 :: a4 :: a5 :: a6 :: .own v t k g els :: A) := SW_callM_ 7 rfl ha hc h rfl next hd
theorem SW_callM_8 {a0 a1 a2 a3 a4 a5 a6 a7 : Asr} {f : FuncId} {args : Array Operand} {tys : Array TypeId} {vals : List Value} {r v : Value} {t : TypeId} {k : Nat} {g : Option Nat} {els els' : List (List Value)} {A : List Asr} (ha : evL env args.toList = some vals) (hc : CallOK P f) (h : ∀ w, Own w v t k g els → Calls P f vals.toArray w (RetM r v t k g els' w)) (next : SW P n ops rest Q ((d, r) :: env) w0 (a0 :: a1 :: a2 :: a3 :: a4 :: a5 :: a6 :: a7 :: .own v t k g els' :: A)) (hd : Nat.blt d n = true := by rfl) : SW P n ops (⟨some d, .call ⟨.value (.func f), args, tys⟩, ty, pos, af, none⟩ :: rest) Q env w0 (a0 :: a1 :: a2 :: a3 :: a4 :: a5 :: a6 :: a7 :: .own v t k g els :: A) := SW_callM_ 8 rfl ha hc h rfl next hd
theorem SW_callM_9 {a0 a1 a2 a3 a4 a5 a6 a7 a8 : Asr} {f : FuncId} {args : Array Operand} {tys : Array TypeId} {vals : List Value} {r v : Value} {t : TypeId} {k : Nat} {g : Option Nat} {els els' : List (List Value)} {A : List Asr} (ha : evL env args.toList = some vals) (hc : CallOK P f) (h : ∀ w, Own w v t k g els → Calls P f vals.toArray w (RetM r v t k g els' w)) (next : SW P n ops rest Q ((d, r) :: env) w0 (a0 :: a1 :: a2 :: a3 :: a4 :: a5 :: a6 :: a7 :: a8 :: .own v t k g els' :: A)) (hd : Nat.blt d n = true := by rfl) : SW P n ops (⟨some d, .call ⟨.value (.func f), args, tys⟩, ty, pos, af, none⟩ :: rest) Q env w0 (a0 :: a1 :: a2 :: a3 :: a4 :: a5 :: a6 :: a7 :: a8 :: .own v t k g els :: A) := SW_callM_ 9 rfl ha hc h rfl next hd
theorem SW_callM_10 {a0 a1 a2 a3 a4 a5 a6 a7 a8 a9 : Asr} {f : FuncId} {args : Array Operand} {tys : Array TypeId} {vals : List Value} {r v : Value} {t : TypeId} {k : Nat} {g : Option Nat} {els els' : List (List Value)} {A : List Asr} (ha : evL env args.toList = some vals) (hc : CallOK P f) (h : ∀ w, Own w v t k g els → Calls P f vals.toArray w (RetM r v t k g els' w)) (next : SW P n ops rest Q ((d, r) :: env) w0 (a0 :: a1 :: a2 :: a3 :: a4 :: a5 :: a6 :: a7 :: a8 :: a9 :: .own v t k g els' :: A)) (hd : Nat.blt d n = true := by rfl) : SW P n ops (⟨some d, .call ⟨.value (.func f), args, tys⟩, ty, pos, af, none⟩ :: rest) Q env w0 (a0 :: a1 :: a2 :: a3 :: a4 :: a5 :: a6 :: a7 :: a8 :: a9 :: .own v t k g els :: A) := SW_callM_ 10 rfl ha hc h rfl next hd
theorem SW_callM_11 {a0 a1 a2 a3 a4 a5 a6 a7 a8 a9 a10 : Asr} {f : FuncId} {args : Array Operand} {tys : Array TypeId} {vals : List Value} {r v : Value} {t : TypeId} {k : Nat} {g : Option Nat} {els els' : List (List Value)} {A : List Asr} (ha : evL env args.toList = some vals) (hc : CallOK P f) (h : ∀ w, Own w v t k g els → Calls P f vals.toArray w (RetM r v t k g els' w)) (next : SW P n ops rest Q ((d, r) :: env) w0 (a0 :: a1 :: a2 :: a3 :: a4 :: a5 :: a6 :: a7 :: a8 :: a9 :: a10 :: .own v t k g els' :: A)) (hd : Nat.blt d n = true := by rfl) : SW P n ops (⟨some d, .call ⟨.value (.func f), args, tys⟩, ty, pos, af, none⟩ :: rest) Q env w0 (a0 :: a1 :: a2 :: a3 :: a4 :: a5 :: a6 :: a7 :: a8 :: a9 :: a10 :: .own v t k g els :: A) := SW_callM_ 11 rfl ha hc h rfl next hd

/-! a region in whatever order -/
theorem SA_nil {k : Nat} {listed : Array Bool} (hr : Region.ready .any ops listed = []) (h : SE Q .normal env w0 A) : SA P n ops k listed Q env w0 A := fun w s => AW_nil hr (h w s)
theorem SA_take {l : List Oper} {k : Nat} {listed : Array Bool} (i : Nat) {o : Op} {v : Value} (hi : l[i]? = some ⟨some d, o, ty, pos, af, none⟩) (hs : Region.noSelect l.toArray = true) (hQ : ∀ c e w, Q (.panic c) e w → False)
    (hr : (Region.ready .any l.toArray listed).contains i = true) (hf : Region.free .any l.toArray listed i = true) (h : Y P n ⟨some d, o, ty, pos, af, none⟩ env v) (next : SA P n l.toArray k (listed.setIfInBounds i true) Q ((d, v) :: env) w0 A) (hd : Nat.blt d n = true := by rfl) :
    SA P n l.toArray (k + 1) listed Q env w0 A := fun w s => AW_take i hi hs hQ hr hf h (next w s) hd
def AStep (P : Program) (n : Nat) (l : List Oper) (k : Nat) (listed : Array Bool) (Q : Post) (env : Env) (w0 : World) (A : List Asr) (i : Nat) : Prop :=
  (Region.ready .any l.toArray listed).contains i = true → ∃ o, l[i]? = some o ∧ SW P n l.toArray [o] (thenE (fun e w => AW P n l.toArray k (listed.setIfInBounds i true) Q e w) Q) env w0 A
theorem AStep.no {l : List Oper} {k : Nat} {listed : Array Bool} {i : Nat} (h : (Region.ready .any l.toArray listed).contains i = false) : AStep P n l k listed Q env w0 A i := fun hh => by rw [h] at hh; cases hh
theorem AStep.yes {l : List Oper} {k : Nat} {listed : Array Bool} {i : Nat} {o : Oper} (ho : l[i]? = some o) (h : SW P n l.toArray [o] (thenE (fun e w => AW P n l.toArray k (listed.setIfInBounds i true) Q e w) Q) env w0 A) : AStep P n l k listed Q env w0 A i := fun _ => ⟨o, ho, h⟩
theorem SE_any {l : List Oper} {k : Nat} {listed : Array Bool} (h : SA P n l.toArray k listed Q env w0 A) : SE (thenE (fun e w => AW P n l.toArray k listed Q e w) Q) .normal env w0 A := fun w s => N_then (h w s)
theorem SA_one {l : List Oper} {k : Nat} {listed : Array Bool} (i : Nat) {o : Oper} (hr : Region.ready .any l.toArray listed = [i]) (hi : l[i]? = some o)
    (h : SW P n l.toArray [o] (thenE (fun e w => AW P n l.toArray k (listed.setIfInBounds i true) Q e w) Q) env w0 A) : SA P n l.toArray (k + 1) listed Q env w0 A := fun w s => AW_one i hr hi (h w s)
theorem SA_two {l : List Oper} {k : Nat} {listed : Array Bool} (i j : Nat) {o u : Oper} (hr : Region.ready .any l.toArray listed = [i, j]) (hi : l[i]? = some o) (hj : l[j]? = some u)
    (h1 : SW P n l.toArray [o] (thenE (fun e w => AW P n l.toArray k (listed.setIfInBounds i true) Q e w) Q) env w0 A)
    (h2 : SW P n l.toArray [u] (thenE (fun e w => AW P n l.toArray k (listed.setIfInBounds j true) Q e w) Q) env w0 A) : SA P n l.toArray (k + 1) listed Q env w0 A := fun w s => AW_two i j hr hi hj (h1 w s) (h2 w s)
/-! the state of the order, written out -/
theorem SAbs (bs : List Bool) {k : Nat} (h : SA P n ops k bs.toArray Q env w0 A) : SA P n ops k bs.toArray Q env w0 A := h
theorem SC_anyL {i : Nat} {l : List Oper} (k : Nat) (bs : List Bool) (hm : P.follows .mixedOrders = true) (hk : l.length = k) (hb : List.replicate k false = bs) (h : SA P n l.toArray k bs.toArray Q env w0 A) : SC P n (.region i l.toArray true) Q env w0 A :=
  SC_any hm (by subst hk; subst hb; simpa using h)
theorem SA_takeL {l : List Oper} {k : Nat} {bs : List Bool} (i : Nat) (b' : List Bool) {o : Op} {v : Value} (hb : bs.set i true = b') (hi : l[i]? = some ⟨some d, o, ty, pos, af, none⟩) (hs : Region.noSelect l.toArray = true) (hQ : ∀ c e w, Q (.panic c) e w → False)
    (hr : (Region.ready .any l.toArray bs.toArray).contains i = true) (hf : Region.free .any l.toArray bs.toArray i = true) (h : Y P n ⟨some d, o, ty, pos, af, none⟩ env v) (next : SA P n l.toArray k b'.toArray Q ((d, v) :: env) w0 A) (hd : Nat.blt d n = true := by rfl) :
    SA P n l.toArray (k + 1) bs.toArray Q env w0 A := SA_take i hi hs hQ hr hf h (by subst hb; simpa using next) hd
theorem SA_oneL {l : List Oper} {k : Nat} {bs : List Bool} (i0 : Nat) (b0 : List Bool) {o0 : Oper} (hb0 : bs.set i0 true = b0) (hr : Region.ready .any l.toArray bs.toArray = [i0]) (hi0 : l[i0]? = some o0)
    (h0 : SW P n l.toArray [o0] (thenE (fun e w => AW P n l.toArray k b0.toArray Q e w) Q) env w0 A) : SA P n l.toArray (k + 1) bs.toArray Q env w0 A := fun w s => AW_step hr (by simp) fun x hx => by
  subst hb0; simp only [List.mem_cons, List.not_mem_nil, or_false] at hx
  rcases hx with rfl
  · exact ⟨o0, hi0, by have := h0 w s; rw [← List.setIfInBounds_toArray] at this; exact this⟩
theorem SA_twoL {l : List Oper} {k : Nat} {bs : List Bool} (i0 i1 : Nat) (b0 b1 : List Bool) {o0 o1 : Oper} (hb0 : bs.set i0 true = b0) (hb1 : bs.set i1 true = b1) (hr : Region.ready .any l.toArray bs.toArray = [i0, i1]) (hi0 : l[i0]? = some o0) (hi1 : l[i1]? = some o1)
    (h0 : SW P n l.toArray [o0] (thenE (fun e w => AW P n l.toArray k b0.toArray Q e w) Q) env w0 A) (h1 : SW P n l.toArray [o1] (thenE (fun e w => AW P n l.toArray k b1.toArray Q e w) Q) env w0 A) : SA P n l.toArray (k + 1) bs.toArray Q env w0 A := fun w s => AW_step hr (by simp) fun x hx => by
  subst hb0; subst hb1; simp only [List.mem_cons, List.not_mem_nil, or_false] at hx
  rcases hx with rfl | rfl
  · exact ⟨o0, hi0, by have := h0 w s; rw [← List.setIfInBounds_toArray] at this; exact this⟩
  · exact ⟨o1, hi1, by have := h1 w s; rw [← List.setIfInBounds_toArray] at this; exact this⟩
theorem SA_threeL {l : List Oper} {k : Nat} {bs : List Bool} (i0 i1 i2 : Nat) (b0 b1 b2 : List Bool) {o0 o1 o2 : Oper} (hb0 : bs.set i0 true = b0) (hb1 : bs.set i1 true = b1) (hb2 : bs.set i2 true = b2) (hr : Region.ready .any l.toArray bs.toArray = [i0, i1, i2]) (hi0 : l[i0]? = some o0) (hi1 : l[i1]? = some o1) (hi2 : l[i2]? = some o2)
    (h0 : SW P n l.toArray [o0] (thenE (fun e w => AW P n l.toArray k b0.toArray Q e w) Q) env w0 A) (h1 : SW P n l.toArray [o1] (thenE (fun e w => AW P n l.toArray k b1.toArray Q e w) Q) env w0 A) (h2 : SW P n l.toArray [o2] (thenE (fun e w => AW P n l.toArray k b2.toArray Q e w) Q) env w0 A) : SA P n l.toArray (k + 1) bs.toArray Q env w0 A := fun w s => AW_step hr (by simp) fun x hx => by
  subst hb0; subst hb1; subst hb2; simp only [List.mem_cons, List.not_mem_nil, or_false] at hx
  rcases hx with rfl | rfl | rfl
  · exact ⟨o0, hi0, by have := h0 w s; rw [← List.setIfInBounds_toArray] at this; exact this⟩
  · exact ⟨o1, hi1, by have := h1 w s; rw [← List.setIfInBounds_toArray] at this; exact this⟩
  · exact ⟨o2, hi2, by have := h2 w s; rw [← List.setIfInBounds_toArray] at this; exact this⟩
theorem SA_fourL {l : List Oper} {k : Nat} {bs : List Bool} (i0 i1 i2 i3 : Nat) (b0 b1 b2 b3 : List Bool) {o0 o1 o2 o3 : Oper} (hb0 : bs.set i0 true = b0) (hb1 : bs.set i1 true = b1) (hb2 : bs.set i2 true = b2) (hb3 : bs.set i3 true = b3) (hr : Region.ready .any l.toArray bs.toArray = [i0, i1, i2, i3]) (hi0 : l[i0]? = some o0) (hi1 : l[i1]? = some o1) (hi2 : l[i2]? = some o2) (hi3 : l[i3]? = some o3)
    (h0 : SW P n l.toArray [o0] (thenE (fun e w => AW P n l.toArray k b0.toArray Q e w) Q) env w0 A) (h1 : SW P n l.toArray [o1] (thenE (fun e w => AW P n l.toArray k b1.toArray Q e w) Q) env w0 A) (h2 : SW P n l.toArray [o2] (thenE (fun e w => AW P n l.toArray k b2.toArray Q e w) Q) env w0 A) (h3 : SW P n l.toArray [o3] (thenE (fun e w => AW P n l.toArray k b3.toArray Q e w) Q) env w0 A) : SA P n l.toArray (k + 1) bs.toArray Q env w0 A := fun w s => AW_step hr (by simp) fun x hx => by
  subst hb0; subst hb1; subst hb2; subst hb3; simp only [List.mem_cons, List.not_mem_nil, or_false] at hx
  rcases hx with rfl | rfl | rfl | rfl
  · exact ⟨o0, hi0, by have := h0 w s; rw [← List.setIfInBounds_toArray] at this; exact this⟩
  · exact ⟨o1, hi1, by have := h1 w s; rw [← List.setIfInBounds_toArray] at this; exact this⟩
  · exact ⟨o2, hi2, by have := h2 w s; rw [← List.setIfInBounds_toArray] at this; exact this⟩
  · exact ⟨o3, hi3, by have := h3 w s; rw [← List.setIfInBounds_toArray] at this; exact this⟩
theorem SA_fiveL {l : List Oper} {k : Nat} {bs : List Bool} (i0 i1 i2 i3 i4 : Nat) (b0 b1 b2 b3 b4 : List Bool) {o0 o1 o2 o3 o4 : Oper} (hb0 : bs.set i0 true = b0) (hb1 : bs.set i1 true = b1) (hb2 : bs.set i2 true = b2) (hb3 : bs.set i3 true = b3) (hb4 : bs.set i4 true = b4) (hr : Region.ready .any l.toArray bs.toArray = [i0, i1, i2, i3, i4]) (hi0 : l[i0]? = some o0) (hi1 : l[i1]? = some o1) (hi2 : l[i2]? = some o2) (hi3 : l[i3]? = some o3) (hi4 : l[i4]? = some o4)
    (h0 : SW P n l.toArray [o0] (thenE (fun e w => AW P n l.toArray k b0.toArray Q e w) Q) env w0 A) (h1 : SW P n l.toArray [o1] (thenE (fun e w => AW P n l.toArray k b1.toArray Q e w) Q) env w0 A) (h2 : SW P n l.toArray [o2] (thenE (fun e w => AW P n l.toArray k b2.toArray Q e w) Q) env w0 A) (h3 : SW P n l.toArray [o3] (thenE (fun e w => AW P n l.toArray k b3.toArray Q e w) Q) env w0 A) (h4 : SW P n l.toArray [o4] (thenE (fun e w => AW P n l.toArray k b4.toArray Q e w) Q) env w0 A) : SA P n l.toArray (k + 1) bs.toArray Q env w0 A := fun w s => AW_step hr (by simp) fun x hx => by
  subst hb0; subst hb1; subst hb2; subst hb3; subst hb4; simp only [List.mem_cons, List.not_mem_nil, or_false] at hx
  rcases hx with rfl | rfl | rfl | rfl | rfl
  · exact ⟨o0, hi0, by have := h0 w s; rw [← List.setIfInBounds_toArray] at this; exact this⟩
  · exact ⟨o1, hi1, by have := h1 w s; rw [← List.setIfInBounds_toArray] at this; exact this⟩
  · exact ⟨o2, hi2, by have := h2 w s; rw [← List.setIfInBounds_toArray] at this; exact this⟩
  · exact ⟨o3, hi3, by have := h3 w s; rw [← List.setIfInBounds_toArray] at this; exact this⟩
  · exact ⟨o4, hi4, by have := h4 w s; rw [← List.setIfInBounds_toArray] at this; exact this⟩
end
attribute [irreducible] SC SW SQ SA SE
end Go.Proofs.Ythjlafpfhgbfoaa
