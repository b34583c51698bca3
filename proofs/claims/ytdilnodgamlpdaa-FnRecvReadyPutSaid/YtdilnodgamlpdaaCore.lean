/- A small layer over the walk: a frame known in part as a list of slots, one rule for each operation. No condition. -/
import Derived.WalkKit
import Derived.Below
import Derived.IntWalk
import Derived.Laws.AppendOwn
import Derived.Laws.OwnMore
import Derived.Laws.Cells
import Derived.Laws.Entries
import Derived.Laws.MakeOwn
import Derived.Deep.LoopGhost
import Derived.Deep.Quiet
import Derived.Laws.StructEq
import Derived.Laws.Cover3
import Derived.Laws.Tables
import Derived.Orders
namespace Go.Proofs.Ytdilnodgamlpdaa
open Go Go.RowKit
set_option linter.unusedSimpArgs false
set_option linter.unusedVariables false

/-! ## the frame, as a list of known slots -/
abbrev Env := List (Nat × Value)
def lk : Env → Nat → Option Value
  | [], _ => none
  | (i, v) :: r, t => bif Nat.beq i t then some v else lk r t

structure Rep (n : Nat) (a : Act) (e : Env) : Prop where
  size : a.tmps.size = n
  defers : a.defers = []
  get : ∀ t v, lk e t = some v → a.tmps[t]? = some v

def ev (e : Env) : Operand → Option Value
  | .tmp t => lk e t
  | .const v => some v
  | .global g => some (.pointer (some ⟨g, 0, none⟩))
  | .func f => some (.func (.func f) #[] #[])

def up (d : Option Nat) (v : Value) (e : Env) : Env :=
  match d with
  | some d => (d, v) :: e
  | none => e

def okd (n : Nat) : Option Nat → Bool
  | some d => Nat.blt d n
  | none => true

theorem Rep.ev {n : Nat} {a : Act} {e : Env} (h : Rep n a e) {x : Operand} {v : Value} (hx : ev e x = some v) : a.eval x = v := by
  cases x with
  | tmp t =>
    have := h.get t v hx
    simp [Act.eval, Array.getD_eq_getD_getElem?, this]
  | const c => simpa [Go.Proofs.Ytdilnodgamlpdaa.ev, Act.eval] using hx
  | global g => simpa [Go.Proofs.Ytdilnodgamlpdaa.ev, Act.eval] using hx
  | func f => simpa [Go.Proofs.Ytdilnodgamlpdaa.ev, Act.eval] using hx

theorem Rep.put {n : Nat} {a : Act} {e : Env} (h : Rep n a e) {d : Option Nat} (hd : okd n d = true) (v : Value) : Rep n (a.put d v) (up d v e) := by
  cases d with
  | none => exact h
  | some d =>
    have hlt : d < n := by simpa [okd, Nat.blt_eq] using hd
    refine ⟨by simpa [Act.put] using h.size, by simpa [Act.put] using h.defers, fun t u hu => ?_⟩
    simp only [up, lk] at hu
    simp only [Act.put]
    by_cases hdt : d = t
    · subst hdt
      have hb : Nat.beq d d = true := Nat.beq_refl d
      rw [hb] at hu
      simp only [cond_true, Option.some.injEq] at hu
      subst hu
      have : d < a.tmps.size := by rw [h.size]; exact hlt
      simp [this]
    · have hb : Nat.beq d t = false := by
        cases hh : Nat.beq d t with
        | false => rfl
        | true => exact absurd (Nat.eq_of_beq_eq_true hh) hdt
      rw [hb] at hu
      simp only [cond_false] at hu
      rw [Array.getElem?_setIfInBounds_ne hdt]
      exact h.get t u hu

def evL (e : Env) : List Operand → Option (List Value)
  | [] => some []
  | x :: r => match ev e x, evL e r with
    | some v, some l => some (v :: l)
    | _, _ => none

theorem Rep.evL {n : Nat} {a : Act} {e : Env} (h : Rep n a e) : ∀ {l : List Operand} {vs : List Value}, evL e l = some vs → l.map a.eval = vs
  | [], vs, hx => by simp only [Go.Proofs.Ytdilnodgamlpdaa.evL, Option.some.injEq] at hx; subst hx; rfl
  | x :: r, vs, hx => by
    simp only [Go.Proofs.Ytdilnodgamlpdaa.evL] at hx
    split at hx
    · rename_i v l hv hl
      simp only [Option.some.injEq] at hx
      subst hx
      simp [h.ev hv, h.evL hl]
    · cases hx

/-- every slot that 'e' knows, 'f' knows alike -/
def Sub : Env → Env → Prop
  | [], _ => True
  | (t, v) :: r, f => lk f t = some v ∧ Sub r f

theorem Sub.lk {f : Env} : ∀ {e : Env}, Sub e f → ∀ t v, lk e t = some v → lk f t = some v
  | [], _, t, v, h => by cases h
  | (i, u) :: r, hs, t, v, h => by
    simp only [Go.Proofs.Ytdilnodgamlpdaa.lk] at h
    cases hb : Nat.beq i t with
    | true =>
      rw [hb] at h
      simp only [cond_true, Option.some.injEq] at h
      subst h
      have : i = t := Nat.eq_of_beq_eq_true hb
      subst this
      exact hs.1
    | false =>
      rw [hb] at h
      simp only [cond_false] at h
      exact hs.2.lk t v h

theorem Rep.sub {n : Nat} {a : Act} {e f : Env} (h : Rep n a f) (hs : Sub e f) : Rep n a e :=
  ⟨h.size, h.defers, fun t v ht => h.get t v (hs.lk t v ht)⟩

/-! ## code -/
abbrev Post := Exit → Env → World → Prop
def QE (n : Nat) (Q : Post) : Exit → Act → World → Prop := fun e a w => ∃ env, Rep n a env ∧ Q e env w

def CW (P : Program) (n : Nat) (c : Code) (Q : Post) (env : Env) (w : World) : Prop := ∀ a, Rep n a env → c.wp P (QE n Q) a w
def LW (P : Program) (n : Nat) (ops : Array Oper) (l : List Oper) (Q : Post) (env : Env) (w : World) : Prop := ∀ a, Rep n a env → wpList P ops (QE n Q) l a w

def thenE (K : Env → World → Prop) (Q : Post) : Post
  | .normal, e, w => K e w
  | x, e, w => Q x e w
def blockE (id : Nat) (Q : Post) : Post
  | .exit i, e, w => if i = id then Q .normal e w else Q (.exit i) e w
  | x, e, w => Q x e w

section
variable {P : Program} {n : Nat} {Q : Post} {env : Env} {w : World}

theorem CW.sub {c : Code} {env' : Env} (h : CW P n c Q env' w) (hs : Sub env' env) : CW P n c Q env w := fun a ha => h a (ha.sub hs)
theorem CW.mono {c : Code} {Q' : Post} (h : CW P n c Q env w) (hq : ∀ x e w, Q x e w → Q' x e w) : CW P n c Q' env w :=
  fun a ha => wp_mono (h a ha) fun x _ w ⟨e, he, hh⟩ => ⟨e, he, hq x e w hh⟩

theorem CWk {c : Code} (h : CW P n c Q env w) : CW P n c Q env w := h
theorem CW_seq {x y : Code} (h : CW P n x (thenE (fun e w => CW P n y Q e w) Q) env w) : CW P n (.seq x y) Q env w := fun a ha =>
  wp_seq (wp_mono (h a ha) fun x _ _ ⟨_, he, hh⟩ => by
    cases x with
    | normal => exact hh _ he
    | exit i => exact ⟨_, he, hh⟩
    | goto l => exact ⟨_, he, hh⟩
    | ret => exact ⟨_, he, hh⟩
    | panic c => exact ⟨_, he, hh⟩
    | outgrown => exact ⟨_, he, hh⟩)

theorem CW_skip (h : Q .normal env w) : CW P n .skip Q env w := fun _ ha => wp_skip ⟨env, ha, h⟩
theorem CW_ret (h : Q .ret env w) : CW P n .ret Q env w := fun _ ha => wp_ret ⟨env, ha, h⟩
theorem CW_exit {i : Nat} (h : Q (.exit i) env w) : CW P n (.exit i) Q env w := fun _ ha => wp_exit ⟨env, ha, h⟩
theorem CW_block {i : Nat} {c : Code} (h : CW P n c (blockE i Q) env w) : CW P n (.block i c) Q env w := fun a ha =>
  wp_block (wp_mono (h a ha) fun x _ _ ⟨_, he, hh⟩ => by
    cases x with
    | normal => exact ⟨_, he, hh⟩
    | exit j =>
      simp only [blockE] at hh
      simp only [Exit.inBlock]
      split
      · rename_i hij; rw [if_pos hij] at hh; exact ⟨_, he, hh⟩
      · rename_i hij; rw [if_neg hij] at hh; exact ⟨_, he, hh⟩
    | goto l => exact ⟨_, he, hh⟩
    | ret => exact ⟨_, he, hh⟩
    | panic c => exact ⟨_, he, hh⟩
    | outgrown => exact ⟨_, he, hh⟩)
theorem CW_cond {c : Operand} {x y : Code} {b : Bool} (hc : ev env c = some (.bool b)) (ht : b = true → CW P n x Q env w) (hf : b = false → CW P n y Q env w) : CW P n (.cond c x y) Q env w :=
  fun a ha => wp_cond_split (ha.ev hc) (fun h => ht h a ha) (fun h => hf h a ha)
theorem CW_true {c : Operand} {x y : Code} (hc : ev env c = some (.bool true)) (ht : CW P n x Q env w) : CW P n (.cond c x y) Q env w :=
  fun a ha => wp_cond_true (ha.ev hc) (ht a ha)
theorem CW_false {c : Operand} {x y : Code} (hc : ev env c = some (.bool false)) (hf : CW P n y Q env w) : CW P n (.cond c x y) Q env w :=
  fun a ha => wp_cond_false (ha.ev hc) (hf a ha)
theorem CW_region {i : Nat} {l : List Oper} (h : LW P n l.toArray l Q env w) : CW P n (.region i l.toArray false) Q env w := fun a ha => wp_region_lit (h a ha)

/-- a loop: 'E x' what is known of the frame at its head, 'R x' of the world, 'm' falls -/
theorem CW_loop {c : Code} {α : Type} (E : α → Env) (R : α → World → Prop) (m : α → Nat) (x0 : α) (h0 : Sub (E x0) env) (r0 : R x0 w)
    (round : ∀ x w, R x w → CW P n c (thenE (fun e w' => ∃ y, Sub (E y) e ∧ R y w' ∧ m y < m x) Q) (E x) w) : CW P n (.loop c) Q env w := by
  intro a ha
  refine wp_loop_ghost (fun k a w => ∃ x, Rep n a (E x) ∧ R x w ∧ k = m x) (m x0) ⟨x0, ha.sub h0, r0, rfl⟩ ?_
  rintro k a w ⟨x, hx, hr, rfl⟩
  refine wp_mono (round x w hr a hx) ?_
  rintro e a' w' ⟨e', he', hq⟩
  cases e with
  | normal =>
    obtain ⟨y, hy, hr', hm⟩ := hq
    exact ⟨m y, hm, y, he'.sub hy, hr', rfl⟩
  | exit i => exact ⟨e', he', hq⟩
  | goto l => exact ⟨e', he', hq⟩
  | ret => exact ⟨e', he', hq⟩
  | panic c => exact ⟨e', he', hq⟩
  | outgrown => exact ⟨e', he', hq⟩

/-! the exits, as they come -/
theorem N_then {K : Env → World → Prop} (h : K env w) : thenE K Q .normal env w := h
theorem R_then {K : Env → World → Prop} (h : Q .ret env w) : thenE K Q .ret env w := h
theorem X_then {K : Env → World → Prop} {i : Nat} (h : Q (.exit i) env w) : thenE K Q (.exit i) env w := h
theorem N_block {i : Nat} (h : Q .normal env w) : blockE i Q .normal env w := h
theorem R_block {i : Nat} (h : Q .ret env w) : blockE i Q .ret env w := h
theorem X_block {i j : Nat} (hij : Nat.beq j i = true) (h : Q .normal env w) : blockE i Q (.exit j) env w := by
  have := Nat.eq_of_beq_eq_true hij
  simp only [blockE, this, if_true]
  exact h
theorem X_block_ne {i j : Nat} (hij : Nat.beq j i = false) (h : Q (.exit j) env w) : blockE i Q (.exit j) env w := by
  have : j ≠ i := fun e => by subst e; rw [Nat.beq_refl] at hij; cases hij
  simp only [blockE, if_neg this]
  exact h
/-- a sequence whose first part is proved apart -/
theorem CW_cut {x y : Code} (M : Env → World → Prop) (hx : CW P n x (thenE M Q) env w) (hy : ∀ e w, M e w → CW P n y Q e w) : CW P n (.seq x y) Q env w :=
  CW_seq (hx.mono fun x e w h => by
    cases x with
    | normal => exact hy e w h
    | exit i => exact h
    | goto l => exact h
    | ret => exact h
    | panic c => exact h
    | outgrown => exact h)
end

/-! ## a function's body -/
inductive ResOK (P : Program) (env : Env) (w : World) : List ResultVar → List Value → Prop
  | nil : ResOK P env w [] []
  | tmp {t : Nat} {v : Value} {r : List ResultVar} {vs : List Value} (h : lk env t = some v) (hr : ResOK P env w r vs) : ResOK P env w (.tmp t :: r) (v :: vs)
  | cell {t : Nat} {ty : TypeId} {p : Addr} {v : Value} {r : List ResultVar} {vs : List Value} (h : lk env t = some (.pointer (some p)))
      (hl : (loadVar ty p).run P w = .ok v w) (hr : ResOK P env w r vs) : ResOK P env w (.cell t ty :: r) (v :: vs)

def tup : List Value → Value
  | [v] => v
  | vs => .tuple vs.toArray

def FnQ (P : Program) (fn : Func) (R : Ending → World → Prop) : Post
  | .normal, env, w | .ret, env, w => ∃ vs, ResOK P env w fn.results.toList vs ∧ R (.returned (tup vs)) w
  | _, _, _ => False

def resv (tmps : Array Value) : ResultVar → Sem Value
  | .tmp t => pure (tmps.getD t undef)
  | .cell a t => do loadVar t (← asAddr (tmps.getD a undef))
theorem getD_of {a : Array Value} {t : Nat} {v : Value} (h : a[t]? = some v) : a.getD t undef = v := by rw [Array.getD_eq_getD_getElem?, h]; rfl
theorem ResOK.run {P : Program} {env : Env} {w : World} {n : Nat} {a : Act} (ha : Rep n a env) {rs : List ResultVar} {vs : List Value} (h : ResOK P env w rs vs) :
    (rs.mapM (resv a.tmps)).run P w = Result.ok vs w := by
  induction h with
  | nil => simp
  | tmp h hr ih =>
    have h2 := getD_of (ha.get _ _ h)
    rw [List.mapM_cons]
    simp only [Sem.run_bind, resv, Sem.run_pure, Result.andThen_ok, ih, h2]
  | cell h hl hr ih =>
    have h2 := getD_of (ha.get _ _ h)
    rw [List.mapM_cons]
    simp only [Sem.run_bind, resv, Sem.run_pure, Result.andThen_ok, ih, h2, asAddr, hl]

theorem tup_eq (vs : Array Value) : (if h : vs.size = 1 then vs[0] else Value.tuple vs) = tup vs.toList := by
  obtain ⟨l⟩ := vs
  match l with
  | [] => simp [tup]
  | [v] => simp [tup]
  | a :: b :: r => simp [tup]

theorem ResOK.results {P : Program} {env : Env} {w : World} {n : Nat} {a : Act} (ha : Rep n a env) {fn : Func} {vs : List Value} (h : ResOK P env w fn.results.toList vs) :
    (Go.results fn a.tmps).run P w = .ok (tup vs) w := by
  have hrun := h.run ha
  have e : Go.results fn a.tmps = (do
      let vs ← fn.results.mapM (resv a.tmps)
      pure (if h : vs.size = 1 then vs[0] else .tuple vs)) := rfl
  have e2 : fn.results.mapM (resv a.tmps) = (Functor.map List.toArray (fn.results.toList.mapM (resv a.tmps))) := Array.mapM_eq_mapM_toList
  rw [e, e2]
  simp only [Sem.run_bind, Sem.run_map, hrun, Result.andThen_ok, Sem.run_pure]
  rw [tup_eq]

theorem FnQ.body {P : Program} {fn : Func} {R : Ending → World → Prop} {n : Nat} {e : Exit} {a : Act} {w : World} (h : QE n (FnQ P fn R) e a w) : bodyPost P fn R e a w := by
  obtain ⟨env, ha, hq⟩ := h
  cases e with
  | normal =>
    obtain ⟨vs, hr, hR⟩ := hq
    exact ⟨ha.defers, _, hr.results ha, hR⟩
  | ret =>
    obtain ⟨vs, hr, hR⟩ := hq
    exact ⟨ha.defers, _, hr.results ha, hR⟩
  | exit i => exact hq.elim
  | goto l => exact hq.elim
  | panic c => exact hq.elim
  | outgrown => exact hq.elim

def argE : Nat → List Value → Env
  | _, [] => []
  | i, v :: r => (i, v) :: argE (i + 1) r

theorem lk_argE : ∀ (l : List Value) (i t : Nat) (v : Value), lk (argE i l) t = some v → i ≤ t ∧ l[t - i]? = some v
  | [], _, _, _, h => by cases h
  | u :: r, i, t, v, h => by
    simp only [argE, lk] at h
    cases hb : Nat.beq i t with
    | true =>
      rw [hb] at h
      simp only [cond_true, Option.some.injEq] at h
      have : i = t := Nat.eq_of_beq_eq_true hb
      subst this
      exact ⟨Nat.le_refl _, by simp [h]⟩
    | false =>
      rw [hb] at h
      simp only [cond_false] at h
      obtain ⟨h1, h2⟩ := lk_argE r (i + 1) t v h
      refine ⟨by omega, ?_⟩
      have : t - i = (t - (i + 1)) + 1 := by omega
      rw [this]
      simpa using h2

/-- THE DOOR: a call, by its body -/
theorem Calls_of {P : Program} {f : FuncId} {fn : Func} {n : Nat} {c : Code} {args : List Value} {w : World} {R : Ending → World → Prop} (hf : P.funcs[f]? = some fn) (hnt : fn.ntmps = n) (hb : fn.body = some c)
    (hn : Nat.ble args.length n = true) (h : CW P n c (FnQ P fn R) (argE 0 args) w) : Calls P f args.toArray w R := by
  subst hnt
  have hle : args.length ≤ fn.ntmps := by simpa using hn
  refine calls_of_wp hf hb (wp_mono (h _ ⟨?_, rfl, ?_⟩) fun _ _ _ hq => FnQ.body hq)
  · simp; omega
  · intro t v ht
    obtain ⟨_, h2⟩ := lk_argE _ _ _ _ ht
    simp only [Nat.sub_zero] at h2
    have hlt : t < args.length := (List.getElem?_eq_some_iff.1 h2).1
    rw [Array.getElem?_append_left (by simpa using hlt)]
    simpa using h2

/-! ## worlds -/
/-- of what was there only the blocks of S may have turned -/
structure Mod (S : List Nat) (w w' : World) : Prop where
  os : w'.os = w.os
  tape : w'.tape = w.tape
  output : w'.output = w.output
  size : w.heap.size ≤ w'.heap.size
  block : ∀ k, k < w.heap.size → k ∉ S → w'.heap[k]? = w.heap[k]?
abbrev Ext (w w' : World) : Prop := Mod [] w w'

theorem Mod.refl (S : List Nat) (w : World) : Mod S w w := ⟨rfl, rfl, rfl, Nat.le_refl _, fun _ _ _ => rfl⟩
theorem Mod.trans {S : List Nat} {a b c : World} (h : Mod S a b) (k : Mod S b c) : Mod S a c :=
  ⟨k.os.trans h.os, k.tape.trans h.tape, k.output.trans h.output, Nat.le_trans h.size k.size, fun i hi hs => (k.block i (Nat.lt_of_lt_of_le hi h.size) hs).trans (h.block i hi hs)⟩
theorem Mod.mono {S T : List Nat} {a b : World} (h : Mod S a b) (hs : ∀ k, k < a.heap.size → k ∈ S → k ∈ T) : Mod T a b :=
  ⟨h.os, h.tape, h.output, h.size, fun i hi ht => h.block i hi fun hk => ht (hs i hi hk)⟩
theorem Mod.ext {a b : World} {S : List Nat} (h : Ext a b) : Mod S a b := h.mono (fun _ _ hk => by cases hk)
/-- what is written lies in blocks that are new since a -/
theorem Mod.fresh {a b c : World} {S : List Nat} (h : Ext a b) (k : Mod S b c) (hs : ∀ g ∈ S, a.heap.size ≤ g) : Ext a c :=
  (Mod.ext h).trans k |>.mono fun g hg hS => absurd (hs g hS) (by omega)
theorem Mod.freshS {a b c : World} {S T : List Nat} (h : Mod S a b) (k : Mod T b c) (hs : ∀ g ∈ T, a.heap.size ≤ g ∨ g ∈ S) : Mod S a c :=
  ⟨k.os.trans h.os, k.tape.trans h.tape, k.output.trans h.output, Nat.le_trans h.size k.size, fun i hi hS => (k.block i (Nat.lt_of_lt_of_le hi h.size) (fun hT => by
    rcases hs i hT with h1 | h1
    · omega
    · exact hS h1)).trans (h.block i hi hS)⟩
theorem Ext.below {a b : World} (h : Ext a b) : Below a.heap.size a b := ⟨h.os, h.tape, h.output, h.size, fun k hk => h.block k hk (by simp)⟩
theorem Mod.drew {S : List Nat} {a b : World} (h : Mod S a b) : Mod S a b.drew := ⟨h.os, h.tape, h.output, h.size, h.block⟩
theorem Mod.alloc {S : List Nat} {a b : World} (h : Mod S a b) (o : Obj) : Mod S a (b.alloc o) :=
  h.trans ⟨rfl, rfl, rfl, by simp, fun k hk _ => Below.heap_alloc b o k hk⟩
theorem Mod.setCell {S : List Nat} {a b : World} (h : Mod S a b) (p : Addr) (v : Value) (hp : a.heap.size ≤ p.block ∨ p.block ∈ S) : Mod S a (b.setCell p v) :=
  ⟨h.os, h.tape, h.output, by simpa using h.size, fun k hk hS => (heap_setCell_other b p k v (by rintro rfl; rcases hp with hp | hp; omega; exact hS hp)).trans (h.block k hk hS)⟩
theorem Mod.setRow {S : List Nat} {a b : World} (h : Mod S a b) (g : Nat) (cs : Array Value) (hp : a.heap.size ≤ g ∨ g ∈ S) : Mod S a (b.setRow g cs) :=
  ⟨h.os, h.tape, h.output, by simpa using h.size, fun k hk hS => (setRow_other b g k cs (by rintro rfl; rcases hp with hp | hp; omega; exact hS hp)).trans (h.block k hk hS)⟩

/-! ## truth values -/
noncomputable def tr (p : Prop) : Bool := @decide p (Classical.propDecidable p)
theorem tr_true {p : Prop} (h : p) : tr p = true := by unfold tr; exact @decide_eq_true p (Classical.propDecidable p) h
theorem tr_false {p : Prop} (h : ¬ p) : tr p = false := by unfold tr; exact @decide_eq_false p (Classical.propDecidable p) h
theorem tr_eq {p : Prop} {b : Bool} (h : p ↔ b = true) : tr p = b := by
  cases b with
  | true => exact tr_true (h.2 rfl)
  | false => exact tr_false (fun hp => by have := h.1 hp; cases this)
theorem tr_iff {p q : Prop} (h : p ↔ q) : tr p = tr q := by rw [propext h]
/-- a call that answers a bool and leaves the world as it is -/
def RetB (p : Prop) (w : World) : Ending → World → Prop := fun e w' => e = .returned (.bool (tr p)) ∧ w' = w

/-! ## operations -/
/-- an operation that looks at no memory yields v -/
def Y (P : Program) (n : Nat) (o : Oper) (env : Env) (v : Value) : Prop := ∀ a, Rep n a env → ∀ w, (execOp a.eval o).run P w = .ok (.value v) w
def QW (P : Program) (n : Nat) (ops : Array Oper) (l : List Oper) (w : World) (J : Env → Prop) (env : Env) : Prop := ∀ a, Rep n a env → wpQuiet P ops (fun w' => Ext w w') (fun a' => ∃ e, Rep n a' e ∧ J e) l a
def AW (P : Program) (n : Nat) (ops : Array Oper) (k : Nat) (listed : Array Bool) (Q : Post) (env : Env) (w : World) : Prop := ∀ a, Rep n a env → wpAny P .any ops (QE n Q) k listed a w
theorem wpQuiet_mono {P : Program} {ops : Array Oper} {C : World → Prop} {Q Q' : Act → Prop} (h : ∀ a, Q a → Q' a) : ∀ (l : List Oper) (a : Act), wpQuiet P ops C Q l a → wpQuiet P ops C Q' l a
  | [], a, hh => h a hh
  | o :: r, a, hh => by
    simp only [wpQuiet] at hh ⊢
    split
    · rename_i hw; rw [if_pos hw] at hh; exact Oper.quiet_mono (wpQuiet_mono h r) hh
    · rename_i hw; rw [if_neg hw] at hh; exact wpQuiet_mono h r _ hh

section
variable {P : Program} {n : Nat} {Q : Post} {J : Env → Prop} {env : Env} {w : World} {ops : Array Oper} {rest : List Oper}
variable {d : Nat} {ty : TypeId} {pos : String} {af : Array Edge}

theorem LW_nil (h : Q .normal env w) : LW P n ops [] Q env w := fun _ ha => ⟨env, ha, h⟩
theorem LW.sub {l : List Oper} {env' : Env} (h : LW P n ops l Q env' w) (hs : Sub env' env) : LW P n ops l Q env w := fun a ha => h a (ha.sub hs)

/-- an operation that yields a value -/
theorem LW_run {o : Oper} {v : Value} {w' : World} (hg : o.guard = none) (hd : okd n o.dst = true) (hrun : ∀ a, Rep n a env → (execOp a.eval o).run P w = .ok (.value v) w')
    (next : LW P n ops rest Q (up o.dst v env) w') : LW P n ops (o :: rest) Q env w := fun a ha =>
  wpList_plain hg fun K hK => by
    unfold Oper.wp
    rw [hrun a ha]
    exact hK _ _ (next _ (ha.put hd v))
/-- an operation that yields none -/
theorem LW_skip {o : Oper} {w' : World} (hg : o.guard = none) (hd : o.dst = none) (hrun : ∀ a, Rep n a env → (execOp a.eval o).run P w = .ok .skip w')
    (next : LW P n ops rest Q env w') : LW P n ops (o :: rest) Q env w := fun a ha =>
  wpList_plain hg fun K hK => by
    unfold Oper.wp
    rw [hrun a ha]
    refine hK _ _ ?_
    rw [hd]
    exact next _ ha

theorem LWk {l : List Oper} (h : LW P n ops l Q env w) : LW P n ops l Q env w := h
theorem LWo {op : Op} (h : LW P n ops (⟨some d, op, ty, pos, af, none⟩ :: rest) Q env w) : LW P n ops (⟨some d, op, ty, pos, af, none⟩ :: rest) Q env w := h
theorem LWb {o : BinOp} {t u : TypeId} {x y : Operand} (h : LW P n ops (⟨some d, .binOp o t x y u, ty, pos, af, none⟩ :: rest) Q env w) : LW P n ops (⟨some d, .binOp o t x y u, ty, pos, af, none⟩ :: rest) Q env w := h
theorem LWc {c : Call} (h : LW P n ops (⟨some d, .call c, ty, pos, af, none⟩ :: rest) Q env w) : LW P n ops (⟨some d, .call c, ty, pos, af, none⟩ :: rest) Q env w := h
theorem LWl {t : TypeId} {x : Operand} (h : LW P n ops (⟨some d, .load t x, ty, pos, af, none⟩ :: rest) Q env w) : LW P n ops (⟨some d, .load t x, ty, pos, af, none⟩ :: rest) Q env w := h
theorem LW_y {o : Op} {v : Value} (h : Y P n ⟨some d, o, ty, pos, af, none⟩ env v) (next : LW P n ops rest Q ((d, v) :: env) w) (hd : Nat.blt d n = true) : LW P n ops (⟨some d, o, ty, pos, af, none⟩ :: rest) Q env w :=
  LW_run rfl hd (fun a ha => h a ha w) next

/-! a region that draws its order, quiet: one value for each operation in every world that has grown from w -/
theorem QWk {l : List Oper} (h : QW P n ops l w J env) : QW P n ops l w J env := h
theorem QWo {op : Op} (h : QW P n ops (⟨some d, op, ty, pos, af, none⟩ :: rest) w J env) : QW P n ops (⟨some d, op, ty, pos, af, none⟩ :: rest) w J env := h
theorem QWb {o : BinOp} {t u : TypeId} {x y : Operand} (h : QW P n ops (⟨some d, .binOp o t x y u, ty, pos, af, none⟩ :: rest) w J env) : QW P n ops (⟨some d, .binOp o t x y u, ty, pos, af, none⟩ :: rest) w J env := h
theorem QWc {c : Call} (h : QW P n ops (⟨some d, .call c, ty, pos, af, none⟩ :: rest) w J env) : QW P n ops (⟨some d, .call c, ty, pos, af, none⟩ :: rest) w J env := h
theorem QW_nil (h : J env) : QW P n ops [] w J env := fun a ha => wpQuiet_nil ⟨env, ha, h⟩
theorem QW_val {o : Oper} {v : Value} (hg : o.guard = none) (hd : okd n o.dst = true) (h : ∀ a, Rep n a env → ∀ w', Ext w w' → (execOp a.eval o).run P w' = .ok (.value v) w') (next : QW P n ops rest w J (up o.dst v env)) : QW P n ops (o :: rest) w J env := fun a ha =>
  wpQuiet_step fun K hK => by
    rw [if_pos (by simp [Region.wanted, hg])]
    refine ⟨v, fun w' hw' => ?_, hK _ (next _ (ha.put hd v))⟩
    unfold Oper.quietAt
    rw [h a ha w' hw']
    exact ⟨rfl, rfl⟩
theorem QW_y {o : Op} {v : Value} (h : Y P n ⟨some d, o, ty, pos, af, none⟩ env v) (next : QW P n ops rest w J ((d, v) :: env)) (hd : Nat.blt d n = true) : QW P n ops (⟨some d, o, ty, pos, af, none⟩ :: rest) w J env :=
  QW_val rfl hd (fun a ha w' _ => h a ha w') next
theorem CW_quiet {i : Nat} {l : List Oper} (hm : P.follows .mixedOrders = true) (hB : Region.lexB .any l.toArray = true) (h : QW P n l.toArray l w (fun e => ∀ w', Ext w w' → Q .normal e w') env) : CW P n (.region i l.toArray true) Q env w := fun a ha => by
  refine wp_region_quiet (C := fun w' => Ext w w') hm hB ((Mod.refl [] w).drew) ?_
  have := h a ha
  refine wpQuiet_mono (Q := fun a' => ∃ e, Rep n a' e ∧ ∀ w', Ext w w' → Q .normal e w') (fun a' hh w' hw' => ?_) _ _ (by simpa using this)
  obtain ⟨e, he, hq⟩ := hh
  exact ⟨e, he, hq w' hw'⟩

/-! a region that draws its order, in whatever order -/
theorem AW_take {l : List Oper} {k : Nat} {listed : Array Bool} (i : Nat) {o : Op} {v : Value} (hi : l[i]? = some ⟨some d, o, ty, pos, af, none⟩) (hs : Region.noSelect l.toArray = true) (hQ : ∀ c e w, Q (.panic c) e w → False)
    (hr : (Region.ready .any l.toArray listed).contains i = true) (hf : Region.free .any l.toArray listed i = true) (h : Y P n ⟨some d, o, ty, pos, af, none⟩ env v) (next : AW P n l.toArray k (listed.setIfInBounds i true) Q ((d, v) :: env) w) (hd : Nat.blt d n = true := by rfl) :
    AW P n l.toArray (k + 1) listed Q env w := fun a ha => by
  have hi' : l.toArray[i]? = some ⟨some d, o, ty, pos, af, none⟩ := by simpa using hi
  refine wpAny_first hi' (Region.noSelect_spec hs) (fun c a w hp => ?_) k listed a w (Region.free_spec hi' hf) (by simpa using hr) (.inl ⟨by simp [Region.wanted], fun w => h a ha w⟩) (next _ (ha.put (d := some d) hd v))
  obtain ⟨e, _, hq⟩ := hp
  exact (hQ _ _ _ hq).elim
theorem AW_nil {k : Nat} {listed : Array Bool} (hr : Region.ready .any ops listed = []) (h : Q .normal env w) : AW P n ops k listed Q env w := fun a ha => by
  cases k with
  | zero => exact ⟨hr, env, ha, h⟩
  | succ k => exact ⟨fun _ => ⟨env, ha, h⟩, fun i hi => by rw [hr] at hi; cases hi⟩
theorem AW_step {l : List Oper} {k : Nat} {listed : Array Bool} {rs : List Nat} (hr : Region.ready .any l.toArray listed = rs) (hne : rs ≠ [])
    (h : ∀ i ∈ rs, ∃ o, l[i]? = some o ∧ LW P n l.toArray [o] (thenE (fun e w => AW P n l.toArray k (listed.setIfInBounds i true) Q e w) Q) env w) : AW P n l.toArray (k + 1) listed Q env w := fun a ha => by
  refine ⟨fun h0 => absurd (hr.symm.trans h0) hne, fun i hi => ?_⟩
  rw [hr] at hi
  obtain ⟨o, ho, hw⟩ := h i hi
  have h1 := hw a ha
  have ho' : l.toArray[i]? = some o := by simpa using ho
  have hmono : ∀ (x : Exit) (a' : Act) (w' : World), QE n (thenE (fun e w => AW P n l.toArray k (listed.setIfInBounds i true) Q e w) Q) x a' w' → Exit.then (wpAny P .any l.toArray (QE n Q) k (listed.setIfInBounds i true)) (QE n Q) x a' w' := by
    rintro x a' w' ⟨e, he, hq⟩
    cases x with
    | normal => exact hq _ he
    | exit i => exact ⟨e, he, hq⟩
    | goto l => exact ⟨e, he, hq⟩
    | ret => exact ⟨e, he, hq⟩
    | panic c => exact ⟨e, he, hq⟩
    | outgrown => exact ⟨e, he, hq⟩
  unfold wpOp
  rw [ho']
  simp only [wpList] at h1
  show (if Region.wanted o (yielded l.toArray a.tmps) = true then _ else _)
  split
  · rename_i hwt
    rw [if_pos hwt] at h1
    rcases h1 with h1 | ⟨hasks, a0, w0, hout⟩
    · left
      unfold Oper.wp Oper.upon at h1 ⊢
      split at h1 <;> first
        | exact (hmono .normal _ _ h1)
        | exact Rows.mono h1 (fun _ _ he => hmono .normal _ _ he)
        | exact Calls.mono h1 (fun e w'' he => match e, he with
            | .returned v, he => hmono .normal _ _ he
            | .panicked c, he => hmono (.panic c) _ _ he
            | .outgrown, ⟨a0, w0, hq⟩ => ⟨a0, w0, hmono .outgrown _ _ hq⟩)
        | exact hmono (.panic _) _ _ h1
        | exact h1.elim
    · right
      exact ⟨hasks, a0, w0, hmono .outgrown _ _ hout⟩
  · rename_i hwt
    rw [if_neg hwt] at h1
    exact hmono .normal _ _ h1
theorem AW_one {l : List Oper} {k : Nat} {listed : Array Bool} (i : Nat) {o : Oper} (hr : Region.ready .any l.toArray listed = [i]) (hi : l[i]? = some o)
    (h : LW P n l.toArray [o] (thenE (fun e w => AW P n l.toArray k (listed.setIfInBounds i true) Q e w) Q) env w) : AW P n l.toArray (k + 1) listed Q env w :=
  AW_step hr (by simp) fun j hj => by
    obtain rfl : j = i := by simpa using hj
    exact ⟨o, hi, h⟩
theorem AW_two {l : List Oper} {k : Nat} {listed : Array Bool} (i j : Nat) {o u : Oper} (hr : Region.ready .any l.toArray listed = [i, j]) (hi : l[i]? = some o) (hj : l[j]? = some u)
    (h1 : LW P n l.toArray [o] (thenE (fun e w => AW P n l.toArray k (listed.setIfInBounds i true) Q e w) Q) env w)
    (h2 : LW P n l.toArray [u] (thenE (fun e w => AW P n l.toArray k (listed.setIfInBounds j true) Q e w) Q) env w) : AW P n l.toArray (k + 1) listed Q env w :=
  AW_step hr (by simp) fun x hx => by
    have hx : x = i ∨ x = j := by simpa using hx
    rcases hx with rfl | rfl
    · exact ⟨o, hi, h1⟩
    · exact ⟨u, hj, h2⟩
theorem CW_any {i : Nat} {l : List Oper} (hm : P.follows .mixedOrders = true) (h : ∀ w', Ext w w' → AW P n l.toArray l.length (Array.replicate l.length false) Q env w') : CW P n (.region i l.toArray true) Q env w := fun a ha => by
  refine wp_region_any hm ?_
  have := h w.drew ((Mod.refl [] w).drew) a ha
  simpa using this

/-! worldless operations -/
theorem Y_move {x : Operand} {v : Value} (hx : ev env x = some v) : Y P n ⟨some d, .move x, ty, pos, af, none⟩ env (v) := fun c ha w => by
    simp [execOp, ha.ev hx]
theorem Y_assign {x : Operand} {v : Value} (hx : ev env x = some v) : Y P n ⟨some d, .assign x, ty, pos, af, none⟩ env (v) := fun c ha w => by
    simp [execOp, ha.ev hx]
theorem Y_pickT {c x y : Operand} {v : Value} (hc : ev env c = some (.bool true)) (hx : ev env x = some v) : Y P n ⟨some d, .pick c x y, ty, pos, af, none⟩ env (v) := fun c ha w => by
    simp [execOp, ha.ev hx, ha.ev hc, asBool]
theorem Y_pickF {c x y : Operand} {v : Value} (hc : ev env c = some (.bool false)) (hx : ev env y = some v) : Y P n ⟨some d, .pick c x y, ty, pos, af, none⟩ env (v) := fun c ha w => by
    simp [execOp, ha.ev hx, ha.ev hc, asBool]
theorem Y_add {x y : Operand} {t u : TypeId} {a b : Int} (hx : ev env x = some (.int .i64 a)) (hy : ev env y = some (.int .i64 b)) (hb : -9223372036854775808 ≤ a + b ∧ a + b ≤ 9223372036854775807) : Y P n ⟨some d, .binOp .add t x y u, ty, pos, af, none⟩ env (.int .i64 (a + b)) := fun c ha w => by
    simp [execOp, ha.ev hx, ha.ev hy, eqGuard, binOp, Op.intArith, IntWalk.i64_in _ hb]
theorem Y_addw {x y : Operand} {t u : TypeId} {a b : Int} (hx : ev env x = some (.int .i64 a)) (hy : ev env y = some (.int .i64 b)) : Y P n ⟨some d, .binOp .add t x y u, ty, pos, af, none⟩ env (.int .i64 (IntKind.i64.wrap (a + b))) := fun c ha w => by
    simp [execOp, ha.ev hx, ha.ev hy, eqGuard, binOp, Op.intArith]
theorem Y_sub {x y : Operand} {t u : TypeId} {a b : Int} (hx : ev env x = some (.int .i64 a)) (hy : ev env y = some (.int .i64 b)) (hb : -9223372036854775808 ≤ a - b ∧ a - b ≤ 9223372036854775807) : Y P n ⟨some d, .binOp .sub t x y u, ty, pos, af, none⟩ env (.int .i64 (a - b)) := fun c ha w => by
    simp [execOp, ha.ev hx, ha.ev hy, eqGuard, binOp, Op.intArith, IntWalk.i64_in _ hb]
theorem Y_subw {x y : Operand} {t u : TypeId} {a b : Int} (hx : ev env x = some (.int .i64 a)) (hy : ev env y = some (.int .i64 b)) : Y P n ⟨some d, .binOp .sub t x y u, ty, pos, af, none⟩ env (.int .i64 (IntKind.i64.wrap (a - b))) := fun c ha w => by
    simp [execOp, ha.ev hx, ha.ev hy, eqGuard, binOp, Op.intArith]
theorem Y_mul {x y : Operand} {t u : TypeId} {a b : Int} (hx : ev env x = some (.int .i64 a)) (hy : ev env y = some (.int .i64 b)) (hb : -9223372036854775808 ≤ a * b ∧ a * b ≤ 9223372036854775807) : Y P n ⟨some d, .binOp .mul t x y u, ty, pos, af, none⟩ env (.int .i64 (a * b)) := fun c ha w => by
    simp [execOp, ha.ev hx, ha.ev hy, eqGuard, binOp, Op.intArith, IntWalk.i64_in _ hb]
theorem Y_mulw {x y : Operand} {t u : TypeId} {a b : Int} (hx : ev env x = some (.int .i64 a)) (hy : ev env y = some (.int .i64 b)) : Y P n ⟨some d, .binOp .mul t x y u, ty, pos, af, none⟩ env (.int .i64 (IntKind.i64.wrap (a * b))) := fun c ha w => by
    simp [execOp, ha.ev hx, ha.ev hy, eqGuard, binOp, Op.intArith]
theorem Y_quo {x y : Operand} {t u : TypeId} {a b : Int} (hx : ev env x = some (.int .i64 a)) (hy : ev env y = some (.int .i64 b)) (hb : 0 ≤ a ∧ a ≤ 9223372036854775807 ∧ 1 ≤ b) : Y P n ⟨some d, .binOp .quo t x y u, ty, pos, af, none⟩ env (.int .i64 (a / b)) := fun c ha w => by
    have h0 : b ≠ 0 := by omega
    simp [execOp, ha.ev hx, ha.ev hy, eqGuard, binOp, Op.intDiv, h0, IntWalk.i64_quo a b hb]
theorem Y_rem {x y : Operand} {t u : TypeId} {a b : Int} (hx : ev env x = some (.int .i64 a)) (hy : ev env y = some (.int .i64 b)) (hb : 0 ≤ a ∧ 1 ≤ b) : Y P n ⟨some d, .binOp .rem t x y u, ty, pos, af, none⟩ env (.int .i64 (a % b)) := fun c ha w => by
    have h0 : b ≠ 0 := by omega
    simp [execOp, ha.ev hx, ha.ev hy, eqGuard, binOp, Op.intDiv, h0, IntWalk.rem_in a b hb.1]
theorem Y_not {x : Operand} {t : TypeId} {b : Bool} (hx : ev env x = some (.bool b)) : Y P n ⟨some d, .unOp .not t x, ty, pos, af, none⟩ env (.bool (!b)) := fun c ha w => by
    simp [execOp, ha.ev hx, Op.unary]
theorem Y_extract {x : Operand} {i : Nat} {vs : Array Value} {v : Value} (hx : ev env x = some (.tuple vs)) (hv : vs[i]? = some v) : Y P n ⟨some d, .extract x i, ty, pos, af, none⟩ env (v) := fun c ha w => by
    simp [execOp, ha.ev hx, Instr.extract, hv]
theorem Y_nilc {x : Operand} {p : Addr} (hx : ev env x = some (.pointer (some p))) : Y P n ⟨some d, .nilCheck x, ty, pos, af, none⟩ env (.pointer (some p)) := fun c ha w => by
    simp [execOp, ha.ev hx]
theorem Y_max {x y : Operand} {ts : Array TypeId} {k : IntKind} {a b : Int} (hx : ev env x = some (.int k a)) (hy : ev env y = some (.int k b)) : Y P n ⟨some d, .call ⟨.builtin .max, #[x, y], ts⟩, ty, pos, af, none⟩ env (.int k (max a b)) := fun c ha w => by
    have e : (if b > a then b else a) = max a b := by simp only [Int.max_def]; split <;> split <;> omega
    simp only [execOp, resolve, invoke, builtin, Sem.run_bind, Sem.run_pure, Result.andThen_ok, List.map_toArray, List.map_cons, List.map_nil, ha.ev hx, ha.ev hy, Builtin.max_, Builtin.max2, List.foldlM_cons, List.foldlM_nil, bind_pure, e]
theorem Y_min {x y : Operand} {ts : Array TypeId} {k : IntKind} {a b : Int} (hx : ev env x = some (.int k a)) (hy : ev env y = some (.int k b)) : Y P n ⟨some d, .call ⟨.builtin .min, #[x, y], ts⟩, ty, pos, af, none⟩ env (.int k (min a b)) := fun c ha w => by
    have e : (if b < a then b else a) = min a b := by simp only [Int.min_def]; split <;> split <;> omega
    simp only [execOp, resolve, invoke, builtin, Sem.run_bind, Sem.run_pure, Result.andThen_ok, List.map_toArray, List.map_cons, List.map_nil, ha.ev hx, ha.ev hy, Builtin.min_, Builtin.min2, List.foldlM_cons, List.foldlM_nil, bind_pure, e]
theorem Y_eqlB {x y : Operand} {t u : TypeId} {a b : Bool} (hu : P.underlying t = some .bool) (hx : ev env x = some (.bool a)) (hy : ev env y = some (.bool b)) : Y P n ⟨some d, .binOp .eql t x y u, ty, pos, af, none⟩ env (.bool ((a == b))) := fun c ha w => by
    have e : ∀ w, (Op.equalIn 10000 t (.bool a) (.bool b)).run P w = .ok (a == b) w := fun w => run_equalIn_bool' w 9999 t a b hu
    simp only [execOp, ha.ev hx, ha.ev hy, eqGuard, binOp, Op.equal, Op.maxDepth]
    simp [e]
theorem Y_eqlS {x y : Operand} {t u : TypeId} {a b : Array Value} {c0 : Bool} (hm : P.eqGuardType P.depth t = false) (he : ∀ w, (Op.equalIn 10000 t (.agg a) (.agg b)).run P w = .ok c0 w) (hx : ev env x = some (.agg a)) (hy : ev env y = some (.agg b)) : Y P n ⟨some d, .binOp .eql t x y u, ty, pos, af, none⟩ env (.bool (c0)) := fun c ha w => by
    simp only [execOp, ha.ev hx, ha.ev hy, Sem.run_bind, run_eqGuard_agg _ _ _ _ _ _ _ hm, Result.andThen_ok, run_eql_struct, he, Sem.run_pure]
theorem Y_neqB {x y : Operand} {t u : TypeId} {a b : Bool} (hu : P.underlying t = some .bool) (hx : ev env x = some (.bool a)) (hy : ev env y = some (.bool b)) : Y P n ⟨some d, .binOp .neq t x y u, ty, pos, af, none⟩ env (.bool (!(a == b))) := fun c ha w => by
    have e : ∀ w, (Op.equalIn 10000 t (.bool a) (.bool b)).run P w = .ok (a == b) w := fun w => run_equalIn_bool' w 9999 t a b hu
    simp only [execOp, ha.ev hx, ha.ev hy, eqGuard, binOp, Op.equal, Op.maxDepth]
    simp [e]
theorem Y_neqS {x y : Operand} {t u : TypeId} {a b : Array Value} {c0 : Bool} (hm : P.eqGuardType P.depth t = false) (he : ∀ w, (Op.equalIn 10000 t (.agg a) (.agg b)).run P w = .ok c0 w) (hx : ev env x = some (.agg a)) (hy : ev env y = some (.agg b)) : Y P n ⟨some d, .binOp .neq t x y u, ty, pos, af, none⟩ env (.bool (!c0)) := fun c ha w => by
    simp only [execOp, ha.ev hx, ha.ev hy, Sem.run_bind, run_eqGuard_agg _ _ _ _ _ _ _ hm, Result.andThen_ok, run_neq_struct, he, Sem.run_pure]
theorem Y_neqBs {x y : Operand} {t u : TypeId} {a : Bool} (hu : P.underlying t = some .bool) (hx : ev env x = some (.bool a)) (hy : ev env y = some (.bool a)) : Y P n ⟨some d, .binOp .neq t x y u, ty, pos, af, none⟩ env (.bool false) := fun c ha w => by
    have e : ∀ w, (Op.equalIn 10000 t (.bool a) (.bool a)).run P w = .ok (a == a) w := fun w => run_equalIn_bool' w 9999 t a a hu
    simp only [execOp, ha.ev hx, ha.ev hy, eqGuard, binOp, Op.equal, Op.maxDepth]
    simp [e]
theorem Y_eqlNil {x : Operand} {t u e : TypeId} {p : Option Addr} {n0 c0 : Nat} (hu : P.underlying t = some (.slice e)) (hx : ev env x = some (.slice p n0 c0)) : Y P n ⟨some d, .binOp .eql t x (.const (.slice none 0 0)) u, ty, pos, af, none⟩ env (.bool (p.isNone)) := fun c ha w => by
    have e1 : ∀ w, (Op.equal t (.slice p n0 c0) (.slice none 0 0)).run P w = .ok p.isNone w := fun w => run_equal_slice_nil w t e p n0 c0 hu
    have e2 : c.eval (.const (.slice none 0 0)) = .slice none 0 0 := rfl
    simp only [execOp, ha.ev hx, e2, eqGuard, binOp]
    simp [e1]
theorem Y_neqNil {x : Operand} {t u e : TypeId} {p : Option Addr} {n0 c0 : Nat} (hu : P.underlying t = some (.slice e)) (hx : ev env x = some (.slice p n0 c0)) : Y P n ⟨some d, .binOp .neq t x (.const (.slice none 0 0)) u, ty, pos, af, none⟩ env (.bool (!p.isNone)) := fun c ha w => by
    have e1 : ∀ w, (Op.equal t (.slice p n0 c0) (.slice none 0 0)).run P w = .ok p.isNone w := fun w => run_equal_slice_nil w t e p n0 c0 hu
    have e2 : c.eval (.const (.slice none 0 0)) = .slice none 0 0 := rfl
    simp only [execOp, ha.ev hx, e2, eqGuard, binOp]
    simp [e1]
theorem LW_move {x : Operand} {v : Value} (hx : ev env x = some v) (next : LW P n ops rest Q ((d, v) :: env) w) (hd : Nat.blt d n = true := by rfl) : LW P n ops (⟨some d, .move x, ty, pos, af, none⟩ :: rest) Q env w := LW_y (Y_move hx) next hd
theorem QW_move {x : Operand} {v : Value} (hx : ev env x = some v) (next : QW P n ops rest w J ((d, v) :: env)) (hd : Nat.blt d n = true := by rfl) : QW P n ops (⟨some d, .move x, ty, pos, af, none⟩ :: rest) w J env := QW_y (Y_move hx) next hd
theorem LW_assign {x : Operand} {v : Value} (hx : ev env x = some v) (next : LW P n ops rest Q ((d, v) :: env) w) (hd : Nat.blt d n = true := by rfl) : LW P n ops (⟨some d, .assign x, ty, pos, af, none⟩ :: rest) Q env w := LW_y (Y_assign hx) next hd
theorem QW_assign {x : Operand} {v : Value} (hx : ev env x = some v) (next : QW P n ops rest w J ((d, v) :: env)) (hd : Nat.blt d n = true := by rfl) : QW P n ops (⟨some d, .assign x, ty, pos, af, none⟩ :: rest) w J env := QW_y (Y_assign hx) next hd
theorem LW_pickT {c x y : Operand} {v : Value} (hc : ev env c = some (.bool true)) (hx : ev env x = some v) (next : LW P n ops rest Q ((d, v) :: env) w) (hd : Nat.blt d n = true := by rfl) : LW P n ops (⟨some d, .pick c x y, ty, pos, af, none⟩ :: rest) Q env w := LW_y (Y_pickT hc hx) next hd
theorem QW_pickT {c x y : Operand} {v : Value} (hc : ev env c = some (.bool true)) (hx : ev env x = some v) (next : QW P n ops rest w J ((d, v) :: env)) (hd : Nat.blt d n = true := by rfl) : QW P n ops (⟨some d, .pick c x y, ty, pos, af, none⟩ :: rest) w J env := QW_y (Y_pickT hc hx) next hd
theorem LW_pickF {c x y : Operand} {v : Value} (hc : ev env c = some (.bool false)) (hx : ev env y = some v) (next : LW P n ops rest Q ((d, v) :: env) w) (hd : Nat.blt d n = true := by rfl) : LW P n ops (⟨some d, .pick c x y, ty, pos, af, none⟩ :: rest) Q env w := LW_y (Y_pickF hc hx) next hd
theorem QW_pickF {c x y : Operand} {v : Value} (hc : ev env c = some (.bool false)) (hx : ev env y = some v) (next : QW P n ops rest w J ((d, v) :: env)) (hd : Nat.blt d n = true := by rfl) : QW P n ops (⟨some d, .pick c x y, ty, pos, af, none⟩ :: rest) w J env := QW_y (Y_pickF hc hx) next hd
theorem LW_add {x y : Operand} {t u : TypeId} {a b : Int} (hx : ev env x = some (.int .i64 a)) (hy : ev env y = some (.int .i64 b)) (hb : -9223372036854775808 ≤ a + b ∧ a + b ≤ 9223372036854775807) (next : LW P n ops rest Q ((d, .int .i64 (a + b)) :: env) w) (hd : Nat.blt d n = true := by rfl) : LW P n ops (⟨some d, .binOp .add t x y u, ty, pos, af, none⟩ :: rest) Q env w := LW_y (Y_add hx hy hb) next hd
theorem QW_add {x y : Operand} {t u : TypeId} {a b : Int} (hx : ev env x = some (.int .i64 a)) (hy : ev env y = some (.int .i64 b)) (hb : -9223372036854775808 ≤ a + b ∧ a + b ≤ 9223372036854775807) (next : QW P n ops rest w J ((d, .int .i64 (a + b)) :: env)) (hd : Nat.blt d n = true := by rfl) : QW P n ops (⟨some d, .binOp .add t x y u, ty, pos, af, none⟩ :: rest) w J env := QW_y (Y_add hx hy hb) next hd
theorem LW_addw {x y : Operand} {t u : TypeId} {a b : Int} (hx : ev env x = some (.int .i64 a)) (hy : ev env y = some (.int .i64 b)) (next : LW P n ops rest Q ((d, .int .i64 (IntKind.i64.wrap (a + b))) :: env) w) (hd : Nat.blt d n = true := by rfl) : LW P n ops (⟨some d, .binOp .add t x y u, ty, pos, af, none⟩ :: rest) Q env w := LW_y (Y_addw hx hy) next hd
theorem QW_addw {x y : Operand} {t u : TypeId} {a b : Int} (hx : ev env x = some (.int .i64 a)) (hy : ev env y = some (.int .i64 b)) (next : QW P n ops rest w J ((d, .int .i64 (IntKind.i64.wrap (a + b))) :: env)) (hd : Nat.blt d n = true := by rfl) : QW P n ops (⟨some d, .binOp .add t x y u, ty, pos, af, none⟩ :: rest) w J env := QW_y (Y_addw hx hy) next hd
theorem LW_sub {x y : Operand} {t u : TypeId} {a b : Int} (hx : ev env x = some (.int .i64 a)) (hy : ev env y = some (.int .i64 b)) (hb : -9223372036854775808 ≤ a - b ∧ a - b ≤ 9223372036854775807) (next : LW P n ops rest Q ((d, .int .i64 (a - b)) :: env) w) (hd : Nat.blt d n = true := by rfl) : LW P n ops (⟨some d, .binOp .sub t x y u, ty, pos, af, none⟩ :: rest) Q env w := LW_y (Y_sub hx hy hb) next hd
theorem QW_sub {x y : Operand} {t u : TypeId} {a b : Int} (hx : ev env x = some (.int .i64 a)) (hy : ev env y = some (.int .i64 b)) (hb : -9223372036854775808 ≤ a - b ∧ a - b ≤ 9223372036854775807) (next : QW P n ops rest w J ((d, .int .i64 (a - b)) :: env)) (hd : Nat.blt d n = true := by rfl) : QW P n ops (⟨some d, .binOp .sub t x y u, ty, pos, af, none⟩ :: rest) w J env := QW_y (Y_sub hx hy hb) next hd
theorem LW_subw {x y : Operand} {t u : TypeId} {a b : Int} (hx : ev env x = some (.int .i64 a)) (hy : ev env y = some (.int .i64 b)) (next : LW P n ops rest Q ((d, .int .i64 (IntKind.i64.wrap (a - b))) :: env) w) (hd : Nat.blt d n = true := by rfl) : LW P n ops (⟨some d, .binOp .sub t x y u, ty, pos, af, none⟩ :: rest) Q env w := LW_y (Y_subw hx hy) next hd
theorem QW_subw {x y : Operand} {t u : TypeId} {a b : Int} (hx : ev env x = some (.int .i64 a)) (hy : ev env y = some (.int .i64 b)) (next : QW P n ops rest w J ((d, .int .i64 (IntKind.i64.wrap (a - b))) :: env)) (hd : Nat.blt d n = true := by rfl) : QW P n ops (⟨some d, .binOp .sub t x y u, ty, pos, af, none⟩ :: rest) w J env := QW_y (Y_subw hx hy) next hd
theorem LW_mul {x y : Operand} {t u : TypeId} {a b : Int} (hx : ev env x = some (.int .i64 a)) (hy : ev env y = some (.int .i64 b)) (hb : -9223372036854775808 ≤ a * b ∧ a * b ≤ 9223372036854775807) (next : LW P n ops rest Q ((d, .int .i64 (a * b)) :: env) w) (hd : Nat.blt d n = true := by rfl) : LW P n ops (⟨some d, .binOp .mul t x y u, ty, pos, af, none⟩ :: rest) Q env w := LW_y (Y_mul hx hy hb) next hd
theorem QW_mul {x y : Operand} {t u : TypeId} {a b : Int} (hx : ev env x = some (.int .i64 a)) (hy : ev env y = some (.int .i64 b)) (hb : -9223372036854775808 ≤ a * b ∧ a * b ≤ 9223372036854775807) (next : QW P n ops rest w J ((d, .int .i64 (a * b)) :: env)) (hd : Nat.blt d n = true := by rfl) : QW P n ops (⟨some d, .binOp .mul t x y u, ty, pos, af, none⟩ :: rest) w J env := QW_y (Y_mul hx hy hb) next hd
theorem LW_mulw {x y : Operand} {t u : TypeId} {a b : Int} (hx : ev env x = some (.int .i64 a)) (hy : ev env y = some (.int .i64 b)) (next : LW P n ops rest Q ((d, .int .i64 (IntKind.i64.wrap (a * b))) :: env) w) (hd : Nat.blt d n = true := by rfl) : LW P n ops (⟨some d, .binOp .mul t x y u, ty, pos, af, none⟩ :: rest) Q env w := LW_y (Y_mulw hx hy) next hd
theorem QW_mulw {x y : Operand} {t u : TypeId} {a b : Int} (hx : ev env x = some (.int .i64 a)) (hy : ev env y = some (.int .i64 b)) (next : QW P n ops rest w J ((d, .int .i64 (IntKind.i64.wrap (a * b))) :: env)) (hd : Nat.blt d n = true := by rfl) : QW P n ops (⟨some d, .binOp .mul t x y u, ty, pos, af, none⟩ :: rest) w J env := QW_y (Y_mulw hx hy) next hd
theorem LW_quo {x y : Operand} {t u : TypeId} {a b : Int} (hx : ev env x = some (.int .i64 a)) (hy : ev env y = some (.int .i64 b)) (hb : 0 ≤ a ∧ a ≤ 9223372036854775807 ∧ 1 ≤ b) (next : LW P n ops rest Q ((d, .int .i64 (a / b)) :: env) w) (hd : Nat.blt d n = true := by rfl) : LW P n ops (⟨some d, .binOp .quo t x y u, ty, pos, af, none⟩ :: rest) Q env w := LW_y (Y_quo hx hy hb) next hd
theorem QW_quo {x y : Operand} {t u : TypeId} {a b : Int} (hx : ev env x = some (.int .i64 a)) (hy : ev env y = some (.int .i64 b)) (hb : 0 ≤ a ∧ a ≤ 9223372036854775807 ∧ 1 ≤ b) (next : QW P n ops rest w J ((d, .int .i64 (a / b)) :: env)) (hd : Nat.blt d n = true := by rfl) : QW P n ops (⟨some d, .binOp .quo t x y u, ty, pos, af, none⟩ :: rest) w J env := QW_y (Y_quo hx hy hb) next hd
theorem LW_rem {x y : Operand} {t u : TypeId} {a b : Int} (hx : ev env x = some (.int .i64 a)) (hy : ev env y = some (.int .i64 b)) (hb : 0 ≤ a ∧ 1 ≤ b) (next : LW P n ops rest Q ((d, .int .i64 (a % b)) :: env) w) (hd : Nat.blt d n = true := by rfl) : LW P n ops (⟨some d, .binOp .rem t x y u, ty, pos, af, none⟩ :: rest) Q env w := LW_y (Y_rem hx hy hb) next hd
theorem QW_rem {x y : Operand} {t u : TypeId} {a b : Int} (hx : ev env x = some (.int .i64 a)) (hy : ev env y = some (.int .i64 b)) (hb : 0 ≤ a ∧ 1 ≤ b) (next : QW P n ops rest w J ((d, .int .i64 (a % b)) :: env)) (hd : Nat.blt d n = true := by rfl) : QW P n ops (⟨some d, .binOp .rem t x y u, ty, pos, af, none⟩ :: rest) w J env := QW_y (Y_rem hx hy hb) next hd
theorem LW_not {x : Operand} {t : TypeId} {b : Bool} (hx : ev env x = some (.bool b)) (next : LW P n ops rest Q ((d, .bool (!b)) :: env) w) (hd : Nat.blt d n = true := by rfl) : LW P n ops (⟨some d, .unOp .not t x, ty, pos, af, none⟩ :: rest) Q env w := LW_y (Y_not hx) next hd
theorem QW_not {x : Operand} {t : TypeId} {b : Bool} (hx : ev env x = some (.bool b)) (next : QW P n ops rest w J ((d, .bool (!b)) :: env)) (hd : Nat.blt d n = true := by rfl) : QW P n ops (⟨some d, .unOp .not t x, ty, pos, af, none⟩ :: rest) w J env := QW_y (Y_not hx) next hd
theorem LW_extract {x : Operand} {i : Nat} {vs : Array Value} {v : Value} (hx : ev env x = some (.tuple vs)) (hv : vs[i]? = some v) (next : LW P n ops rest Q ((d, v) :: env) w) (hd : Nat.blt d n = true := by rfl) : LW P n ops (⟨some d, .extract x i, ty, pos, af, none⟩ :: rest) Q env w := LW_y (Y_extract hx hv) next hd
theorem QW_extract {x : Operand} {i : Nat} {vs : Array Value} {v : Value} (hx : ev env x = some (.tuple vs)) (hv : vs[i]? = some v) (next : QW P n ops rest w J ((d, v) :: env)) (hd : Nat.blt d n = true := by rfl) : QW P n ops (⟨some d, .extract x i, ty, pos, af, none⟩ :: rest) w J env := QW_y (Y_extract hx hv) next hd
theorem LW_nilc {x : Operand} {p : Addr} (hx : ev env x = some (.pointer (some p))) (next : LW P n ops rest Q ((d, .pointer (some p)) :: env) w) (hd : Nat.blt d n = true := by rfl) : LW P n ops (⟨some d, .nilCheck x, ty, pos, af, none⟩ :: rest) Q env w := LW_y (Y_nilc hx) next hd
theorem QW_nilc {x : Operand} {p : Addr} (hx : ev env x = some (.pointer (some p))) (next : QW P n ops rest w J ((d, .pointer (some p)) :: env)) (hd : Nat.blt d n = true := by rfl) : QW P n ops (⟨some d, .nilCheck x, ty, pos, af, none⟩ :: rest) w J env := QW_y (Y_nilc hx) next hd
theorem LW_max {x y : Operand} {ts : Array TypeId} {k : IntKind} {a b : Int} (hx : ev env x = some (.int k a)) (hy : ev env y = some (.int k b)) (next : LW P n ops rest Q ((d, .int k (max a b)) :: env) w) (hd : Nat.blt d n = true := by rfl) : LW P n ops (⟨some d, .call ⟨.builtin .max, #[x, y], ts⟩, ty, pos, af, none⟩ :: rest) Q env w := LW_y (Y_max hx hy) next hd
theorem QW_max {x y : Operand} {ts : Array TypeId} {k : IntKind} {a b : Int} (hx : ev env x = some (.int k a)) (hy : ev env y = some (.int k b)) (next : QW P n ops rest w J ((d, .int k (max a b)) :: env)) (hd : Nat.blt d n = true := by rfl) : QW P n ops (⟨some d, .call ⟨.builtin .max, #[x, y], ts⟩, ty, pos, af, none⟩ :: rest) w J env := QW_y (Y_max hx hy) next hd
theorem LW_min {x y : Operand} {ts : Array TypeId} {k : IntKind} {a b : Int} (hx : ev env x = some (.int k a)) (hy : ev env y = some (.int k b)) (next : LW P n ops rest Q ((d, .int k (min a b)) :: env) w) (hd : Nat.blt d n = true := by rfl) : LW P n ops (⟨some d, .call ⟨.builtin .min, #[x, y], ts⟩, ty, pos, af, none⟩ :: rest) Q env w := LW_y (Y_min hx hy) next hd
theorem QW_min {x y : Operand} {ts : Array TypeId} {k : IntKind} {a b : Int} (hx : ev env x = some (.int k a)) (hy : ev env y = some (.int k b)) (next : QW P n ops rest w J ((d, .int k (min a b)) :: env)) (hd : Nat.blt d n = true := by rfl) : QW P n ops (⟨some d, .call ⟨.builtin .min, #[x, y], ts⟩, ty, pos, af, none⟩ :: rest) w J env := QW_y (Y_min hx hy) next hd
theorem LW_eqlB {x y : Operand} {t u : TypeId} {a b : Bool} (hu : P.underlying t = some .bool) (hx : ev env x = some (.bool a)) (hy : ev env y = some (.bool b)) (next : LW P n ops rest Q ((d, .bool ((a == b))) :: env) w) (hd : Nat.blt d n = true := by rfl) : LW P n ops (⟨some d, .binOp .eql t x y u, ty, pos, af, none⟩ :: rest) Q env w := LW_y (Y_eqlB hu hx hy) next hd
theorem QW_eqlB {x y : Operand} {t u : TypeId} {a b : Bool} (hu : P.underlying t = some .bool) (hx : ev env x = some (.bool a)) (hy : ev env y = some (.bool b)) (next : QW P n ops rest w J ((d, .bool ((a == b))) :: env)) (hd : Nat.blt d n = true := by rfl) : QW P n ops (⟨some d, .binOp .eql t x y u, ty, pos, af, none⟩ :: rest) w J env := QW_y (Y_eqlB hu hx hy) next hd
theorem LW_eqlS {x y : Operand} {t u : TypeId} {a b : Array Value} {c0 : Bool} (hm : P.eqGuardType P.depth t = false) (he : ∀ w, (Op.equalIn 10000 t (.agg a) (.agg b)).run P w = .ok c0 w) (hx : ev env x = some (.agg a)) (hy : ev env y = some (.agg b)) (next : LW P n ops rest Q ((d, .bool (c0)) :: env) w) (hd : Nat.blt d n = true := by rfl) : LW P n ops (⟨some d, .binOp .eql t x y u, ty, pos, af, none⟩ :: rest) Q env w := LW_y (Y_eqlS hm he hx hy) next hd
theorem QW_eqlS {x y : Operand} {t u : TypeId} {a b : Array Value} {c0 : Bool} (hm : P.eqGuardType P.depth t = false) (he : ∀ w, (Op.equalIn 10000 t (.agg a) (.agg b)).run P w = .ok c0 w) (hx : ev env x = some (.agg a)) (hy : ev env y = some (.agg b)) (next : QW P n ops rest w J ((d, .bool (c0)) :: env)) (hd : Nat.blt d n = true := by rfl) : QW P n ops (⟨some d, .binOp .eql t x y u, ty, pos, af, none⟩ :: rest) w J env := QW_y (Y_eqlS hm he hx hy) next hd
theorem LW_neqB {x y : Operand} {t u : TypeId} {a b : Bool} (hu : P.underlying t = some .bool) (hx : ev env x = some (.bool a)) (hy : ev env y = some (.bool b)) (next : LW P n ops rest Q ((d, .bool (!(a == b))) :: env) w) (hd : Nat.blt d n = true := by rfl) : LW P n ops (⟨some d, .binOp .neq t x y u, ty, pos, af, none⟩ :: rest) Q env w := LW_y (Y_neqB hu hx hy) next hd
theorem QW_neqB {x y : Operand} {t u : TypeId} {a b : Bool} (hu : P.underlying t = some .bool) (hx : ev env x = some (.bool a)) (hy : ev env y = some (.bool b)) (next : QW P n ops rest w J ((d, .bool (!(a == b))) :: env)) (hd : Nat.blt d n = true := by rfl) : QW P n ops (⟨some d, .binOp .neq t x y u, ty, pos, af, none⟩ :: rest) w J env := QW_y (Y_neqB hu hx hy) next hd
theorem LW_neqS {x y : Operand} {t u : TypeId} {a b : Array Value} {c0 : Bool} (hm : P.eqGuardType P.depth t = false) (he : ∀ w, (Op.equalIn 10000 t (.agg a) (.agg b)).run P w = .ok c0 w) (hx : ev env x = some (.agg a)) (hy : ev env y = some (.agg b)) (next : LW P n ops rest Q ((d, .bool (!c0)) :: env) w) (hd : Nat.blt d n = true := by rfl) : LW P n ops (⟨some d, .binOp .neq t x y u, ty, pos, af, none⟩ :: rest) Q env w := LW_y (Y_neqS hm he hx hy) next hd
theorem QW_neqS {x y : Operand} {t u : TypeId} {a b : Array Value} {c0 : Bool} (hm : P.eqGuardType P.depth t = false) (he : ∀ w, (Op.equalIn 10000 t (.agg a) (.agg b)).run P w = .ok c0 w) (hx : ev env x = some (.agg a)) (hy : ev env y = some (.agg b)) (next : QW P n ops rest w J ((d, .bool (!c0)) :: env)) (hd : Nat.blt d n = true := by rfl) : QW P n ops (⟨some d, .binOp .neq t x y u, ty, pos, af, none⟩ :: rest) w J env := QW_y (Y_neqS hm he hx hy) next hd
theorem LW_neqBs {x y : Operand} {t u : TypeId} {a : Bool} (hu : P.underlying t = some .bool) (hx : ev env x = some (.bool a)) (hy : ev env y = some (.bool a)) (next : LW P n ops rest Q ((d, .bool false) :: env) w) (hd : Nat.blt d n = true := by rfl) : LW P n ops (⟨some d, .binOp .neq t x y u, ty, pos, af, none⟩ :: rest) Q env w := LW_y (Y_neqBs hu hx hy) next hd
theorem QW_neqBs {x y : Operand} {t u : TypeId} {a : Bool} (hu : P.underlying t = some .bool) (hx : ev env x = some (.bool a)) (hy : ev env y = some (.bool a)) (next : QW P n ops rest w J ((d, .bool false) :: env)) (hd : Nat.blt d n = true := by rfl) : QW P n ops (⟨some d, .binOp .neq t x y u, ty, pos, af, none⟩ :: rest) w J env := QW_y (Y_neqBs hu hx hy) next hd
theorem LW_eqlNil {x : Operand} {t u e : TypeId} {p : Option Addr} {n0 c0 : Nat} (hu : P.underlying t = some (.slice e)) (hx : ev env x = some (.slice p n0 c0)) (next : LW P n ops rest Q ((d, .bool (p.isNone)) :: env) w) (hd : Nat.blt d n = true := by rfl) : LW P n ops (⟨some d, .binOp .eql t x (.const (.slice none 0 0)) u, ty, pos, af, none⟩ :: rest) Q env w := LW_y (Y_eqlNil hu hx) next hd
theorem QW_eqlNil {x : Operand} {t u e : TypeId} {p : Option Addr} {n0 c0 : Nat} (hu : P.underlying t = some (.slice e)) (hx : ev env x = some (.slice p n0 c0)) (next : QW P n ops rest w J ((d, .bool (p.isNone)) :: env)) (hd : Nat.blt d n = true := by rfl) : QW P n ops (⟨some d, .binOp .eql t x (.const (.slice none 0 0)) u, ty, pos, af, none⟩ :: rest) w J env := QW_y (Y_eqlNil hu hx) next hd
theorem LW_neqNil {x : Operand} {t u e : TypeId} {p : Option Addr} {n0 c0 : Nat} (hu : P.underlying t = some (.slice e)) (hx : ev env x = some (.slice p n0 c0)) (next : LW P n ops rest Q ((d, .bool (!p.isNone)) :: env) w) (hd : Nat.blt d n = true := by rfl) : LW P n ops (⟨some d, .binOp .neq t x (.const (.slice none 0 0)) u, ty, pos, af, none⟩ :: rest) Q env w := LW_y (Y_neqNil hu hx) next hd
theorem QW_neqNil {x : Operand} {t u e : TypeId} {p : Option Addr} {n0 c0 : Nat} (hu : P.underlying t = some (.slice e)) (hx : ev env x = some (.slice p n0 c0)) (next : QW P n ops rest w J ((d, .bool (!p.isNone)) :: env)) (hd : Nat.blt d n = true := by rfl) : QW P n ops (⟨some d, .binOp .neq t x (.const (.slice none 0 0)) u, ty, pos, af, none⟩ :: rest) w J env := QW_y (Y_neqNil hu hx) next hd
theorem Y_lssT {k : IntKind} {x y : Operand} {t u : TypeId} {a b : Int} (hx : ev env x = some (.int k a)) (hy : ev env y = some (.int k b)) (h : a < b) : Y P n ⟨some d, .binOp .lss t x y u, ty, pos, af, none⟩ env (.bool true) := fun c ha w => by
    simp [execOp, ha.ev hx, ha.ev hy, eqGuard, binOp, Op.intCmp, h]
theorem Y_lssF {k : IntKind} {x y : Operand} {t u : TypeId} {a b : Int} (hx : ev env x = some (.int k a)) (hy : ev env y = some (.int k b)) (h : ¬ (a < b)) : Y P n ⟨some d, .binOp .lss t x y u, ty, pos, af, none⟩ env (.bool false) := fun c ha w => by
    simp [execOp, ha.ev hx, ha.ev hy, eqGuard, binOp, Op.intCmp]; omega
theorem LW_lss {k : IntKind} {x y : Operand} {t u : TypeId} {a b : Int} (hx : ev env x = some (.int k a)) (hy : ev env y = some (.int k b)) (ht : a < b → LW P n ops rest Q ((d, .bool true) :: env) w)
    (hf : ¬ a < b → LW P n ops rest Q ((d, .bool false) :: env) w) (hd : Nat.blt d n = true := by rfl) : LW P n ops (⟨some d, .binOp .lss t x y u, ty, pos, af, none⟩ :: rest) Q env w := by
  by_cases h : a < b
  · exact LW_y (Y_lssT hx hy h) (ht h) hd
  · exact LW_y (Y_lssF hx hy h) (hf (h)) hd
theorem QW_lss {k : IntKind} {x y : Operand} {t u : TypeId} {a b : Int} (hx : ev env x = some (.int k a)) (hy : ev env y = some (.int k b)) (ht : a < b → QW P n ops rest w J ((d, .bool true) :: env))
    (hf : ¬ a < b → QW P n ops rest w J ((d, .bool false) :: env)) (hd : Nat.blt d n = true := by rfl) : QW P n ops (⟨some d, .binOp .lss t x y u, ty, pos, af, none⟩ :: rest) w J env := by
  by_cases h : a < b
  · exact QW_y (Y_lssT hx hy h) (ht h) hd
  · exact QW_y (Y_lssF hx hy h) (hf (h)) hd
theorem Y_leqT {k : IntKind} {x y : Operand} {t u : TypeId} {a b : Int} (hx : ev env x = some (.int k a)) (hy : ev env y = some (.int k b)) (h : a ≤ b) : Y P n ⟨some d, .binOp .leq t x y u, ty, pos, af, none⟩ env (.bool true) := fun c ha w => by
    simp [execOp, ha.ev hx, ha.ev hy, eqGuard, binOp, Op.intCmp, h]
theorem Y_leqF {k : IntKind} {x y : Operand} {t u : TypeId} {a b : Int} (hx : ev env x = some (.int k a)) (hy : ev env y = some (.int k b)) (h : ¬ (a ≤ b)) : Y P n ⟨some d, .binOp .leq t x y u, ty, pos, af, none⟩ env (.bool false) := fun c ha w => by
    simp [execOp, ha.ev hx, ha.ev hy, eqGuard, binOp, Op.intCmp]; omega
theorem LW_leq {k : IntKind} {x y : Operand} {t u : TypeId} {a b : Int} (hx : ev env x = some (.int k a)) (hy : ev env y = some (.int k b)) (ht : a ≤ b → LW P n ops rest Q ((d, .bool true) :: env) w)
    (hf : ¬ a ≤ b → LW P n ops rest Q ((d, .bool false) :: env) w) (hd : Nat.blt d n = true := by rfl) : LW P n ops (⟨some d, .binOp .leq t x y u, ty, pos, af, none⟩ :: rest) Q env w := by
  by_cases h : a ≤ b
  · exact LW_y (Y_leqT hx hy h) (ht h) hd
  · exact LW_y (Y_leqF hx hy h) (hf (h)) hd
theorem QW_leq {k : IntKind} {x y : Operand} {t u : TypeId} {a b : Int} (hx : ev env x = some (.int k a)) (hy : ev env y = some (.int k b)) (ht : a ≤ b → QW P n ops rest w J ((d, .bool true) :: env))
    (hf : ¬ a ≤ b → QW P n ops rest w J ((d, .bool false) :: env)) (hd : Nat.blt d n = true := by rfl) : QW P n ops (⟨some d, .binOp .leq t x y u, ty, pos, af, none⟩ :: rest) w J env := by
  by_cases h : a ≤ b
  · exact QW_y (Y_leqT hx hy h) (ht h) hd
  · exact QW_y (Y_leqF hx hy h) (hf (h)) hd
theorem Y_gtrT {k : IntKind} {x y : Operand} {t u : TypeId} {a b : Int} (hx : ev env x = some (.int k a)) (hy : ev env y = some (.int k b)) (h : b < a) : Y P n ⟨some d, .binOp .gtr t x y u, ty, pos, af, none⟩ env (.bool true) := fun c ha w => by
    simp [execOp, ha.ev hx, ha.ev hy, eqGuard, binOp, Op.intCmp, h]
theorem Y_gtrF {k : IntKind} {x y : Operand} {t u : TypeId} {a b : Int} (hx : ev env x = some (.int k a)) (hy : ev env y = some (.int k b)) (h : ¬ (b < a)) : Y P n ⟨some d, .binOp .gtr t x y u, ty, pos, af, none⟩ env (.bool false) := fun c ha w => by
    simp [execOp, ha.ev hx, ha.ev hy, eqGuard, binOp, Op.intCmp]; omega
theorem LW_gtr {k : IntKind} {x y : Operand} {t u : TypeId} {a b : Int} (hx : ev env x = some (.int k a)) (hy : ev env y = some (.int k b)) (ht : b < a → LW P n ops rest Q ((d, .bool true) :: env) w)
    (hf : ¬ b < a → LW P n ops rest Q ((d, .bool false) :: env) w) (hd : Nat.blt d n = true := by rfl) : LW P n ops (⟨some d, .binOp .gtr t x y u, ty, pos, af, none⟩ :: rest) Q env w := by
  by_cases h : b < a
  · exact LW_y (Y_gtrT hx hy h) (ht h) hd
  · exact LW_y (Y_gtrF hx hy h) (hf (h)) hd
theorem QW_gtr {k : IntKind} {x y : Operand} {t u : TypeId} {a b : Int} (hx : ev env x = some (.int k a)) (hy : ev env y = some (.int k b)) (ht : b < a → QW P n ops rest w J ((d, .bool true) :: env))
    (hf : ¬ b < a → QW P n ops rest w J ((d, .bool false) :: env)) (hd : Nat.blt d n = true := by rfl) : QW P n ops (⟨some d, .binOp .gtr t x y u, ty, pos, af, none⟩ :: rest) w J env := by
  by_cases h : b < a
  · exact QW_y (Y_gtrT hx hy h) (ht h) hd
  · exact QW_y (Y_gtrF hx hy h) (hf (h)) hd
theorem Y_geqT {k : IntKind} {x y : Operand} {t u : TypeId} {a b : Int} (hx : ev env x = some (.int k a)) (hy : ev env y = some (.int k b)) (h : b ≤ a) : Y P n ⟨some d, .binOp .geq t x y u, ty, pos, af, none⟩ env (.bool true) := fun c ha w => by
    simp [execOp, ha.ev hx, ha.ev hy, eqGuard, binOp, Op.intCmp, h]
theorem Y_geqF {k : IntKind} {x y : Operand} {t u : TypeId} {a b : Int} (hx : ev env x = some (.int k a)) (hy : ev env y = some (.int k b)) (h : ¬ (b ≤ a)) : Y P n ⟨some d, .binOp .geq t x y u, ty, pos, af, none⟩ env (.bool false) := fun c ha w => by
    simp [execOp, ha.ev hx, ha.ev hy, eqGuard, binOp, Op.intCmp]; omega
theorem LW_geq {k : IntKind} {x y : Operand} {t u : TypeId} {a b : Int} (hx : ev env x = some (.int k a)) (hy : ev env y = some (.int k b)) (ht : b ≤ a → LW P n ops rest Q ((d, .bool true) :: env) w)
    (hf : ¬ b ≤ a → LW P n ops rest Q ((d, .bool false) :: env) w) (hd : Nat.blt d n = true := by rfl) : LW P n ops (⟨some d, .binOp .geq t x y u, ty, pos, af, none⟩ :: rest) Q env w := by
  by_cases h : b ≤ a
  · exact LW_y (Y_geqT hx hy h) (ht h) hd
  · exact LW_y (Y_geqF hx hy h) (hf (h)) hd
theorem QW_geq {k : IntKind} {x y : Operand} {t u : TypeId} {a b : Int} (hx : ev env x = some (.int k a)) (hy : ev env y = some (.int k b)) (ht : b ≤ a → QW P n ops rest w J ((d, .bool true) :: env))
    (hf : ¬ b ≤ a → QW P n ops rest w J ((d, .bool false) :: env)) (hd : Nat.blt d n = true := by rfl) : QW P n ops (⟨some d, .binOp .geq t x y u, ty, pos, af, none⟩ :: rest) w J env := by
  by_cases h : b ≤ a
  · exact QW_y (Y_geqT hx hy h) (ht h) hd
  · exact QW_y (Y_geqF hx hy h) (hf (h)) hd
theorem Y_eqlT {k : IntKind} {x y : Operand} {t u : TypeId} {a b : Int} (hx : ev env x = some (.int k a)) (hy : ev env y = some (.int k b)) (h : a = b) : Y P n ⟨some d, .binOp .eql t x y u, ty, pos, af, none⟩ env (.bool true) := fun c ha w => by
    simp [execOp, ha.ev hx, ha.ev hy, eqGuard, binOp, Op.intCmp, h]
theorem Y_eqlF {k : IntKind} {x y : Operand} {t u : TypeId} {a b : Int} (hx : ev env x = some (.int k a)) (hy : ev env y = some (.int k b)) (h : ¬ (a = b)) : Y P n ⟨some d, .binOp .eql t x y u, ty, pos, af, none⟩ env (.bool false) := fun c ha w => by
    simp [execOp, ha.ev hx, ha.ev hy, eqGuard, binOp, Op.intCmp]; exact h
theorem LW_eql {k : IntKind} {x y : Operand} {t u : TypeId} {a b : Int} (hx : ev env x = some (.int k a)) (hy : ev env y = some (.int k b)) (ht : a = b → LW P n ops rest Q ((d, .bool true) :: env) w)
    (hf : a ≠ b → LW P n ops rest Q ((d, .bool false) :: env) w) (hd : Nat.blt d n = true := by rfl) : LW P n ops (⟨some d, .binOp .eql t x y u, ty, pos, af, none⟩ :: rest) Q env w := by
  by_cases h : a = b
  · exact LW_y (Y_eqlT hx hy h) (ht h) hd
  · exact LW_y (Y_eqlF hx hy h) (hf (h)) hd
theorem QW_eql {k : IntKind} {x y : Operand} {t u : TypeId} {a b : Int} (hx : ev env x = some (.int k a)) (hy : ev env y = some (.int k b)) (ht : a = b → QW P n ops rest w J ((d, .bool true) :: env))
    (hf : a ≠ b → QW P n ops rest w J ((d, .bool false) :: env)) (hd : Nat.blt d n = true := by rfl) : QW P n ops (⟨some d, .binOp .eql t x y u, ty, pos, af, none⟩ :: rest) w J env := by
  by_cases h : a = b
  · exact QW_y (Y_eqlT hx hy h) (ht h) hd
  · exact QW_y (Y_eqlF hx hy h) (hf (h)) hd
theorem Y_neqT {k : IntKind} {x y : Operand} {t u : TypeId} {a b : Int} (hx : ev env x = some (.int k a)) (hy : ev env y = some (.int k b)) (h : a ≠ b) : Y P n ⟨some d, .binOp .neq t x y u, ty, pos, af, none⟩ env (.bool true) := fun c ha w => by
    simp [execOp, ha.ev hx, ha.ev hy, eqGuard, binOp, Op.intCmp, h]
theorem Y_neqF {k : IntKind} {x y : Operand} {t u : TypeId} {a b : Int} (hx : ev env x = some (.int k a)) (hy : ev env y = some (.int k b)) (h : ¬ (a ≠ b)) : Y P n ⟨some d, .binOp .neq t x y u, ty, pos, af, none⟩ env (.bool false) := fun c ha w => by
    simp [execOp, ha.ev hx, ha.ev hy, eqGuard, binOp, Op.intCmp]; omega
theorem LW_neq {k : IntKind} {x y : Operand} {t u : TypeId} {a b : Int} (hx : ev env x = some (.int k a)) (hy : ev env y = some (.int k b)) (ht : a ≠ b → LW P n ops rest Q ((d, .bool true) :: env) w)
    (hf : a = b → LW P n ops rest Q ((d, .bool false) :: env) w) (hd : Nat.blt d n = true := by rfl) : LW P n ops (⟨some d, .binOp .neq t x y u, ty, pos, af, none⟩ :: rest) Q env w := by
  by_cases h : a ≠ b
  · exact LW_y (Y_neqT hx hy h) (ht h) hd
  · exact LW_y (Y_neqF hx hy h) (hf (Classical.not_not.1 h)) hd
theorem QW_neq {k : IntKind} {x y : Operand} {t u : TypeId} {a b : Int} (hx : ev env x = some (.int k a)) (hy : ev env y = some (.int k b)) (ht : a ≠ b → QW P n ops rest w J ((d, .bool true) :: env))
    (hf : a = b → QW P n ops rest w J ((d, .bool false) :: env)) (hd : Nat.blt d n = true := by rfl) : QW P n ops (⟨some d, .binOp .neq t x y u, ty, pos, af, none⟩ :: rest) w J env := by
  by_cases h : a ≠ b
  · exact QW_y (Y_neqT hx hy h) (ht h) hd
  · exact QW_y (Y_neqF hx hy h) (hf (Classical.not_not.1 h)) hd

/-- a guarded operation: carried out, or passed over -/
def dstAt : List Oper → Nat → Option Nat
  | [], _ => none
  | o :: _, 0 => o.dst
  | _ :: r, j + 1 => dstAt r j
theorem dstAt_eq : ∀ (l : List Oper) (j : Nat), (l[j]?).bind (·.dst) = dstAt l j
  | [], _ => by simp [dstAt]
  | _ :: _, 0 => by simp [dstAt]
  | _ :: r, j + 1 => by simpa [dstAt] using dstAt_eq r j
theorem yielded_of {l : List Oper} {a : Act} {j dj : Nat} {b : Bool} (ha : Rep n a env) (hj : dstAt l j = some dj) (hb : lk env dj = some (.bool b)) : yielded l.toArray a.tmps j = some b := by
  have h1 := ha.get _ _ hb
  have h2 : (l.toArray[j]?).bind (·.dst) = some dj := by rw [← hj, ← dstAt_eq]; simp
  simp only [yielded, h2, Option.bind_some, h1]
theorem LW_guard {l : List Oper} {dst : Option Nat} {op : Op} {j : Nat} {want : Bool} {dj : Nat} (hj : dstAt l j = some dj) (hb : lk env dj = some (.bool want))
    (next : LW P n l.toArray (⟨dst, op, ty, pos, af, none⟩ :: rest) Q env w) : LW P n l.toArray (⟨dst, op, ty, pos, af, some (j, want)⟩ :: rest) Q env w := fun a ha => by
  have hy := yielded_of ha hj hb
  have h := next a ha
  unfold wpList at h ⊢
  rw [if_pos (by simp [Region.wanted])] at h
  rw [if_pos (by simp [Region.wanted, hy])]
  exact h
theorem LW_pass {l : List Oper} {dst : Nat} {op : Op} {j : Nat} {want b : Bool} {dj : Nat} (hj : dstAt l j = some dj) (hb : lk env dj = some (.bool b)) (hne : (b == want) = false)
    (next : LW P n l.toArray rest Q ((dst, undef) :: env) w) (hd : Nat.blt dst n = true := by rfl) : LW P n l.toArray (⟨some dst, op, ty, pos, af, some (j, want)⟩ :: rest) Q env w := fun a ha => by
  have hy := yielded_of ha hj hb
  unfold wpList
  rw [if_neg (by simp only [Region.wanted, hy]; simpa using hne)]
  exact next _ (ha.put (d := some dst) hd _)

theorem QW_guard {l : List Oper} {dst : Option Nat} {op : Op} {j : Nat} {want : Bool} {dj : Nat} (hj : dstAt l j = some dj) (hb : lk env dj = some (.bool want))
    (next : QW P n l.toArray (⟨dst, op, ty, pos, af, none⟩ :: rest) w J env) : QW P n l.toArray (⟨dst, op, ty, pos, af, some (j, want)⟩ :: rest) w J env := fun a ha => by
  have hy := yielded_of ha hj hb
  have h := next a ha
  unfold wpQuiet at h ⊢
  rw [if_pos (by simp [Region.wanted])] at h
  rw [if_pos (by simp [Region.wanted, hy])]
  exact h
theorem QW_pass {l : List Oper} {dst : Nat} {op : Op} {j : Nat} {want b : Bool} {dj : Nat} (hj : dstAt l j = some dj) (hb : lk env dj = some (.bool b)) (hne : (b == want) = false)
    (next : QW P n l.toArray rest w J ((dst, undef) :: env)) (hd : Nat.blt dst n = true := by rfl) : QW P n l.toArray (⟨some dst, op, ty, pos, af, some (j, want)⟩ :: rest) w J env := fun a ha => by
  have hy := yielded_of ha hj hb
  unfold wpQuiet
  rw [if_neg (by simp only [Region.wanted, hy]; simpa using hne)]
  exact next _ (ha.put (d := some dst) hd _)
theorem yieldedU_of {l : List Oper} {a : Act} {j dj : Nat} (ha : Rep n a env) (hj : dstAt l j = some dj) (hb : lk env dj = some undef) : yielded l.toArray a.tmps j = none := by
  have h1 := ha.get _ _ hb
  have h2 : (l.toArray[j]?).bind (·.dst) = some dj := by rw [← hj, ← dstAt_eq]; simp
  simp only [yielded, h2, Option.bind_some, h1]
  rfl
theorem LW_passU {l : List Oper} {dst : Nat} {op : Op} {j : Nat} {want : Bool} {dj : Nat} (hj : dstAt l j = some dj) (hb : lk env dj = some undef)
    (next : LW P n l.toArray rest Q ((dst, undef) :: env) w) (hd : Nat.blt dst n = true := by rfl) : LW P n l.toArray (⟨some dst, op, ty, pos, af, some (j, want)⟩ :: rest) Q env w := fun a ha => by
  have hy := yieldedU_of ha hj hb
  unfold wpList
  rw [if_neg (by simp only [Region.wanted, hy]; simp)]
  exact next _ (ha.put (d := some dst) hd _)
theorem QW_passU {l : List Oper} {dst : Nat} {op : Op} {j : Nat} {want : Bool} {dj : Nat} (hj : dstAt l j = some dj) (hb : lk env dj = some undef)
    (next : QW P n l.toArray rest w J ((dst, undef) :: env)) (hd : Nat.blt dst n = true := by rfl) : QW P n l.toArray (⟨some dst, op, ty, pos, af, some (j, want)⟩ :: rest) w J env := fun a ha => by
  have hy := yieldedU_of ha hj hb
  unfold wpQuiet
  rw [if_neg (by simp only [Region.wanted, hy]; simp)]
  exact next _ (ha.put (d := some dst) hd _)
/-! calls -/
def CallOK (P : Program) (f : FuncId) : Prop := ∀ (args : Array Value) (w : World), (callFunc f args).run P w = .ok (.enter f args) w
theorem LW_call {f : FuncId} {args : Array Operand} {tys : Array TypeId} {vals : List Value} {R : Ending → World → Prop} (ha : evL env args.toList = some vals) (hc : CallOK P f)
    (h : Calls P f vals.toArray w R) (hk : ∀ e w', R e w' → ∃ v, e = .returned v ∧ LW P n ops rest Q ((d, v) :: env) w') (hd : Nat.blt d n = true := by rfl) :
    LW P n ops (⟨some d, .call ⟨.value (.func f), args, tys⟩, ty, pos, af, none⟩ :: rest) Q env w := fun a hA =>
  wpList_plain rfl fun K hK => by
    have hargs : args.map a.eval = vals.toArray := by
      rw [← Array.toList_inj, Array.toList_map, hA.evL ha]
    have hrun : (execOp a.eval ⟨some d, .call ⟨.value (.func f), args, tys⟩, ty, pos, af, none⟩).run P w = .ok (.enter f vals.toArray) w := by
      simp [execOp, resolve, hargs, Act.eval, Deferred.ofValue, invoke, hc _ _]
    unfold Oper.wp
    rw [hrun]
    refine h.mono fun e w' hR => ?_
    obtain ⟨v, rfl, hv⟩ := hk e w' hR
    exact hK _ _ (hv _ (hA.put (d := some d) hd v))
theorem LW_callB {f : FuncId} {args : Array Operand} {tys : Array TypeId} {vals : List Value} {p : Prop} (ha : evL env args.toList = some vals) (hc : CallOK P f)
    (h : Calls P f vals.toArray w (RetB p w)) (ht : p → LW P n ops rest Q ((d, .bool true) :: env) w) (hf : ¬ p → LW P n ops rest Q ((d, .bool false) :: env) w) (hd : Nat.blt d n = true := by rfl) :
    LW P n ops (⟨some d, .call ⟨.value (.func f), args, tys⟩, ty, pos, af, none⟩ :: rest) Q env w :=
  LW_call ha hc h (fun e w' ⟨he, hw⟩ => by
    subst hw
    refine ⟨_, he, ?_⟩
    by_cases hp : p
    · rw [tr_true hp]; exact ht hp
    · rw [tr_false hp]; exact hf hp) hd
/-- the same, not parted -/
theorem LW_callU {f : FuncId} {args : Array Operand} {tys : Array TypeId} {vals : List Value} {v : Value} (ha : evL env args.toList = some vals) (hc : CallOK P f)
    (h : Calls P f vals.toArray w (fun e w' => e = .returned v ∧ w' = w)) (next : LW P n ops rest Q ((d, v) :: env) w) (hd : Nat.blt d n = true := by rfl) :
    LW P n ops (⟨some d, .call ⟨.value (.func f), args, tys⟩, ty, pos, af, none⟩ :: rest) Q env w :=
  LW_call ha hc h (fun e w' ⟨he, hw⟩ => by subst hw; exact ⟨_, he, next⟩) hd
theorem QW_call {f : FuncId} {args : Array Operand} {tys : Array TypeId} {vals : List Value} {v : Value} (ha : evL env args.toList = some vals) (hc : CallOK P f)
    (h : ∀ w', Ext w w' → Calls P f vals.toArray w' (fun e w'' => e = .returned v ∧ Ext w' w'')) (next : QW P n ops rest w J ((d, v) :: env)) (hd : Nat.blt d n = true := by rfl) :
    QW P n ops (⟨some d, .call ⟨.value (.func f), args, tys⟩, ty, pos, af, none⟩ :: rest) w J env := fun a hA =>
  wpQuiet_step fun K hK => by
    have hargs : args.map a.eval = vals.toArray := by
      rw [← Array.toList_inj, Array.toList_map, hA.evL ha]
    have hrun : ∀ w', (execOp a.eval ⟨some d, .call ⟨.value (.func f), args, tys⟩, ty, pos, af, none⟩).run P w' = .ok (.enter f vals.toArray) w' := fun w' => by
      simp [execOp, resolve, hargs, Act.eval, Deferred.ofValue, invoke, hc _ _]
    rw [if_pos (by simp [Region.wanted])]
    refine ⟨v, fun w' hw' => ?_, hK _ (next _ (hA.put (d := some d) hd v))⟩
    unfold Oper.quietAt
    rw [hrun w']
    exact ⟨rfl, (h w' hw').mono fun e w'' ⟨he, hx⟩ => ⟨he, hw'.trans hx⟩⟩
end
attribute [irreducible] CW LW QW AW
end Go.Proofs.Ytdilnodgamlpdaa
