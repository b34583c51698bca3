/- A region that draws its order: what only reads the memory is taken first, other operations keeping the memory's class. No condition. -/
import Derived.Test.YthjlafpfhgbfoaaS7
namespace Go.Proofs.Ythjlafpfhgbfoaa
open Go Go.RowKit
set_option linter.unusedSimpArgs false
set_option linter.unusedVariables false
section
variable {P : Program} {md : Region.Mode} {ops : Array Oper} {z : Nat} {C : World → Prop} {Q : Exit → Act → World → Prop}
/-- operation z waits for all others -/
def lastB (md : Region.Mode) (ops : Array Oper) (z : Nat) : Bool := match ops[z]? with
  | none => true
  | some o => (List.range ops.size).all fun i => i == z || o.after.any fun e => Region.binds md e && e.on == i
/-- whatever comes up next, the worlds on the way staying in the class, but for the last -/
def wpAnyC (P : Program) (md : Region.Mode) (ops : Array Oper) (z : Nat) (C : World → Prop) (Q : Exit → Act → World → Prop) : Nat → Array Bool → Act → World → Prop
  | 0, listed, a, w => Region.ready md ops listed = [] ∧ Q .normal a w
  | fuel + 1, listed, a, w => (Region.ready md ops listed = [] → Q .normal a w) ∧ ∀ i ∈ Region.ready md ops listed,
      wpOp P ops Q i (fun a' w' => (i = z ∨ C w') ∧ wpAnyC P md ops z C Q fuel (listed.setIfInBounds i true) a' w') a w
theorem wpAnyC_any : ∀ (fuel : Nat) (listed : Array Bool) (a : Act) (w : World), wpAnyC P md ops z C Q fuel listed a w → wpAny P md ops Q fuel listed a w
  | 0, _, _, _, h => h
  | fuel + 1, _, _, _, h => ⟨h.1, fun i hi => wpOp_mono (fun a' w' h' => wpAnyC_any fuel _ a' w' h'.2) (h.2 i hi)⟩
def YldC (P : Program) (ops : Array Oper) (C : World → Prop) (o : Oper) (v : Value) (a : Act) : Prop :=
  Region.wanted o (yielded ops a.tmps) = true ∧ ∀ w, C w → (execOp a.eval o).run P w = .ok (.value v) w
theorem YldC.wpOp {i : Nat} {o : Oper} {v : Value} {a : Act} (hi : ops[i]? = some o) (hy : YldC P ops C o v a) {K : Act → World → Prop} {w : World} (hC : C w) (h : K (a.put o.dst v) w) : wpOp P ops Q i K a w := by
  unfold Go.wpOp
  simp only [hi, hy.1, if_true, Oper.wp, hy.2 w hC, Oper.upon]
  exact .inl h
theorem YldC.same {o : Oper} {v : Value} {a a' : Act} (hy : YldC P ops C o v a) (he : execOp a'.eval o = execOp a.eval o) (hw : Region.wanted o (yielded ops a'.tmps) = Region.wanted o (yielded ops a.tmps)) : YldC P ops C o v a' := by
  unfold YldC at *
  rw [he, hw]
  exact hy
/-- an operation done behind one that is apart from it, or ahead of it -/
theorem wpOp_swap {j : Nat} {oi oj : Oper} {v : Value} {R : Act → Prop} (hj : ops[j]? = some oj) (hap : oi.apart ops oj = true) (hsj : ∀ cs b, oj.op ≠ .select cs b)
    (hQ : ∀ c a w, Q (.panic c) (a.put oi.dst v) w → Q (.panic c) a w) {K : Act → World → Prop} {a : Act} {w : World}
    (hR : R a) (hRp : ∀ a u, R a → R (a.put oj.dst u)) (hRd : ∀ a d, R a → R { a with defers := d :: a.defers }) (h : wpOp P ops Q j K (a.put oi.dst v) w) :
    wpOp P ops Q j (fun a' w' => R a' ∧ K (a'.put oi.dst v) w') a w := by
  obtain ⟨h1, h2, h3⟩ := Oper.apart_spec hap
  have pc : ∀ u, (a.put oi.dst v).put oj.dst u = (a.put oj.dst u).put oi.dst v := fun u => Act.put_comm a v u h2
  unfold wpOp at *
  simp only [hj] at *
  rw [wanted_put oj a oi.dst v h1] at h
  by_cases hw : Region.wanted oj (yielded ops a.tmps) = true
  · rw [if_pos hw] at h ⊢
    rcases h with h | ⟨h4, h5⟩
    · refine .inl ?_
      unfold Oper.wp at *
      rw [execOp_put oj hsj a oi.dst v h1] at h
      generalize (execOp a.eval oj).run P w = r at *
      cases r with
      | halt x w' =>
        cases x <;> simp only [Oper.upon] at h ⊢
        exact hQ _ _ _ h
      | ok n w' =>
        cases n <;> simp only [Oper.upon] at h ⊢
        case value u => exact ⟨hRp a u hR, by rw [← pc]; exact h⟩
        case skip => exact ⟨hRp a _ hR, by rw [← pc]; exact h⟩
        case row row args => exact Rows.mono h fun u w'' he => ⟨hRp a u hR, by rw [← pc]; exact he⟩
        case enter f args =>
          refine Calls.mono h fun e w'' he => ?_
          cases e with
          | returned u => exact ⟨hRp a u hR, by rw [← pc]; exact he⟩
          | panicked c => exact hQ _ _ _ he
          | outgrown => exact he
        case defer d =>
          refine ⟨hRp _ _ (hRd a d hR), ?_⟩
          rw [← Act.put_comm _ v undef h2, ← Act.put_defers]
          exact h
    · refine .inr ⟨?_, h5⟩
      unfold Oper.asks at *
      rw [execOp_put oj hsj a oi.dst v h1] at h4
      exact h4
  · rw [if_neg hw] at h ⊢
    exact ⟨hRp a _ hR, by rw [← pc]; exact h⟩
theorem wpAnyC_first (hz : lastB md ops z = true) {i : Nat} {oi : Oper} {v : Value} (hi : ops[i]? = some oi) (hsel : ∀ (j : Nat) (o : Oper) cs b, ops[j]? = some o → o.op ≠ .select cs b)
    (hQ : ∀ c a w, Q (.panic c) (a.put oi.dst v) w → Q (.panic c) a w) : ∀ (fuel : Nat) (listed : Array Bool) (a : Act) (w : World), C w →
      (∀ j oj, ops[j]? = some oj → j ≠ i → listed.getD j true = false → (∀ e ∈ oj.after, Region.binds md e = true → e.on ≠ i) → oi.apart ops oj = true) →
      i ∈ Region.ready md ops listed → YldC P ops C oi v a → wpAnyC P md ops z C Q fuel (listed.setIfInBounds i true) (a.put oi.dst v) w → wpAnyC P md ops z C Q (fuel + 1) listed a w
  | 0, listed, a, w, hC, _, hr, hy, H => by
    refine ⟨fun h => (by rw [h] at hr; cases hr), fun j hj => ?_⟩
    by_cases hji : j = i
    · subst hji; exact hy.wpOp hi hC ⟨.inr hC, H⟩
    · have := ready_mono hj hji
      rw [H.1] at this
      cases this
  | fuel + 1, listed, a, w, hC, hfree, hr, hy, H => by
    refine ⟨fun h => (by rw [h] at hr; cases hr), fun j hj => ?_⟩
    by_cases hji : j = i
    · subst hji; exact hy.wpOp hi hC ⟨.inr hC, H⟩
    have h1 := H.2 j (ready_mono hj hji)
    obtain ⟨hjun, oj, hoj, hall⟩ := mem_ready.1 hj
    have hnot : ∀ e ∈ oj.after, Region.binds md e = true → e.on ≠ i := fun e he hb heq => by
      have h1 := hall e he hb
      have h0 := (mem_ready.1 hr).1
      rw [heq] at h1
      rcases Nat.lt_or_ge i listed.size with h' | h'
      · simp [h'] at h0 h1; rw [h0] at h1; cases h1
      · simp [Array.getElem?_eq_none h'] at h1
    have hap := hfree j oj hoj hji hjun hnot
    obtain ⟨_, _, h3⟩ := Oper.apart_spec hap
    have h2 := wpOp_swap (R := fun a => YldC P ops C oi v a) hoj hap (fun cs b => hsel j oj cs b hoj) hQ hy
      (fun a u hy => hy.same (execOp_put oi (fun cs b => hsel i oi cs b hi) a oj.dst u h3) (wanted_put oi a oj.dst u h3)) (fun a d hy => hy.same rfl rfl) h1
    have hri : i ∈ Region.ready md ops (listed.setIfInBounds j true) := ready_mono hr (Ne.symm hji)
    refine wpOp_mono (fun a' w' h3 => ?_) h2
    obtain ⟨hy', hc, hn⟩ := h3
    have hjz : j ≠ z := fun e => by
      subst e
      have hz' := hz
      unfold lastB at hz'
      simp only [hoj, List.all_eq_true, List.mem_range] at hz'
      have hil : i < ops.size := (Array.getElem?_eq_some_iff.1 hi).1
      have := hz' i hil
      simp only [Bool.or_eq_true, beq_iff_eq, Array.any_eq_true', Bool.and_eq_true] at this
      rcases this with h | ⟨e, he, hb, heq⟩
      · exact hji h.symm
      · exact hnot e he hb heq
    have hC' : C w' := hc.resolve_left hjz
    refine ⟨.inr hC', wpAnyC_first hz hi hsel hQ fuel _ a' w' hC' (fun k ok hk hki hun hno => ?_) hri hy' ?_⟩
    · refine hfree k ok hk hki ?_ hno
      by_cases hjk : j = k
      · subst hjk; exact hjun
      · rw [getD_set_ne true hjk] at hun; exact hun
    · rw [Array.setIfInBounds_comm _ _ hji]
      exact hn
end
section
variable {P : Program} {n : Nat} {Q : Post} {J : Env → Prop} {env : Env} {w0 : World} {A A0 : List Asr} {l : List Oper} {z k : Nat} {bs : List Bool}
variable {d : Nat} {ty : TypeId} {pos : String} {af : Array Edge}
def AWC (P : Program) (n : Nat) (ops : Array Oper) (z k : Nat) (listed : Array Bool) (C : World → Prop) (Q : Post) (env : Env) (w : World) : Prop := ∀ a, Rep n a env → wpAnyC P .any ops z C (QE n Q) k listed a w
def SAC (P : Program) (n : Nat) (ops : Array Oper) (z k : Nat) (listed : Array Bool) (Q : Post) (A0 : List Asr) (env : Env) (w0 : World) (A : List Asr) : Prop := ∀ w, St w0 w A → St w0 w A0 → AWC P n ops z k listed (fun w => St w0 w A0) Q env w
theorem SACk {ops : Array Oper} {listed : Array Bool} (h : SAC P n ops z k listed Q A0 env w0 A) : SAC P n ops z k listed Q A0 env w0 A := h
theorem SACbs (bs : List Bool) {ops : Array Oper} (h : SAC P n ops z k bs.toArray Q A0 env w0 A) : SAC P n ops z k bs.toArray Q A0 env w0 A := h
theorem SC_anyC {i : Nat} (k : Nat) (bs : List Bool) (z : Nat) (hm : P.follows .mixedOrders = true) (hk : l.length = k) (hb : List.replicate k false = bs) (h : SAC P n l.toArray z k bs.toArray Q A env w0 A) : SC P n (.region i l.toArray true) Q env w0 A := by
  subst hb hk
  unfold SC
  refine fun w s => CW_any hm (fun w' x => ?_)
  unfold AW
  intro a ha
  have := h w' (s.more x) (s.more x) a ha
  rw [← List.toArray_replicate]
  exact wpAnyC_any _ _ _ _ this
theorem SAC_nil {ops : Array Oper} {listed : Array Bool} (hr : Region.ready .any ops listed = []) (h : SE Q .normal env w0 A) : SAC P n ops z k listed Q A0 env w0 A := fun w s _ a ha => by
  unfold SE at h
  cases k with
  | zero => exact ⟨hr, env, ha, h w s⟩
  | succ k => exact ⟨fun _ => ⟨env, ha, h w s⟩, fun i hi => by rw [hr] at hi; cases hi⟩
/-- what an operation reads in every world of the class -/
def RdC (P : Program) (n : Nat) (o : Oper) (env : Env) (v : Value) (w0 : World) (A0 : List Asr) : Prop := ∀ a, Rep n a env → ∀ w, St w0 w A0 → (execOp a.eval o).run P w = .ok (.value v) w
theorem RdC.pure {o : Oper} {v : Value} (h : Y P n o env v) : RdC P n o env v w0 A0 := fun a ha w _ => h a ha w
theorem SAC_takeL (i : Nat) (b' : List Bool) {o : Op} {v : Value} (hb : bs.set i true = b') (hi : l[i]? = some ⟨some d, o, ty, pos, af, none⟩) (hz : lastB .any l.toArray z = true) (hs : Region.noSelect l.toArray = true) (hQ : ∀ c e w, Q (.panic c) e w → False)
    (hr : (Region.ready .any l.toArray bs.toArray).contains i = true) (hf : Region.free .any l.toArray bs.toArray i = true) (h : RdC P n ⟨some d, o, ty, pos, af, none⟩ env v w0 A0) (next : SAC P n l.toArray z k b'.toArray Q A0 ((d, v) :: env) w0 A) (hd : Nat.blt d n = true := by rfl) :
    SAC P n l.toArray z (k + 1) bs.toArray Q A0 env w0 A := fun w s s0 a ha => by
  subst hb
  have hi' : l.toArray[i]? = some ⟨some d, o, ty, pos, af, none⟩ := by simpa using hi
  refine wpAnyC_first hz hi' (Region.noSelect_spec hs) (fun c a w hp => ?_) k bs.toArray a w s0 (Region.free_spec hi' hf) (by simpa using hr) ⟨by simp [Region.wanted], fun w hw => h a ha w hw⟩ ?_
  · obtain ⟨e, _, hq⟩ := hp
    exact (hQ _ _ _ hq).elim
  · have := next w s s0 _ (ha.put (d := some d) hd v)
    rwa [List.setIfInBounds_toArray]
theorem SAC_takeIx (i : Nat) (b' : List Bool) {t e : TypeId} {k' by_ : Nat} {x y : Operand} {v : Value} {ix : Int} {els : List (List Value)} {el : List Value} [ht : TSlice P t e k' by_] (hb : bs.set i true = b') (hi : l[i]? = some ⟨some d, .indexAddr t x y, ty, pos, af, none⟩) (hz : lastB .any l.toArray z = true) (hs : Region.noSelect l.toArray = true) (hQ : ∀ c e w, Q (.panic c) e w → False)
    (hr : (Region.ready .any l.toArray bs.toArray).contains i = true) (hf : Region.free .any l.toArray bs.toArray i = true) (hS : Slc w0 v k' els) (hx : ev env x = some v) (hy : ev env y = some (.int .i64 ix)) (h0 : 0 ≤ ix) (he : els[ix.toNat]? = some el)
    (next : ∀ p, PtsTo w0 p el → SAC P n l.toArray z k b'.toArray Q A0 ((d, .pointer (some p)) :: env) w0 A) (hd : Nat.blt d n = true := by rfl) : SAC P n l.toArray z (k + 1) bs.toArray Q A0 env w0 A := by
  obtain ⟨p, hp, hy'⟩ := Y_index (t := t) (P := P) (n := n) (env := env) (d := d) (ty := ty) (pos := pos) (af := af) hS hx hy h0 he
  exact SAC_takeL i b' hb hi hz hs hQ hr hf (RdC.pure hy') (next p hp) hd
theorem RdC.load {t : TypeId} {x : Operand} {p : Addr} {v : Value} (hx : ev env x = some (.pointer (some p))) (h : LoadAt P t A0 p v) : RdC P n ⟨some d, .load t x, ty, pos, af, none⟩ env v w0 A0 := fun a ha w s => by
  rcases h.ok s.sat with ⟨h1, h2⟩ | ⟨k, cs, h1, h2, h3, rfl⟩
  · simp [execOp, ha.ev hx, Instr.loadAt, Instr.sureAddr, run_loadVar_one h2]
  · simp [execOp, ha.ev hx, Instr.loadAt, Instr.sureAddr, run_loadVar_agg h2 h3]
theorem RdC.loadP {t : TypeId} {x : Operand} {p : Addr} {cs : List Value} {v : Value} (j : Nat) [TOne P t] (hp : PtsTo w0 p cs) (hx : ev env x = some (.pointer (some (p.add j)))) (hv : cs[j]? = some v) : RdC P n ⟨some d, .load t x, ty, pos, af, none⟩ env v w0 A0 := fun a ha w s => by
  simp [execOp, ha.ev hx, Instr.loadAt, Instr.sureAddr, run_loadVar_one ((hp.ext s.ext).cell j hv)]
theorem RdC.loadP1 {t : TypeId} {x : Operand} {p : Addr} {v : Value} [TOne P t] (hp : PtsTo w0 p [v]) (hx : ev env x = some (.pointer (some p))) : RdC P n ⟨some d, .load t x, ty, pos, af, none⟩ env v w0 A0 := fun a ha w s => by
  have h2 : w.cell? p = some v := by simpa [add_zero] using (hp.ext s.ext).cell 0 rfl
  simp [execOp, ha.ev hx, Instr.loadAt, Instr.sureAddr, run_loadVar_one h2]
theorem RdC.loadPK {t : TypeId} {k : Nat} {x : Operand} {p : Addr} {cs : List Value} [TAgg P t k] (hp : PtsTo w0 p cs) (hx : ev env x = some (.pointer (some p))) (hk : cs.length = k) : RdC P n ⟨some d, .load t x, ty, pos, af, none⟩ env (.agg cs.toArray) w0 A0 := fun a ha w s => by
  simp [execOp, ha.ev hx, Instr.loadAt, Instr.sureAddr, run_loadVar_agg (hp.ext s.ext) hk]
theorem LW_wpOp {w : World} {i : Nat} {o : Oper} {K : Env → World → Prop} (hi : l[i]? = some o) (h : LW P n l.toArray [o] (thenE K Q) env w) {a : Act} (ha : Rep n a env) : wpOp P l.toArray (QE n Q) i (fun a' w' => ∃ e, Rep n a' e ∧ K e w') a w := by
  unfold LW at h
  have h1 := h a ha
  have ho' : l.toArray[i]? = some o := by simpa using hi
  have hmono : ∀ (x : Exit) (a' : Act) (w' : World), QE n (thenE K Q) x a' w' → Exit.then (fun a' w' => ∃ e, Rep n a' e ∧ K e w') (QE n Q) x a' w' := by
    rintro x a' w' ⟨e, he, hq⟩
    cases x with
    | normal => exact ⟨e, he, hq⟩
    | exit i => exact ⟨e, he, hq⟩
    | goto l => exact ⟨e, he, hq⟩
    | ret => exact ⟨e, he, hq⟩
    | panic c => exact ⟨e, he, hq⟩
    | outgrown => exact ⟨e, he, hq⟩
  unfold wpOp
  rw [ho']
  simp only [wpList] at h1
  show (if Region.wanted o (yielded l.toArray a.tmps) = true then _ else _)
  split
  · rename_i hwt
    rw [if_pos hwt] at h1
    rcases h1 with h1 | ⟨hasks, a0, w0, hout⟩
    · left
      unfold Oper.wp Oper.upon at h1 ⊢
      split at h1 <;> first
        | exact (hmono .normal _ _ h1)
        | exact Rows.mono h1 (fun _ _ he => hmono .normal _ _ he)
        | exact Calls.mono h1 (fun e w'' he => match e, he with
            | .returned v, he => hmono .normal _ _ he
            | .panicked c, he => hmono (.panic c) _ _ he
            | .outgrown, ⟨a0, w0, hq⟩ => ⟨a0, w0, hmono .outgrown _ _ hq⟩)
        | exact hmono (.panic _) _ _ h1
        | exact h1.elim
    · right
      exact ⟨hasks, a0, w0, hmono .outgrown _ _ hout⟩
  · rename_i hwt
    rw [if_neg hwt] at h1
    exact hmono .normal _ _ h1
@[reducible] def NxC (P : Program) (n : Nat) (l : List Oper) (z k : Nat) (Q : Post) (A0 : List Asr) (w0 : World) (i : Nat) (b' : List Bool) : Env → World → Prop := fun e w => (i = z ∨ St w0 w A0) ∧ AWC P n l.toArray z k b'.toArray (fun w => St w0 w A0) Q e w
theorem SAC_step {rs : List Nat} (hr : Region.ready .any l.toArray bs.toArray = rs) (hne : rs ≠ []) (h : ∀ i ∈ rs, ∃ o, l[i]? = some o ∧ SW P n l.toArray [o] (thenE (NxC P n l z k Q A0 w0 i (bs.set i true)) Q) env w0 A) : SAC P n l.toArray z (k + 1) bs.toArray Q A0 env w0 A := fun w s s0 a ha => by
  refine ⟨fun h0 => absurd (hr.symm.trans h0) hne, fun i hi => ?_⟩
  rw [hr] at hi
  obtain ⟨o, ho, hw⟩ := h i hi
  unfold SW at hw
  refine wpOp_mono (fun a' w' h' => ?_) (LW_wpOp ho (hw w s) ha)
  obtain ⟨e, he, h1, h2⟩ := h'
  have := h2 a' he
  rw [← List.setIfInBounds_toArray] at this
  exact ⟨h1, this⟩
theorem SE_anyC {i : Nat} {b' : List Bool} (hs : Sel A A0) (h : SAC P n l.toArray z k b'.toArray Q A0 env w0 A) : SE (thenE (NxC P n l z k Q A0 w0 i b') Q) .normal env w0 A := by
  unfold SE
  exact fun w s => N_then ⟨.inr (s.sel hs), h w s (s.sel hs)⟩
theorem SE_anyZ {b' : List Bool} (hr : Region.ready .any l.toArray b'.toArray = []) (h : SE Q .normal env w0 A) : SE (thenE (NxC P n l z k Q A0 w0 z b') Q) .normal env w0 A := by
  unfold SE at *
  refine fun w s => N_then ⟨.inl rfl, fun a ha => ?_⟩
  cases k with
  | zero => exact ⟨hr, env, ha, h w s⟩
  | succ k => exact ⟨fun _ => ⟨env, ha, h w s⟩, fun i hi => by rw [hr] at hi; cases hi⟩
theorem SAC_oneL (i0 : Nat) (b0 : List Bool) {o0 : Oper} (hb0 : bs.set i0 true = b0) (hr : Region.ready .any l.toArray bs.toArray = [i0]) (hi0 : l[i0]? = some o0)
    (h0 : SW P n l.toArray [o0] (thenE (NxC P n l z k Q A0 w0 i0 b0) Q) env w0 A) : SAC P n l.toArray z (k + 1) bs.toArray Q A0 env w0 A := SAC_step hr (by simp) fun x hx => by
  subst hb0
  simp only [List.mem_cons, List.not_mem_nil, or_false] at hx
  rcases hx with rfl
  exact ⟨o0, hi0, h0⟩
theorem SAC_twoL (i0 i1 : Nat) (b0 b1 : List Bool) {o0 o1 : Oper} (hb0 : bs.set i0 true = b0) (hb1 : bs.set i1 true = b1) (hr : Region.ready .any l.toArray bs.toArray = [i0, i1]) (hi0 : l[i0]? = some o0) (hi1 : l[i1]? = some o1)
    (h0 : SW P n l.toArray [o0] (thenE (NxC P n l z k Q A0 w0 i0 b0) Q) env w0 A) (h1 : SW P n l.toArray [o1] (thenE (NxC P n l z k Q A0 w0 i1 b1) Q) env w0 A) : SAC P n l.toArray z (k + 1) bs.toArray Q A0 env w0 A := SAC_step hr (by simp) fun x hx => by
  subst hb0 hb1
  simp only [List.mem_cons, List.not_mem_nil, or_false] at hx
  rcases hx with rfl | rfl
  · exact ⟨o0, hi0, h0⟩
  · exact ⟨o1, hi1, h1⟩
theorem SAC_threeL (i0 i1 i2 : Nat) (b0 b1 b2 : List Bool) {o0 o1 o2 : Oper} (hb0 : bs.set i0 true = b0) (hb1 : bs.set i1 true = b1) (hb2 : bs.set i2 true = b2) (hr : Region.ready .any l.toArray bs.toArray = [i0, i1, i2]) (hi0 : l[i0]? = some o0) (hi1 : l[i1]? = some o1) (hi2 : l[i2]? = some o2)
    (h0 : SW P n l.toArray [o0] (thenE (NxC P n l z k Q A0 w0 i0 b0) Q) env w0 A) (h1 : SW P n l.toArray [o1] (thenE (NxC P n l z k Q A0 w0 i1 b1) Q) env w0 A) (h2 : SW P n l.toArray [o2] (thenE (NxC P n l z k Q A0 w0 i2 b2) Q) env w0 A) : SAC P n l.toArray z (k + 1) bs.toArray Q A0 env w0 A := SAC_step hr (by simp) fun x hx => by
  subst hb0 hb1 hb2
  simp only [List.mem_cons, List.not_mem_nil, or_false] at hx
  rcases hx with rfl | rfl | rfl
  · exact ⟨o0, hi0, h0⟩
  · exact ⟨o1, hi1, h1⟩
  · exact ⟨o2, hi2, h2⟩
end
end Go.Proofs.Ythjlafpfhgbfoaa
