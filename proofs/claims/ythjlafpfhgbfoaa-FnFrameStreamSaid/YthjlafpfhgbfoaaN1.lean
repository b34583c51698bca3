/- Pieces of a stream as plain data: their bytes by offset, in one form only. No condition. -/
import Derived.KernelRfl
namespace Go.Proofs.Ythjlafpfhgbfoaa
set_option linter.unusedSimpArgs false
set_option linter.unusedVariables false

structure Pc where
  off : Int
  dat : List UInt8
def Pc.fin (p : Pc) : Int := p.off + p.dat.length
def Pc.at (p : Pc) (i : Int) : Option UInt8 := if p.off ≤ i then p.dat[(i - p.off).toNat]? else none
def at_ : List Pc → Int → Option UInt8
  | [], _ => none
  | p :: r, i => match p.at i with
    | some b => some b
    | none => at_ r i
/-- in order, apart, none empty, all above lo -/
def Norm : Int → List Pc → Prop
  | _, [] => True
  | lo, p :: r => lo < p.off ∧ p.dat ≠ [] ∧ Norm p.fin r
theorem Pc.at_some {p : Pc} {i : Int} (h : p.off ≤ i ∧ i < p.fin) : ∃ b, p.at i = some b := by
  unfold Pc.fin at h
  refine ⟨p.dat[(i - p.off).toNat]'(by omega), ?_⟩
  unfold Pc.at
  rw [if_pos h.1]
  exact List.getElem?_eq_getElem (by omega)
theorem Pc.at_in {p : Pc} {i : Int} {b : UInt8} (h : p.at i = some b) : p.off ≤ i ∧ i < p.fin := by
  unfold Pc.at at h
  split at h
  · have := (List.getElem?_eq_some_iff.1 h).1
    unfold Pc.fin
    omega
  · cases h
theorem Pc.at_none {p : Pc} {i : Int} (h : i < p.off ∨ p.fin ≤ i) : p.at i = none := by
  cases e : p.at i with
  | none => rfl
  | some b => have := Pc.at_in e; omega
theorem Pc.fin_pos {p : Pc} (h : p.dat ≠ []) : p.off < p.fin := by
  have := List.length_pos_iff.2 h
  unfold Pc.fin; omega
theorem Norm.mono {lo lo' : Int} {ps : List Pc} (h : Norm lo ps) (hl : lo' ≤ lo) : Norm lo' ps := by
  cases ps with
  | nil => trivial
  | cons p r => exact ⟨by have := h.1; omega, h.2⟩
theorem Norm.at_le {lo i : Int} {ps : List Pc} (h : Norm lo ps) (hi : i ≤ lo) : at_ ps i = none := by
  induction ps generalizing lo with
  | nil => rfl
  | cons p r ih =>
    have h1 := Pc.fin_pos h.2.1
    have h2 := h.1
    unfold at_
    rw [Pc.at_none (by omega)]
    exact ih h.2.2 (by omega)
theorem Norm.head {lo : Int} {p : Pc} {r : List Pc} (h : Norm lo (p :: r)) : ∃ b, at_ (p :: r) p.off = some b := by
  obtain ⟨b, hb⟩ := Pc.at_some (p := p) (i := p.off) ⟨Int.le_refl _, Pc.fin_pos h.2.1⟩
  exact ⟨b, by unfold at_; rw [hb]⟩
theorem Norm.at_head {lo i : Int} {p : Pc} {r : List Pc} (h : Norm lo (p :: r)) (hi : i < p.off) : at_ (p :: r) i = none := by
  unfold at_
  rw [Pc.at_none (by omega)]
  exact h.2.2.at_le (by have := Pc.fin_pos h.2.1; omega)
theorem Norm.at_fin {lo : Int} {p : Pc} {r : List Pc} (h : Norm lo (p :: r)) : at_ (p :: r) p.fin = none := by
  unfold at_
  rw [Pc.at_none (by omega)]
  exact h.2.2.at_le (Int.le_refl _)
theorem Norm.at_tail {lo i : Int} {p : Pc} {r : List Pc} (h : Norm lo (p :: r)) : at_ r i = if i < p.fin then none else at_ (p :: r) i := by
  split
  · exact h.2.2.at_le (by omega)
  · conv => rhs; unfold at_
    rw [Pc.at_none (by omega)]
/-- bytes by offset tell the pieces -/
theorem Norm.uniq {lo lo' : Int} {ps qs : List Pc} (hp : Norm lo ps) (hq : Norm lo' qs) (h : ∀ i, at_ ps i = at_ qs i) : ps = qs := by
  induction ps generalizing lo lo' qs with
  | nil =>
    cases qs with
    | nil => rfl
    | cons q s =>
      obtain ⟨b, hb⟩ := hq.head
      rw [← h] at hb; cases hb
  | cons p r ih =>
    cases qs with
    | nil =>
      obtain ⟨b, hb⟩ := hp.head
      rw [h] at hb; cases hb
    | cons q s =>
      have e1 : p.off = q.off := by
        obtain ⟨b, hb⟩ := hp.head
        obtain ⟨c, hc⟩ := hq.head
        have h1 : ¬ p.off < q.off := fun hh => by rw [h, hq.at_head hh] at hb; cases hb
        have h2 : ¬ q.off < p.off := fun hh => by rw [← h, hp.at_head hh] at hc; cases hc
        omega
      have e2 : p.fin = q.fin := by
        have h1 : ¬ p.fin < q.fin := fun hh => by
          obtain ⟨b, hb⟩ := Pc.at_some (p := q) (i := p.fin) ⟨by have := Pc.fin_pos hp.2.1; omega, hh⟩
          have hx := hp.at_fin
          rw [h] at hx; unfold at_ at hx; rw [hb] at hx; cases hx
        have h2 : ¬ q.fin < p.fin := fun hh => by
          obtain ⟨b, hb⟩ := Pc.at_some (p := p) (i := q.fin) ⟨by have := Pc.fin_pos hq.2.1; omega, hh⟩
          have hx := hq.at_fin
          rw [← h] at hx; unfold at_ at hx; rw [hb] at hx; cases hx
        omega
      have e3 : p.dat = q.dat := by
        have hl : p.dat.length = q.dat.length := by unfold Pc.fin at e2; omega
        apply List.ext_getElem? 
        intro k
        by_cases hk : k < p.dat.length
        · have hx := h (p.off + k)
          obtain ⟨b, hb⟩ := Pc.at_some (p := p) (i := p.off + k) ⟨by omega, by unfold Pc.fin; omega⟩
          obtain ⟨c, hc⟩ := Pc.at_some (p := q) (i := p.off + k) ⟨by omega, by unfold Pc.fin; omega⟩
          unfold at_ at hx
          rw [hb, hc] at hx
          have hx : some b = some c := hx
          rw [← hb, ← hc] at hx
          unfold Pc.at at hx
          rw [if_pos (by omega), if_pos (by omega), show (p.off + k - p.off).toNat = k by omega, show (p.off + k - q.off).toNat = k by omega] at hx
          exact hx
        · rw [List.getElem?_eq_none (by omega), List.getElem?_eq_none (by omega)]
      have e4 : p = q := by cases p; cases q; simp_all
      subst e4
      rw [ih hp.2.2 hq.2.2 (fun i => by rw [hp.at_tail, hq.at_tail, h i])]

/-! a piece put into pieces, as the program does it -/
def join (q p : Pc) : Pc :=
  let p1 : Pc := if q.off < p.off then ⟨q.off, q.dat.take (p.off - q.off).toNat ++ p.dat⟩ else p
  if p1.fin < q.fin then ⟨p1.off, p1.dat ++ q.dat.drop (p1.fin - q.off).toNat⟩ else p1
def absorb : List Pc → Pc → List Pc
  | [], p => [p]
  | q :: r, p => if q.off ≤ p.fin then absorb r (join q p) else p :: q :: r
def merge : List Pc → Pc → List Pc
  | [], p => [p]
  | q :: r, p => if q.fin < p.off then q :: merge r p else absorb (q :: r) p
def Agree (f g : Int → Option UInt8) : Prop := ∀ i a b, f i = some a → g i = some b → a = b
/-- the bytes of the one, and where it has none those of the other -/
def over (f g : Int → Option UInt8) (i : Int) : Option UInt8 := match f i with
  | some b => some b
  | none => g i
theorem over_some {f g : Int → Option UInt8} {i : Int} {b : UInt8} (h : f i = some b) : over f g i = some b := by unfold over; rw [h]
theorem over_none {f g : Int → Option UInt8} {i : Int} (h : f i = none) : over f g i = g i := by unfold over; rw [h]
theorem at_cons {p : Pc} {r : List Pc} {i : Int} : at_ (p :: r) i = over p.at (at_ r) i := by
  unfold over; conv => lhs; unfold at_
theorem Pc.at_eq {p : Pc} {i : Int} (h : p.off ≤ i) : p.at i = p.dat[(i - p.off).toNat]? := by unfold Pc.at; rw [if_pos h]
def join1 (q p : Pc) : Pc := if q.off < p.off then ⟨q.off, q.dat.take (p.off - q.off).toNat ++ p.dat⟩ else p
theorem join_eq {q p : Pc} : join q p = if (join1 q p).fin < q.fin then ⟨(join1 q p).off, (join1 q p).dat ++ q.dat.drop ((join1 q p).fin - q.off).toNat⟩ else join1 q p := rfl
theorem join1_at {q p : Pc} (h2 : p.off ≤ q.fin) : (join1 q p).fin = p.fin ∧ (join1 q p).off = min q.off p.off ∧ ∀ i, (join1 q p).at i = over p.at (fun i => if i < p.off then q.at i else none) i := by
  unfold join1
  split
  · rename_i hlt
    have hlen : (q.dat.take (p.off - q.off).toNat).length = (p.off - q.off).toNat := by
      rw [List.length_take]; unfold Pc.fin at h2; omega
    refine ⟨by unfold Pc.fin; simp only [List.length_append, hlen]; omega, by simp only; omega, fun i => ?_⟩
    by_cases hi : i < q.off
    · rw [(Pc.at_none (.inl hi) : Pc.at ⟨q.off, q.dat.take (p.off - q.off).toNat ++ p.dat⟩ i = none), over_none (Pc.at_none (.inl (by omega)))]
      rw [if_pos (by omega), Pc.at_none (.inl hi)]
    · rw [Pc.at_eq (by simp only; omega)]
      by_cases hj : i < p.off
      · rw [over_none (Pc.at_none (.inl hj)), if_pos hj, Pc.at_eq (by omega), List.getElem?_append_left (by simp only [hlen]; omega), List.getElem?_take]
        rw [if_pos (by simp only; omega)]
      · rw [List.getElem?_append_right (by simp only [hlen]; omega), hlen]
        simp only
        rw [show (i - q.off).toNat - (p.off - q.off).toNat = (i - p.off).toNat by omega, ← Pc.at_eq (by omega)]
        unfold over
        cases p.at i with
        | some b => rfl
        | none => simp only; rw [if_neg hj]
  · refine ⟨rfl, by omega, fun i => ?_⟩
    by_cases hi : i < p.off
    · rw [Pc.at_none (.inl hi), over_none (Pc.at_none (.inl hi)), if_pos hi, Pc.at_none (.inl (by omega))]
    · unfold over
      cases p.at i with
      | some b => rfl
      | none => simp only; rw [if_neg hi]
theorem join_at {q p : Pc} (h1 : q.off ≤ p.fin) (h2 : p.off ≤ q.fin) : (join q p).fin = max p.fin q.fin ∧ (join q p).off = min q.off p.off ∧ ∀ i, (join q p).at i = over p.at q.at i := by
  obtain ⟨a1, a2, a3⟩ := join1_at h2
  rw [join_eq]
  generalize join1 q p = j at a1 a2 a3 ⊢
  have key : ∀ i, i < p.fin → j.at i = over p.at q.at i := fun i hi => by
    rw [a3]
    cases e : p.at i with
    | some b => rw [over_some e, over_some e]
    | none =>
      rw [over_none e, over_none e]
      by_cases hj : i < p.off
      · rw [if_pos hj]
      · obtain ⟨b, hb⟩ := Pc.at_some (p := p) (i := i) ⟨by omega, hi⟩
        rw [hb] at e; cases e
  split
  · rename_i hlt
    have hl : (q.dat.drop (j.fin - q.off).toNat).length = (q.fin - j.fin).toNat := by
      rw [List.length_drop]; unfold Pc.fin at hlt h1 ⊢; unfold Pc.fin at a1; omega
    refine ⟨by (have e9 : Pc.fin ⟨j.off, j.dat ++ q.dat.drop (j.fin - q.off).toNat⟩ = j.off + (j.dat.length + (q.fin - j.fin).toNat : Nat) := by (show j.off + _ = _; rw [List.length_append, hl])
                rw [e9]; unfold Pc.fin at hlt a1 h1 ⊢; omega), a2, fun i => ?_⟩
    by_cases hi : i < p.fin
    · rw [← key i hi]
      by_cases hjo : i < j.off
      · rw [(Pc.at_none (.inl hjo) : Pc.at ⟨j.off, j.dat ++ q.dat.drop (j.fin - q.off).toNat⟩ i = none), Pc.at_none (.inl hjo)]
      · rw [Pc.at_eq (p := ⟨j.off, _⟩) (by simp only; omega), Pc.at_eq (p := j) (by omega), List.getElem?_append_left (by simp only; unfold Pc.fin at a1 hi; omega)]
    · rw [over_none (Pc.at_none (.inr (by omega)))]
      have hjo : j.off ≤ i := by have : j.off ≤ j.fin := by (unfold Pc.fin; omega)
                                 omega
      rw [Pc.at_eq (p := ⟨j.off, _⟩) (by simp only; omega)]
      by_cases hq : q.fin ≤ i
      · rw [Pc.at_none (.inr hq)]
        exact List.getElem?_eq_none (by simp only [List.length_append, hl]; unfold Pc.fin at a1 hi h1 hq ⊢; omega)
      rw [Pc.at_eq (p := q) (by omega), List.getElem?_append_right (by simp only; unfold Pc.fin at a1 hi; omega), List.getElem?_drop]
      congr 1
      simp only
      unfold Pc.fin at a1 hi h1 ⊢
      omega
  · rename_i hge
    refine ⟨by omega, a2, fun i => ?_⟩
    by_cases hi : i < p.fin
    · exact key i hi
    · rw [Pc.at_none (.inr (by omega)), over_none (Pc.at_none (.inr (by omega))), Pc.at_none (.inr (by omega))]
theorem join_ne {q p : Pc} (h1 : q.off ≤ p.fin) (h2 : p.off ≤ q.fin) (hp : p.dat ≠ []) : (join q p).dat ≠ [] := fun e => by
  obtain ⟨a1, a2, _⟩ := join_at h1 h2
  have := Pc.fin_pos hp
  have h3 : (join q p).fin = (join q p).off := by unfold Pc.fin; rw [e]; simp
  omega
theorem over_assoc_swap {f g h : Int → Option UInt8} (hag : Agree f g) (i : Int) : over (over f g) h i = over f (over g h) i := by
  unfold over
  cases f i <;> rfl
theorem absorb_at {lo : Int} {ps : List Pc} {p : Pc} (hn : Norm lo ps) (hp : p.dat ≠ []) (hlo : lo < p.off) (hab : ∀ q ∈ ps, p.off ≤ q.fin) : Norm lo (absorb ps p) ∧ ∀ i, at_ (absorb ps p) i = over p.at (at_ ps) i := by
  induction ps generalizing lo p with
  | nil => exact ⟨⟨hlo, hp, trivial⟩, fun i => by unfold absorb; rw [at_cons]⟩
  | cons q r ih =>
    unfold absorb
    split
    · rename_i h1
      have h2 := hab q (by simp)
      obtain ⟨a1, a2, a3⟩ := join_at h1 h2
      have hlq := hn.1
      have hqf := Pc.fin_pos hn.2.1
      obtain ⟨b1, b2⟩ := ih (lo := lo) (p := join q p) (hn.2.2.mono (by omega)) (join_ne h1 h2 hp) (by omega) (fun x hx => by
        have := hab x (by simp [hx]); omega)
      refine ⟨b1, fun i => ?_⟩
      rw [b2]
      unfold over
      rw [a3]
      unfold over
      cases p.at i with
      | some b => rfl
      | none => simp only; rw [at_cons]; unfold over; cases q.at i <;> rfl
    · rename_i h1
      exact ⟨⟨hlo, hp, ⟨by omega, hn.2⟩⟩, fun i => by rw [at_cons]⟩
theorem Norm.all_fin {lo : Int} {ps : List Pc} (h : Norm lo ps) : ∀ q ∈ ps, lo < q.fin := by
  induction ps generalizing lo with
  | nil => simp
  | cons p r ih =>
    intro q hq
    have h1 := Pc.fin_pos h.2.1
    have h2 := h.1
    rcases List.mem_cons.1 hq with rfl | hq
    · omega
    · have := ih h.2.2 q hq; omega
theorem merge_at {lo : Int} {ps : List Pc} {p : Pc} (hn : Norm lo ps) (hp : p.dat ≠ []) (hlo : lo < p.off) (hag : Agree p.at (at_ ps)) : Norm lo (merge ps p) ∧ ∀ i, at_ (merge ps p) i = over p.at (at_ ps) i := by
  induction ps generalizing lo with
  | nil => exact ⟨⟨hlo, hp, trivial⟩, fun i => by unfold merge; rw [at_cons]⟩
  | cons q r ih =>
    unfold merge
    split
    · rename_i hlt
      obtain ⟨b1, b2⟩ := ih (lo := q.fin) hn.2.2 hlt (fun i a b ha hb => hag i a b ha (by
        have := hn.at_tail (i := i); rw [this] at hb; split at hb
        · cases hb
        · exact hb))
      refine ⟨⟨hn.1, hn.2.1, b1⟩, fun i => ?_⟩
      rw [at_cons]
      unfold over
      rw [b2]
      unfold over
      cases e : q.at i with
      | some b =>
        have := Pc.at_in e
        rw [Pc.at_none (p := p) (.inl (by omega))]
        simp only
        rw [at_cons, over_some e]
      | none => simp only; cases p.at i with
        | some b => rfl
        | none => simp only; rw [at_cons, over_none e]
    · rename_i hge
      exact absorb_at hn hp hlo (fun x hx => by
        rcases List.mem_cons.1 hx with rfl | hx
        · omega
        · have := hn.2.2.all_fin x hx; omega)
end Go.Proofs.Ythjlafpfhgbfoaa
