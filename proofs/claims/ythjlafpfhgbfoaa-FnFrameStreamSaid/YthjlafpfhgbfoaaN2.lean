/- Pieces gathered out of an array of bytes, and bytes spread out of pieces. No condition. -/
import Derived.Test.YthjlafpfhgbfoaaN1
namespace Go.Proofs.Ythjlafpfhgbfoaa
set_option linter.unusedSimpArgs false
set_option linter.unusedVariables false

/-- where the last piece ends -/
def lastFin : Int → List Pc → Int
  | lo, [] => lo
  | _, p :: r => lastFin p.fin r
theorem lastFin_snoc {lo : Int} {ps : List Pc} {p : Pc} : lastFin lo (ps ++ [p]) = p.fin := by
  induction ps generalizing lo with
  | nil => rfl
  | cons q r ih => exact ih
theorem lastFin_ge {lo : Int} {ps : List Pc} (h : Norm lo ps) : lo ≤ lastFin lo ps := by
  induction ps generalizing lo with
  | nil => exact Int.le_refl _
  | cons p r ih =>
    have := ih h.2.2
    have := Pc.fin_pos h.2.1
    have := h.1
    simp only [lastFin]; omega
theorem Norm.snoc {lo : Int} {ps : List Pc} {p : Pc} : Norm lo (ps ++ [p]) ↔ Norm lo ps ∧ lastFin lo ps < p.off ∧ p.dat ≠ [] := by
  induction ps generalizing lo with
  | nil => simp [Norm, lastFin]
  | cons q r ih =>
    simp only [List.cons_append, Norm, lastFin]
    rw [ih]
    constructor
    · rintro ⟨h1, h2, h3, h4, h5⟩; exact ⟨⟨h1, h2, h3⟩, h4, h5⟩
    · rintro ⟨⟨h1, h2, h3⟩, h4, h5⟩; exact ⟨h1, h2, h3, h4, h5⟩
theorem at_snoc {ps : List Pc} {p : Pc} {i : Int} : at_ (ps ++ [p]) i = over (at_ ps) p.at i := by
  induction ps with
  | nil =>
    rw [List.nil_append, at_cons]
    unfold over
    cases p.at i <;> rfl
  | cons q r ih =>
    rw [List.cons_append, at_cons]
    unfold over
    rw [at_cons]
    unfold over
    cases q.at i with
    | some b => rfl
    | none => simp only; exact ih
theorem at_beyond {lo : Int} {ps : List Pc} {i : Int} (h : Norm lo ps) (hi : lastFin lo ps ≤ i) : at_ ps i = none := by
  induction ps generalizing lo with
  | nil => rfl
  | cons p r ih =>
    have h1 := lastFin_ge h.2.2
    simp only [lastFin] at hi
    rw [at_cons, over_none (Pc.at_none (.inr (by omega)))]
    exact ih h.2.2 hi
theorem at_bounds {lo : Int} {ps : List Pc} {i : Int} {b : UInt8} (h : Norm lo ps) (e : at_ ps i = some b) : lo < i ∧ i < lastFin lo ps := by
  refine ⟨?_, ?_⟩
  · by_cases hi : i ≤ lo
    · rw [h.at_le hi] at e; cases e
    · omega
  · by_cases hi : lastFin lo ps ≤ i
    · rw [at_beyond h hi] at e; cases e
    · omega

/-- the byte in an array of numbers, -1 for none -/
def bt (b : List Int) (j : Int) : Option UInt8 := if 0 ≤ j then
    match b[j.toNat]? with
    | some x => if x < 0 then none else some (UInt8.ofNat x.toNat)
    | none => none
  else none
theorem bt_at {b : List Int} {k : Nat} {x : Int} (h : b[k]? = some x) : bt b (k : Int) = if x < 0 then none else some (UInt8.ofNat x.toNat) := by
  unfold bt; rw [if_pos (by omega), Int.toNat_natCast, h]
/-- the pieces gathered so far: from lo, up to lo + k -/
structure Coll (b : List Int) (lo : Int) (i : Int) (out : List Pc) : Prop where
  norm : Norm (lo - 1) out
  at_ : ∀ j, Go.Proofs.Ythjlafpfhgbfoaa.at_ out j = if lo ≤ j ∧ j < i then bt b j else none
  le : lastFin (lo - 1) out ≤ i
theorem Coll.nil {b : List Int} {lo : Int} : Coll b lo lo [] := ⟨trivial, fun j => by rw [if_neg (by omega)]; rfl, by simp only [lastFin]; omega⟩
theorem Coll.skip {b : List Int} {lo i : Int} {out : List Pc} (h : Coll b lo i out) (hi : lo ≤ i) (hx : bt b i = none) : Coll b lo (i + 1) out := by
  refine ⟨h.norm, fun j => ?_, by have := h.le; omega⟩
  rw [h.at_]
  by_cases hj : j = i
  · subst hj; rw [if_neg (by omega), if_pos (by omega), hx]
  · by_cases h2 : lo ≤ j ∧ j < i
    · rw [if_pos h2, if_pos (by omega)]
    · rw [if_neg h2, if_neg (by omega)]
/-- was there a byte right before -/
theorem Coll.touch {b : List Int} {lo i : Int} {out : List Pc} (h : Coll b lo i out) (hi : lo < i) {c : UInt8} (hx : bt b (i - 1) = some c) : ∃ ps p, out = ps ++ [p] ∧ p.fin = i := by
  rcases List.eq_nil_or_concat out with rfl | ⟨ps, p, rfl⟩
  · have := h.at_ (i - 1)
    rw [if_pos (by omega), hx] at this
    cases this
  · refine ⟨ps, p, by simp, ?_⟩
    have h1 := h.le
    have hn := h.norm
    simp only [List.concat_eq_append] at h1 hn
    rw [lastFin_snoc] at h1
    have h2 := h.at_ (i - 1)
    rw [if_pos (by omega), hx] at h2
    simp only [List.concat_eq_append] at h2
    have := at_bounds hn h2
    rw [lastFin_snoc] at this
    omega
theorem Coll.gap {b : List Int} {lo i : Int} {out : List Pc} (h : Coll b lo i out) (hi : lo < i) (hx : bt b (i - 1) = none) : lastFin (lo - 1) out < i := by
  rcases List.eq_nil_or_concat out with rfl | ⟨ps, p, rfl⟩
  · simp only [lastFin]; omega
  · have h1 := h.le
    have hn := h.norm
    simp only [List.concat_eq_append] at h1 hn ⊢
    rw [lastFin_snoc] at h1 ⊢
    obtain ⟨hn1, hn2, hn3⟩ := Norm.snoc.1 hn
    have hlg := lastFin_ge hn1
    have hp := Pc.fin_pos hn3
    by_cases he : p.fin = i
    · have h2 := h.at_ (i - 1)
      rw [if_pos (by omega), hx] at h2
      simp only [List.concat_eq_append] at h2
      rw [at_snoc] at h2
      obtain ⟨c, hc⟩ := Pc.at_some (p := p) (i := i - 1) (by omega)
      unfold over at h2
      rw [hc] at h2
      split at h2 <;> cases h2
    · omega
theorem Coll.more {b : List Int} {lo i : Int} {ps : List Pc} {p : Pc} {c : UInt8} (h : Coll b lo i (ps ++ [p])) (hlo : lo ≤ i) (hf : p.fin = i) (hx : bt b i = some c) : Coll b lo (i + 1) (ps ++ [⟨p.off, p.dat ++ [c]⟩]) := by
  obtain ⟨hn1, hn2, hn3⟩ := Norm.snoc.1 h.norm
  have hfin : (⟨p.off, p.dat ++ [c]⟩ : Pc).fin = i + 1 := by unfold Pc.fin at hf ⊢; simp only [List.length_append, List.length_cons, List.length_nil]; omega
  have hp := Pc.fin_pos hn3
  refine ⟨Norm.snoc.2 ⟨hn1, hn2, by simp⟩, fun j => ?_, by rw [lastFin_snoc, hfin]; omega⟩
  have h2 := h.at_ j
  rw [at_snoc] at h2 ⊢
  by_cases hj : j = i
  · subst hj
    rw [if_pos (by omega), hx]
    have h3 : Go.Proofs.Ythjlafpfhgbfoaa.at_ ps j = none := at_beyond hn1 (by omega)
    rw [over_none h3, Pc.at_eq (by simp only; omega)]
    simp only
    unfold Pc.fin at hf
    rw [List.getElem?_append_right (by omega), show (j - p.off).toNat - p.dat.length = 0 by omega]
    rfl
  · have h4 : (⟨p.off, p.dat ++ [c]⟩ : Pc).at j = p.at j := by
      by_cases ho : j < p.off
      · rw [(Pc.at_none (.inl ho) : Pc.at ⟨p.off, p.dat ++ [c]⟩ j = none), Pc.at_none (.inl ho)]
      · by_cases hl : j < i
        · rw [Pc.at_eq (by simp only; omega), Pc.at_eq (by omega)]
          simp only
          unfold Pc.fin at hf
          rw [List.getElem?_append_left (by omega)]
        · rw [(Pc.at_none (.inr (by omega)) : Pc.at ⟨p.off, p.dat ++ [c]⟩ j = none), Pc.at_none (.inr (by omega))]
    unfold over at h2 ⊢
    rw [h4, h2]
    by_cases h5 : lo ≤ j ∧ j < i
    · rw [if_pos h5, if_pos (by omega)]
    · rw [if_neg h5, if_neg (by omega)]
theorem Coll.fresh {b : List Int} {lo i : Int} {out : List Pc} {c : UInt8} (h : Coll b lo i out) (hlo : lo ≤ i) (hg : lastFin (lo - 1) out < i) (hx : bt b i = some c) : Coll b lo (i + 1) (out ++ [⟨i, [c]⟩]) := by
  refine ⟨Norm.snoc.2 ⟨h.norm, hg, by simp⟩, fun j => ?_, by rw [lastFin_snoc]; unfold Pc.fin; simp⟩
  rw [at_snoc]
  by_cases hj : j = i
  · subst hj
    rw [over_none (at_beyond h.norm (by omega)), if_pos (by omega), hx, Pc.at_eq (Int.le_refl _)]
    simp
  · have h4 : (⟨i, [c]⟩ : Pc).at j = none := by
      by_cases hl : j < i
      · exact Pc.at_none (.inl hl)
      · exact Pc.at_none (.inr (by unfold Pc.fin; simp only [List.length_cons, List.length_nil]; omega))
    have h2 := h.at_ j
    unfold over
    rw [h4, h2]
    by_cases h5 : lo ≤ j ∧ j < i
    · rw [if_pos h5, if_pos (by omega)]
      cases bt b j <;> rfl
    · rw [if_neg h5, if_neg (by omega)]
end Go.Proofs.Ythjlafpfhgbfoaa
