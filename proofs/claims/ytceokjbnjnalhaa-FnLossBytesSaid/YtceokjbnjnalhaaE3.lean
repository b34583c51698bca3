/- The sending at its three kinds of arguments. No condition. -/
import Derived.Test.YtceokjbnjnalhaaE1

namespace Go.Proofs.Ytceokjbnjnalhaa
open Go Go.RowKit
set_option linter.unusedSimpArgs false
set_option linter.unusedVariables false

section
variable {w : World} {fv : Value} {L : Los} {t z : Int}
theorem s41n (hn : ¬ sendable L t z) (hS : Pkts w fv L.ps) : Calls Try.prog 41 #[.agg (L.cells fv).toArray, .int .i64 t, .int .i64 z] w (Ret1 (SendA Los.nil 0 false) w) := by
  have h := s41 w fv L t z hS
  rw [(send_no hn).1, (send_no hn).2.1, (send_no hn).2.2] at h; exact h
theorem s43n (hn : ¬ sendable L t z) (hS : Pkts w fv L.ps) : Calls Try.prog 43 #[.agg (L.cells fv).toArray, .int .i64 t, .int .i64 z] w (Ret1 (SendA Los.nil 0 false) w) := by
  have h := s43 w fv L t z hS
  rw [(send_no hn).1, (send_no hn).2.1, (send_no hn).2.2] at h; exact h
theorem s41f (hs : sendable L t z) (hf : full L t) (hS : Pkts w fv L.ps) : Calls Try.prog 41 #[.agg (L.cells fv).toArray, .int .i64 t, .int .i64 z] w (Ret1 (SendA L (-1) false) w) := by
  have h := s41 w fv L t z hS
  rw [(send_full hs hf).1, (send_full hs hf).2.1, (send_full hs hf).2.2] at h; exact h
theorem s43f (hs : sendable L t z) (hf : full L t) (hS : Pkts w fv L.ps) : Calls Try.prog 43 #[.agg (L.cells fv).toArray, .int .i64 t, .int .i64 z] w (Ret1 (SendA L (-1) false) w) := by
  have h := s43 w fv L t z hS
  rw [(send_full hs hf).1, (send_full hs hf).2.1, (send_full hs hf).2.2] at h; exact h
/-- the state behind a packet -/
def sent (L : Los) (t z : Int) : Los := ⟨L.next + 1, L.ps ++ [⟨L.next, t, z⟩], L.lg⟩
theorem s41y (hs : sendable L t z) (hf : ¬ full L t) (hS : Pkts w fv L.ps) : Calls Try.prog 41 #[.agg (L.cells fv).toArray, .int .i64 t, .int .i64 z] w (Ret1 (SendA (sent L t z) L.next true) w) := by
  have h := s41 w fv L t z hS
  rw [(send_yes hs hf).1, (send_yes hs hf).2.1, (send_yes hs hf).2.2] at h; exact h
theorem s43y (hs : sendable L t z) (hf : ¬ full L t) (hS : Pkts w fv L.ps) : Calls Try.prog 43 #[.agg (L.cells fv).toArray, .int .i64 t, .int .i64 z] w (Ret1 (SendA (sent L t z) L.next true) w) := by
  have h := s43 w fv L t z hS
  rw [(send_yes hs hf).1, (send_yes hs hf).2.1, (send_yes hs hf).2.2] at h; exact h
/-- full, as the law reckons it -/
theorem full_cases (L : Los) (t : Int) (hl : L.ps.length ≤ 12) : ∃ x : Pkt, (0 < (L.ps.length : Int) → (L.ps.map Pkt.cells)[((L.ps.length : Int) - 1).toNat]? = some x.cells) ∧ (full L t ↔ (999 < L.next ∨ (L.ps.length : Int) = 12 ∨ (0 < (L.ps.length : Int) ∧ t < x.tm))) := by
  by_cases h0 : 0 < L.ps.length
  · obtain ⟨x, hx⟩ := get_of (l := L.ps) (k := L.ps.length - 1) (by omega)
    have hlast := last_get hx
    refine ⟨x, fun _ => by rw [show ((L.ps.length : Int) - 1).toNat = L.ps.length - 1 by omega]; simp [hx], ?_⟩
    unfold full
    constructor
    · rintro (h | h | ⟨p, hp, hpt⟩)
      · exact .inl h
      · exact .inr (.inl (by omega))
      · rw [hlast] at hp; cases hp; exact .inr (.inr ⟨by omega, hpt⟩)
    · rintro (h | h | ⟨_, h⟩)
      · exact .inl h
      · exact .inr (.inl (by omega))
      · exact .inr (.inr ⟨x, hlast, h⟩)
  · refine ⟨⟨0, 0, 0⟩, fun h => by omega, ?_⟩
    have e : L.ps = [] := List.eq_nil_of_length_eq_zero (by omega)
    unfold full
    constructor
    · rintro (h | h | ⟨p, hp, hpt⟩)
      · exact .inl h
      · exact .inr (.inl (by omega))
      · rw [e] at hp; cases hp
    · rintro (h | h | ⟨h, _⟩)
      · exact .inl h
      · exact .inr (.inl (by omega))
      · omega
theorem sent_valid (hs : sendable L t z) (hf : ¬ full L t) : validL (sent L t z) := by
  obtain ⟨hv, ht, hz⟩ := hs
  obtain ⟨h1, h2, h3, h4⟩ := hv
  obtain ⟨o1, o2⟩ := okP_iff.1 h4
  have hn : ¬ 999 < L.next := fun h => hf (.inl h)
  have hl : ¬ L.ps.length = 12 := fun h => hf (.inr (.inl h))
  have hlast : ∀ p, L.ps.getLast? = some p → p.tm ≤ t := fun p hp => by
    have : ¬ t < p.tm := fun h => hf (.inr (.inr ⟨p, hp, h⟩))
    omega
  refine ⟨⟨by simp only [sent]; omega, by simp only [sent]; omega⟩, ⟨h2.1, by simp only [sent]; omega⟩, by simp only [sent, List.length_append, List.length_cons, List.length_nil]; omega, ?_⟩
  refine okP_iff.2 ⟨fun p hp => ?_, ?_⟩
  · rcases List.mem_append.1 hp with h | h
    · have hb := o1 p h
      refine ⟨⟨hb.1.1, by simp only [sent]; have := hb.1.2; omega⟩, hb.2.1, hb.2.2.1, hb.2.2.2⟩
    · simp only [List.mem_singleton] at h
      subst h
      exact ⟨⟨by simp only; omega, by simp only [sent]; omega⟩, by simp only [sent]; omega, ht, hz⟩
  · show (L.ps ++ [(⟨L.next, t, z⟩ : Pkt)]).Pairwise Lt
    rw [List.pairwise_append]
    refine ⟨o2, List.pairwise_singleton _ _, fun q hq p hp => ?_⟩
    simp only [List.mem_singleton] at hp
    subst hp
    have hb := o1 q hq
    refine ⟨by simp only; have := hb.1.2; omega, ?_⟩
    simp only
    obtain ⟨i, hi, rfl⟩ := List.getElem_of_mem hq
    have hll : L.ps.getLast? = some (L.ps[L.ps.length - 1]'(by omega)) := by rw [List.getLast?_eq_getElem?]; exact List.getElem?_eq_getElem (by omega)
    have hlt := hlast _ hll
    rw [List.pairwise_iff_getElem] at o2
    by_cases hil : i = L.ps.length - 1
    · subst hil; exact hlt
    · have := (o2 i (L.ps.length - 1) hi (by omega) (by omega)).2
      omega
end
end Go.Proofs.Ytceokjbnjnalhaa
