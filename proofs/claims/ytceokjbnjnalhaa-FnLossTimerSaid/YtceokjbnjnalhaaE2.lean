/- The acknowledgement at valid arguments, at others, once more, of everything. No condition. -/
import Derived.Test.YtceokjbnjnalhaaE1

namespace Go.Proofs.Ytceokjbnjnalhaa
open Go Go.RowKit
set_option linter.unusedSimpArgs false
set_option linter.unusedVariables false

section
variable {w : World} {fv rv : Value} {L : Los} {rs : List Rng} {now d : Int}
theorem s24n (ha : ¬ ackable L rs now d) (hS : Pkts w fv L.ps) (hR : Rngs w rv rs) : Calls Try.prog 24 #[.agg (L.cells fv).toArray, rv, .int .i64 now, .int .i64 d] w (Ret3 (Ack4 Los.nil [] [] false) w) := by
  have h := s24 w fv rv L rs now d hS hR
  rw [(ack_no ha).1, (ack_no ha).2.1, (ack_no ha).2.1, (ack_no ha).2.2] at h; exact h
theorem s21n (ha : ¬ ackable L rs now d) (hS : Pkts w fv L.ps) (hR : Rngs w rv rs) : Calls Try.prog 21 #[.agg (L.cells fv).toArray, rv, .int .i64 now, .int .i64 d] w (Ret3 (Ack4 Los.nil [] [] false) w) := by
  have h := s21 w fv rv L rs now d hS hR
  rw [(ack_no ha).1, (ack_no ha).2.1, (ack_no ha).2.1, (ack_no ha).2.2] at h; exact h
theorem s24y (ha : ackable L rs now d) (hS : Pkts w fv L.ps) (hR : Rngs w rv rs) : Calls Try.prog 24 #[.agg (L.cells fv).toArray, rv, .int .i64 now, .int .i64 d] w (Ret3 (Ack4 (ackL L rs now d) (ackN 0 L rs now d) (ackN 1 L rs now d) true) w) := by
  have h := s24 w fv rv L rs now d hS hR
  rw [(ack_yes ha).2.2] at h; exact h
theorem s21y (ha : ackable L rs now d) (hS : Pkts w fv L.ps) (hR : Rngs w rv rs) : Calls Try.prog 21 #[.agg (L.cells fv).toArray, rv, .int .i64 now, .int .i64 d] w (Ret3 (Ack4 (ackL L rs now d) (ackN 0 L rs now d) (ackN 1 L rs now d) true) w) := by
  have h := s21 w fv rv L rs now d hS hR
  rw [(ack_yes ha).2.2] at h; exact h
theorem s24t (ha : ackable L rs now d) (hS : Pkts w fv (ackL L rs now d).ps) (hR : Rngs w rv rs) : Calls Try.prog 24 #[.agg ((ackL L rs now d).cells fv).toArray, rv, .int .i64 now, .int .i64 d] w (Ret3 (Ack4 (ackL L rs now d) [] [] true) w) := by
  have h := s24 w fv rv (ackL L rs now d) rs now d hS hR
  obtain ⟨h1, h2, h3, h4⟩ := ack_twice ha
  rw [(ack_yes h1).2.2, h2, h3, h4] at h; exact h
end
theorem last_eq {rs : List Rng} {r : Rng} (h : rs[((rs.length : Int) - 1).toNat]? = some r) : rs.getLast? = some r := by
  rw [List.getLast?_eq_getElem?]
  rw [show ((rs.length : Int) - 1).toNat = rs.length - 1 by omega] at h; exact h
theorem lg_cases (lg : Int) (rs : List Rng) : ((rs.length : Int) = 0 ∧ lgOf lg rs = lg) ∨ 0 < (rs.length : Int) := by
  cases rs with
  | nil => exact .inl ⟨rfl, rfl⟩
  | cons a r => exact .inr (by simp only [List.length_cons]; omega)
/-- everything acknowledged -/
theorem all_ok {L : Los} {rs : List Rng} {now d : Int} (ha : ackable L rs now d) (h0 : L.next ≠ 0) : ackable L [⟨0, L.next - 1⟩] now d ∧ (∀ p ∈ L.ps, cls [⟨0, L.next - 1⟩] (lgOf L.lg [⟨0, L.next - 1⟩]) now d p = 0) := by
  obtain ⟨hv, hr, h1, h2, h3⟩ := ha
  have hn := hv.1
  have hb := (okP_iff.1 hv.2.2.2).1
  refine ⟨⟨hv, ⟨fun j x hj hx => ?_, by simp⟩, h1, h2, fun r hr => ?_⟩, fun p hp => cls0 ⟨⟨0, L.next - 1⟩, by simp, ?_⟩⟩
  · have hj0 : j = 0 := by simp at hj; exact hj
    subst hj0
    simp at hx
    subst hx
    exact ⟨by simp, by simp only; omega, by simp only; omega, fun i y hi => by omega⟩
  · simp at hr; subst hr; simp only; omega
  · exact (hb p hp).1
theorem part_all {rs : List Rng} {lg now d : Int} {c : Nat} {ps : List Pkt} (h : ∀ p ∈ ps, cls rs lg now d p = c) : part rs lg now d c ps = ps := by
  unfold part
  rw [List.filter_eq_self]
  intro p hp
  simp [h p hp]
theorem part_not {rs : List Rng} {lg now d : Int} {c c' : Nat} {ps : List Pkt} (h : ∀ p ∈ ps, cls rs lg now d p = c) (hc : c ≠ c') : part rs lg now d c' ps = [] := by
  unfold part
  rw [List.filter_eq_nil_iff]
  intro p hp
  simp [h p hp, hc]
def AckE0 (L : Los) : Value → Asr → Asr → Asr → Prop := fun v x y z => ∃ (M : Los) (a : List Int), M.ps = [] ∧ a.length = L.ps.length ∧ Ack4 M a [] true v x y z
theorem s24a {w : World} {fv rv : Value} {L : Los} {rs : List Rng} {now d : Int} (ha : ackable L rs now d) (h0 : L.next ≠ 0) (hS : Pkts w fv L.ps) (hR : Rngs w rv [⟨0, L.next - 1⟩]) :
    Calls Try.prog 24 #[.agg (L.cells fv).toArray, rv, .int .i64 now, .int .i64 d] w (Ret3 (AckE0 L) w) := by
  obtain ⟨h1, h2⟩ := all_ok ha h0
  have h := s24 w fv rv L _ now d hS hR
  rw [(ack_yes h1).2.2] at h
  refine h.mono fun e w' ⟨v, B, he, ⟨x, y, z, hB, hA⟩, hs⟩ => ⟨v, B, he, ⟨x, y, z, hB, ackL L [⟨0, L.next - 1⟩] now d, ackN 0 L [⟨0, L.next - 1⟩] now d, ?_, ?_, ?_⟩, hs⟩
  · rw [(ack_yes h1).1]; exact part_not h2 (by decide)
  · rw [(ack_yes h1).2.1 0]; unfold nums; rw [part_all h2, List.length_map]
  · have e : ackN 1 L [⟨0, L.next - 1⟩] now d = [] := by rw [(ack_yes h1).2.1 1]; unfold nums; rw [part_not h2 (by decide)]; rfl
    rw [e] at hA; exact hA
theorem empty_of {L : Los} {rs : List Rng} {now d : Int} (ha : ackable L rs now d) (h0 : L.next = 0) : ((ackL L rs now d).ps.length : Int) = 0 := by
  have hb := (okP_iff.1 (ack_valid ha).2.2.2).1
  have hn : (ackL L rs now d).next = 0 := by rw [(ack_yes ha).1]; exact h0
  cases hp : (ackL L rs now d).ps with
  | nil => rfl
  | cons p r =>
    have := (hb p (by rw [hp]; simp)).1
    omega
end Go.Proofs.Ytceokjbnjnalhaa
