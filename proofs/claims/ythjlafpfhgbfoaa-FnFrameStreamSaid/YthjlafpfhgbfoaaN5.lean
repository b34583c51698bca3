/- Receiving sides of few bytes. No condition. -/
import Derived.Test.YthjlafpfhgbfoaaN4
namespace Go.Proofs.Ythjlafpfhgbfoaa
set_option linter.unusedSimpArgs false
set_option linter.unusedVariables false
theorem Norm.count {lo : Int} {ps : List Pc} (h : Norm lo ps) : lo + ps.length ≤ lastFin lo ps := by
  induction ps generalizing lo with
  | nil => simp [lastFin]
  | cons p r ih =>
    have h1 := ih h.2.2
    have h2 := Pc.fin_pos h.2.1
    have h3 := h.1
    simp only [lastFin, List.length_cons]
    omega
def smallP (p : Pc) : Prop := (-10 ≤ p.off ∧ p.off ≤ 40) ∧ p.dat.length ≤ 40
def smallR (R : Rcv) : Prop := (-10 ≤ R.read ∧ R.read ≤ 40) ∧ (-10 ≤ R.fin ∧ R.fin ≤ 40) ∧ (-10 ≤ R.lim ∧ R.lim ≤ 40) ∧ R.ps.length ≤ 32 ∧ ∀ p ∈ R.ps, smallP p
theorem valid_len {R : Rcv} (h : validR R) : R.ps.length ≤ 31 := by
  have h1 := h.2.2.1.count
  have h2 := top_ge h.2.2.1
  have h3 : lastFin (R.read - 1) R.ps ≤ R.top := lastFin_le h.2.2.1 (by omega) (fun i b hb => (at_bd h.2.2.1 hb).2)
  have := h.1; have := h.2.1; have := h.2.2.2.1
  omega
theorem valid_small {R : Rcv} (h : validR R) : smallR R := by
  have hl := valid_len h
  obtain ⟨v1, v2, v3, v4, v5⟩ := h
  have ht := top_ge v3
  refine ⟨by omega, by omega, by omega, by omega, fun p hp => ?_⟩
  have := top_of v3 hp
  unfold Pc.fin at this
  exact ⟨by omega, by omega⟩
theorem new_valid {n : Int} (h : 0 ≤ n ∧ n ≤ 30) : validR ⟨0, [], -1, n⟩ := ⟨h, by simp only; omega, trivial, h.1, .inl rfl⟩
end Go.Proofs.Ythjlafpfhgbfoaa
