/- What an acknowledgement does to a window, in facts. No condition. -/
import Derived.Test.YtiandcilkmdfnaaC4
namespace Go.Proofs.Ytiandcilkmdfnaa
open Go Go.RowKit
set_option linter.unusedVariables false
theorem ack_facts (ws : List Win) (x z : Win) (h : z = ackW ws x) :
    (x.s < x.t → z.s = x.s + 1 ∧ z.c = x.c) ∧ (¬ x.s < x.t → 1000 ≤ x.c + incr ws x → z.s = min (x.s + 1) 64 ∧ z.c = x.c + incr ws x - 1000) ∧
    (¬ x.s < x.t → ¬ 1000 ≤ x.c + incr ws x → z.s = x.s ∧ z.c = x.c + incr ws x) ∧ z.t = x.t ∧ z.r = x.r := by
  subst h
  unfold ackW
  refine ⟨fun h => ?_, fun h1 h2 => ?_, fun h1 h2 => ?_, ?_, ?_⟩
  · rw [if_pos h]; exact ⟨rfl, rfl⟩
  · rw [if_neg h1, if_pos h2]; exact ⟨rfl, rfl⟩
  · rw [if_neg h1, if_neg h2]; exact ⟨rfl, rfl⟩
  · split
    · rfl
    · split <;> rfl
  · split
    · rfl
    · split <;> rfl
theorem valid_set {ws : List Win} {n : Nat} {z : Win} (h : valid ws) (hz : okW z) : valid (ws.set n z) := by
  refine ⟨fun y hy => ?_, by simpa using h.2⟩
  rcases List.mem_or_eq_of_mem_set hy with hy | rfl
  · exact h.1 y hy
  · exact hz
theorem ack_ok {ws : List Win} {x : Win} (hv : valid ws) (h : okW x) : okW (ackW ws x) := by
  have hf := ack_facts ws x _ rfl
  have hi := incr_bd hv h
  obtain ⟨h1, h2, h3, h4⟩ := h
  refine ⟨?_, ?_, ?_, ?_⟩ <;> omega
theorem loss_ok {x : Win} (h : okW x) : okW (lossW x) := by
  obtain ⟨h1, h2, h3, h4⟩ := h
  unfold lossW
  refine ⟨?_, ?_, ?_, ?_⟩ <;> simp only <;> omega
end Go.Proofs.Ytiandcilkmdfnaa
