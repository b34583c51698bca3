/- From the reading of an argument to what the walks are told of it. No condition. -/
import Derived.Test.YtkolihdbehjffaaTypes
import Derived.ProofKit
import Derived.OpenShut
import Derived.ShutString
import Derived.ChangeOld
import Derived.Deep.Slices
import Derived.Deep.Fields
namespace Go.Proofs.Ytkolihdbehjffaa
open Go Go.RowKit Go.ChangeShapes Go.WideShapes Go.ChangeAt Go.Deep
set_option linter.unusedSimpArgs false
set_option linter.unusedVariables false

section
variable {H : Type} {enc : TypeId × Value → H} {P : Program} {w : World} {base : Nat} {spare : Nat → Bool} {held : Bool}

theorem slc_of_trod {t e : TypeId} {k fuel : Nat} {v : Value} {x : DataW H × List MemPlace} (Good : List Value → Prop) (ht : P.underlying t = some (.slice e)) (hC : P.cellsOf e = k)
    (hg : ∀ n cs y, DataW.trod enc P w base spare held n e cs = some y → Good cs) (h : DataW.trod enc P w base spare held fuel t [v] = some x) : ∃ els, Slc w v k els ∧ ∀ el ∈ els, Good el := by
  rcases open_slice ht h with ⟨hcs, _⟩ | ⟨a, len, cap, m, n, D, Pl, hcs, hb, hl, hm, hmm, hx, hi⟩
  · simp only [List.cons.injEq, and_true] at hcs
    subst hcs
    exact ⟨[], Slc.nil w k, by simp⟩
  · simp only [List.cons.injEq, and_true] at hcs
    subst hcs
    have hlm : len ≤ m := by rw [hmm]; split <;> omega
    have key : ∀ c, c ≤ len → ∃ els : List (List Value), els.length = c ∧ ∀ i el, els[i]? = some el → PtsTo w (a.add (i * k)) el ∧ Good el ∧ el.length = k := by
      intro c
      induction c with
      | zero => exact fun _ => ⟨[], rfl, fun i el h => by simp at h⟩
      | succ c ih =>
        intro hc
        obtain ⟨els, hlen, hel⟩ := ih (by omega)
        obtain ⟨cs, hcs, htr⟩ := hi c (by omega)
        obtain ⟨_, hcl, hat⟩ := World.cells?_some hcs
        rw [hC] at hcl hat
        refine ⟨els ++ [cs], by simp [hlen], fun i el h => ?_⟩
        by_cases hic : i < c
        · rw [List.getElem?_append_left (by omega)] at h
          exact hel i el h
        · rw [List.getElem?_append_right (by omega)] at h
          have hi0 : i - els.length = 0 := by
            rcases Nat.eq_zero_or_pos (i - els.length) with h0 | h0
            · exact h0
            · rw [List.getElem?_eq_none (by simp; omega)] at h; cases h
          rw [hi0] at h
          simp only [List.getElem?_cons_zero, Option.some.injEq] at h
          subst h
          obtain rfl : i = c := by omega
          refine ⟨fun j u hu => ?_, hg _ _ _ htr, hcl⟩
          have hj : j < cs.length := (List.getElem?_eq_some_iff.1 hu).1
          rw [hat j (by omega), hu]
    obtain ⟨els, hlen, hel⟩ := key len (Nat.le_refl _)
    refine ⟨els, ⟨some a, cap, by rw [hlen], by omega, hm, fun el he => ?_, fun _ => ⟨a, rfl, fun i el h => (hel i el h).1⟩⟩, fun el he => ?_⟩
    · obtain ⟨i, hi⟩ := List.mem_iff_getElem?.1 he
      exact (hel i el hi).2.2
    · obtain ⟨i, hi⟩ := List.mem_iff_getElem?.1 he
      exact (hel i el hi).2.1

end

/-- all fields are int -/
def AllInt (k : Nat) (cs : List Value) : Prop := ∃ l : List Int, l.length = k ∧ cs = l.map (.int .i64)
end Go.Proofs.Ytkolihdbehjffaa
