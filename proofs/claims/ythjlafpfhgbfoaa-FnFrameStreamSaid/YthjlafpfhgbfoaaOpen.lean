/- From the reading of an argument to what the walks are told of it. No condition. -/
import Derived.Test.YthjlafpfhgbfoaaTypes
import Derived.ProofKit
import Derived.OpenShut
import Derived.ShutString
import Derived.ChangeOld
import Derived.Deep.Slices
import Derived.Deep.Fields
namespace Go.Proofs.Ythjlafpfhgbfoaa
open Go Go.RowKit Go.ChangeShapes Go.WideShapes Go.ChangeAt Go.Deep
set_option linter.unusedSimpArgs false
set_option linter.unusedVariables false

section
variable {H : Type} {enc : TypeId × Value → H} {P : Program} {w : World} {base : Nat} {spare : Nat → Bool} {held : Bool}

theorem slc_of_trod {t e : TypeId} {k fuel : Nat} {v : Value} {x : DataW H × List MemPlace} (Good : List Value → Prop) (ht : P.underlying t = some (.slice e)) (hC : P.cellsOf e = k)
    (hg : ∀ n cs y, DataW.trod enc P w base spare held n e cs = some y → Good cs) (h : DataW.trod enc P w base spare held fuel t [v] = some x) : ∃ els, Slc w v k els ∧ ∀ el ∈ els, Good el := by
  rcases open_slice ht h with ⟨hcs, _⟩ | ⟨a, len, cap, m, n, D, Pl, hcs, hb, hl, hm, hmm, hx, hi⟩
  · simp only [List.cons.injEq, and_true] at hcs
    subst hcs
    exact ⟨[], Slc.nil w k, by simp⟩
  · simp only [List.cons.injEq, and_true] at hcs
    subst hcs
    have hlm : len ≤ m := by rw [hmm]; split <;> omega
    have key : ∀ c, c ≤ len → ∃ els : List (List Value), els.length = c ∧ ∀ i el, els[i]? = some el → PtsTo w (a.add (i * k)) el ∧ Good el ∧ el.length = k := by
      intro c
      induction c with
      | zero => exact fun _ => ⟨[], rfl, fun i el h => by simp at h⟩
      | succ c ih =>
        intro hc
        obtain ⟨els, hlen, hel⟩ := ih (by omega)
        obtain ⟨cs, hcs, htr⟩ := hi c (by omega)
        obtain ⟨_, hcl, hat⟩ := World.cells?_some hcs
        rw [hC] at hcl hat
        refine ⟨els ++ [cs], by simp [hlen], fun i el h => ?_⟩
        by_cases hic : i < c
        · rw [List.getElem?_append_left (by omega)] at h
          exact hel i el h
        · rw [List.getElem?_append_right (by omega)] at h
          have hi0 : i - els.length = 0 := by
            rcases Nat.eq_zero_or_pos (i - els.length) with h0 | h0
            · exact h0
            · rw [List.getElem?_eq_none (by simp; omega)] at h; cases h
          rw [hi0] at h
          simp only [List.getElem?_cons_zero, Option.some.injEq] at h
          subst h
          obtain rfl : i = c := by omega
          refine ⟨fun j u hu => ?_, hg _ _ _ htr, hcl⟩
          have hj : j < cs.length := (List.getElem?_eq_some_iff.1 hu).1
          rw [hat j (by omega), hu]
    obtain ⟨els, hlen, hel⟩ := key len (Nat.le_refl _)
    refine ⟨els, ⟨some a, cap, by rw [hlen], by omega, hm, fun el he => ?_, fun _ => ⟨a, rfl, fun i el h => (hel i el h).1⟩⟩, fun el he => ?_⟩
    · obtain ⟨i, hi⟩ := List.mem_iff_getElem?.1 he
      exact (hel i el hi).2.2
    · obtain ⟨i, hi⟩ := List.mem_iff_getElem?.1 he
      exact (hel i el hi).2.1

/-- a struct of one-cell fields -/
theorem fields_of_trod {t : TypeId} {fs : Array Field} {fuel : Nat} {cs : List Value} {x : DataW H × List MemPlace} (hu : P.underlying t = some (.struct fs)) (hone : oneCellFields P fs = true) (hC : P.cellsOf t = fs.size)
    (h : DataW.trod enc P w base spare held fuel t cs = some x) : cs.length = fs.size ∧ ∀ (j : Nat) (f : Field) (v : Value), fs[j]? = some f → cs[j]? = some v → ∃ n y, DataW.trod enc P w base spare held n f.type [v] = some y := by
  obtain ⟨xs, n, _, _, hlen, hxl, hf⟩ := DataW.trod_struct hu h
  refine ⟨by omega, fun j f v hj hv => ?_⟩
  obtain ⟨ho, hk⟩ := hone_of hone j f hj
  have h1 := hf j f hj
  have hjl : j < cs.length := (List.getElem?_eq_some_iff.1 hv).1
  have hjs : j < fs.size := (Array.getElem?_eq_some_iff.1 hj).1
  rw [ho, hk] at h1
  have e : (cs.drop j).take 1 = [v] := by
    rw [List.drop_eq_getElem_cons hjl]
    rw [List.getElem?_eq_getElem hjl] at hv
    simp only [Option.some.injEq] at hv
    simp [hv]
  rw [e, List.getElem?_eq_getElem (by omega)] at h1
  exact ⟨n, _, h1⟩
end

/-- all fields are int -/
def AllInt (k : Nat) (cs : List Value) : Prop := ∃ l : List Int, l.length = k ∧ cs = l.map (.int .i64)
theorem allInt_of {k : Nat} {cs : List Value} (hl : cs.length = k) (h : ∀ v ∈ cs, ∃ n : Int, v = .int .i64 n) : AllInt k cs := by
  induction cs generalizing k with
  | nil => exact ⟨[], by simpa using hl, rfl⟩
  | cons v r ih =>
    obtain ⟨n, rfl⟩ := h v (by simp)
    obtain ⟨l, hll, rfl⟩ := ih (k := r.length) rfl (fun u hu => h u (by simp [hu]))
    exact ⟨n :: l, by simp only [List.length_cons] at hl ⊢; omega, rfl⟩
end Go.Proofs.Ythjlafpfhgbfoaa
