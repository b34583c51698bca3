/- What the arguments of the laws on windows read as. No condition. -/
import Derived.Test.YtiandcilkmdfnaaOpen
import Derived.Test.YtiandcilkmdfnaaA2
namespace Go.Proofs.Ytiandcilkmdfnaa
open Go Go.RowKit Go.ChangeShapes Go.WideShapes Go.ChangeAt Go.Deep
set_option linter.unusedSimpArgs false
set_option linter.unusedVariables false

section
variable {H : Type} {enc : TypeId × Value → H} {w : World} {base : Nat} {spare : Nat → Bool} {held : Bool}
theorem win_of_trod {fuel : Nat} {cs : List Value} {x : DataW H × List MemPlace} (h : DataW.trod enc Try.prog w base spare held fuel 44 cs = some x) : ∃ y : Win, cs = y.cells := by
  obtain ⟨hl, hf⟩ := fields_of_trod Try.underlying44 (by kernel_rfl) (by kernel_rfl) h
  match cs, hl with
  | [a, b, c, d], _ =>
    obtain ⟨_, _, h0⟩ := hf 0 _ a rfl rfl
    obtain ⟨_, _, h1⟩ := hf 1 _ b rfl rfl
    obtain ⟨_, _, h2⟩ := hf 2 _ c rfl rfl
    obtain ⟨_, _, h3⟩ := hf 3 _ d rfl rfl
    obtain ⟨n0, e0, _⟩ := DataW.trod_int Try.underlying3 h0
    obtain ⟨n1, e1, _⟩ := DataW.trod_int Try.underlying3 h1
    obtain ⟨n2, e2, _⟩ := DataW.trod_int Try.underlying3 h2
    obtain ⟨n3, e3, _⟩ := DataW.trod_int Try.underlying3 h3
    simp only [List.cons.injEq, and_true] at e0 e1 e2 e3
    subst e0 e1 e2 e3
    exact ⟨⟨n0, n1, n2, n3⟩, rfl⟩
theorem map_of {α : Type} {f : α → List Value} : ∀ {els : List (List Value)}, (∀ el ∈ els, ∃ x, el = f x) → ∃ xs : List α, els = xs.map f
  | [], _ => ⟨[], rfl⟩
  | e :: r, h => by
    obtain ⟨x, rfl⟩ := h e (by simp)
    obtain ⟨xs, rfl⟩ := map_of (els := r) (fun el hel => h el (by simp [hel]))
    exact ⟨x :: xs, rfl⟩
theorem open_wins {v : Value} {d : DataW H} {p : List MemPlace} (h : DataW.Trod enc Try.prog w base spare held 22 v d p) (hv : ∃ a len cap, v = .slice a len cap) : ∃ ws, Wins w v ws := by
  obtain ⟨fuel, hf⟩ := h
  have hc : v.cells.toList = [v] := by obtain ⟨a, l, c, rfl⟩ := hv; rfl
  rw [hc] at hf
  obtain ⟨els, hs, hg⟩ := slc_of_trod (k := 4) (fun cs => ∃ y : Win, cs = y.cells) Try.underlying22 (by kernel_rfl) (fun n cs y hy => win_of_trod hy) hf
  obtain ⟨ws, rfl⟩ := map_of hg
  exact ⟨ws, hs⟩
end
end Go.Proofs.Ytiandcilkmdfnaa
