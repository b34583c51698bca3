/- What a byte slice handed to a law reads as. No condition. -/
import Derived.Test.YthjlafpfhgbfoaaOpen
import Derived.Test.YthjlafpfhgbfoaaD1
namespace Go.Proofs.Ythjlafpfhgbfoaa
open Go Go.RowKit Go.ChangeShapes Go.WideShapes Go.ChangeAt Go.Deep
set_option linter.unusedSimpArgs false
set_option linter.unusedVariables false

section
variable {H : Type} {enc : TypeId × Value → H} {w : World} {base : Nat} {spare : Nat → Bool} {held : Bool}
theorem byte_of_trod {fuel : Nat} {cs : List Value} {x : DataW H × List MemPlace} (h : DataW.trod enc Try.prog w base spare held fuel 5 cs = some x) : ∃ b : Int, cs = [.int .u8 b] ∧ 0 ≤ b ∧ b ≤ 255 := by
  obtain ⟨n, e, _, hw⟩ := DataW.trod_int Try.underlying5 h
  refine ⟨n, e, ?_⟩
  have : IntKind.u8.min ≤ n ∧ n ≤ IntKind.u8.max := by simpa [Lit.wf] using hw
  exact this
theorem bytes_map : ∀ {els : List (List Value)}, (∀ el ∈ els, ∃ b : Int, el = [.int .u8 b] ∧ 0 ≤ b ∧ b ≤ 255) → ∃ bs : List Int, els = bs.map (fun b => [.int .u8 b]) ∧ ∀ b ∈ bs, 0 ≤ b ∧ b ≤ 255
  | [], _ => ⟨[], rfl, by simp⟩
  | e :: r, h => by
    obtain ⟨b, rfl, hb⟩ := h e (by simp)
    obtain ⟨bs, rfl, hbs⟩ := bytes_map (els := r) (fun el hel => h el (by simp [hel]))
    refine ⟨b :: bs, rfl, fun y hy => ?_⟩
    rcases List.mem_cons.1 hy with rfl | hy
    · exact hb
    · exact hbs y hy
theorem open_bytes {v : Value} {d : DataW H} {p : List MemPlace} (h : DataW.Trod enc Try.prog w base spare held 22 v d p) (hv : ∃ a len cap, v = .slice a len cap) : ∃ bs, Byts w v bs := by
  obtain ⟨fuel, hf⟩ := h
  have hc : v.cells.toList = [v] := by obtain ⟨a, l, c, rfl⟩ := hv; rfl
  rw [hc] at hf
  obtain ⟨els, hs, hg⟩ := slc_of_trod (k := 1) (fun cs => ∃ b : Int, cs = [.int .u8 b] ∧ 0 ≤ b ∧ b ≤ 255) Try.underlying22 (by kernel_rfl) (fun n cs y hy => byte_of_trod hy) hf
  obtain ⟨bs, rfl, hb⟩ := bytes_map hg
  exact ⟨bs, hs, hb⟩
end
end Go.Proofs.Ythjlafpfhgbfoaa
