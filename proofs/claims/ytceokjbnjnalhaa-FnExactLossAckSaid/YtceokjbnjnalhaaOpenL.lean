/- What the arguments of the laws on losses read as. No condition. -/
import Derived.Test.YtceokjbnjnalhaaOpen
import Derived.Test.YtceokjbnjnalhaaL2
namespace Go.Proofs.Ytceokjbnjnalhaa
open Go Go.RowKit Go.ChangeShapes Go.WideShapes Go.ChangeAt Go.Deep
set_option linter.unusedSimpArgs false
set_option linter.unusedVariables false

theorem map_of {α : Type} {f : α → List Value} : ∀ {els : List (List Value)}, (∀ el ∈ els, ∃ x, el = f x) → ∃ xs : List α, els = xs.map f
  | [], _ => ⟨[], rfl⟩
  | e :: r, h => by
    obtain ⟨x, rfl⟩ := h e (by simp)
    obtain ⟨xs, rfl⟩ := map_of (els := r) (fun el hel => h el (by simp [hel]))
    exact ⟨x :: xs, rfl⟩
section
variable {H : Type} {enc : TypeId × Value → H} {w : World} {base : Nat} {spare : Nat → Bool} {held : Bool}
theorem pkt_of_trod {fuel : Nat} {cs : List Value} {x : DataW H × List MemPlace} (h : DataW.trod enc Try.prog w base spare held fuel 86 cs = some x) : ∃ y : Pkt, cs = y.cells := by
  obtain ⟨hl, hf⟩ := fields_of_trod Try.underlying86 (by kernel_rfl) (by kernel_rfl) h
  match cs, hl with
  | [a, b, c], _ =>
    obtain ⟨_, _, h0⟩ := hf 0 _ a rfl rfl
    obtain ⟨_, _, h1⟩ := hf 1 _ b rfl rfl
    obtain ⟨_, _, h2⟩ := hf 2 _ c rfl rfl
    obtain ⟨n0, e0, _⟩ := DataW.trod_int Try.underlying3 h0
    obtain ⟨n1, e1, _⟩ := DataW.trod_int Try.underlying3 h1
    obtain ⟨n2, e2, _⟩ := DataW.trod_int Try.underlying3 h2
    simp only [List.cons.injEq, and_true] at e0 e1 e2
    subst e0 e1 e2
    exact ⟨⟨n0, n1, n2⟩, rfl⟩
theorem rng_of_trod {fuel : Nat} {cs : List Value} {x : DataW H × List MemPlace} (h : DataW.trod enc Try.prog w base spare held fuel 73 cs = some x) : ∃ y : Rng, cs = y.cells := by
  obtain ⟨hl, hf⟩ := fields_of_trod Try.underlying73 (by kernel_rfl) (by kernel_rfl) h
  match cs, hl with
  | [a, b], _ =>
    obtain ⟨_, _, h0⟩ := hf 0 _ a rfl rfl
    obtain ⟨_, _, h1⟩ := hf 1 _ b rfl rfl
    obtain ⟨n0, e0, _⟩ := DataW.trod_int Try.underlying3 h0
    obtain ⟨n1, e1, _⟩ := DataW.trod_int Try.underlying3 h1
    simp only [List.cons.injEq, and_true] at e0 e1
    subst e0 e1
    exact ⟨⟨n0, n1⟩, rfl⟩
theorem open_rngs {v : Value} {d : DataW H} {p : List MemPlace} (h : DataW.Trod enc Try.prog w base spare held 25 v d p) (hv : ∃ a len cap, v = .slice a len cap) : ∃ rs, Rngs w v rs := by
  obtain ⟨fuel, hf⟩ := h
  have hc : v.cells.toList = [v] := by obtain ⟨a, l, c, rfl⟩ := hv; rfl
  rw [hc] at hf
  obtain ⟨els, hs, hg⟩ := slc_of_trod (k := 2) (fun cs => ∃ y : Rng, cs = y.cells) Try.underlying25 (by kernel_rfl) (fun n cs y hy => rng_of_trod hy) hf
  obtain ⟨rs, rfl⟩ := map_of hg
  exact ⟨rs, hs⟩
def LosArg (w : World) (v : Value) (L : Los) : Prop := ∃ fv, v = .agg (L.cells fv).toArray ∧ Pkts w fv L.ps
theorem open_loss {v : Value} {d : DataW H} {p : List MemPlace} {r : Reach} {b0 : Nat} {W : World} (h : DataW.Trod enc Try.prog w base spare held 24 v d p) (hv : Value.okWide Try.prog W r b0 24 v) : ∃ L, LosArg w v L := by
  obtain ⟨fuel, hf⟩ := h
  obtain ⟨cs, rfl, _⟩ := okWide_struct Try.underlying24 hv
  have hc : (Value.agg cs).cells.toList = cs.toList := rfl
  rw [hc] at hf
  obtain ⟨hl, hff⟩ := fields_of_trod Try.underlying24 (by kernel_rfl) (by kernel_rfl) hf
  obtain ⟨l, hl2⟩ : ∃ l, cs.toList = l := ⟨_, rfl⟩
  have hcs : cs = l.toArray := by rw [← hl2]
  rw [hl2] at hl hff
  subst hcs
  match l, hl with
  | [a, b, c], _ =>
    obtain ⟨_, _, h0⟩ := hff 0 _ a rfl rfl
    obtain ⟨_, _, h1⟩ := hff 1 _ b rfl rfl
    obtain ⟨_, _, h2⟩ := hff 2 _ c rfl rfl
    obtain ⟨n0, e0, _⟩ := DataW.trod_int Try.underlying3 h0
    obtain ⟨n2, e2, _⟩ := DataW.trod_int Try.underlying3 h2
    simp only [List.cons.injEq, and_true] at e0 e2
    subst e0 e2
    obtain ⟨els, hs, hg⟩ := slc_of_trod (k := 3) (fun cs => ∃ y : Pkt, cs = y.cells) Try.underlying22 (by kernel_rfl) (fun n cs y hy => pkt_of_trod hy) h1
    obtain ⟨ps, rfl⟩ := map_of hg
    exact ⟨⟨n0, ps, n2⟩, b, rfl, hs⟩
end
end Go.Proofs.Ytceokjbnjnalhaa
