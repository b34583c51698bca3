/- What a sending side, and a part, handed to a law reads as. No condition. -/
import Derived.Test.YtkolihdbehjffaaOpen
import Derived.Test.YtkolihdbehjffaaW3
namespace Go.Proofs.Ytkolihdbehjffaa
open Go Go.RowKit Go.ChangeShapes Go.WideShapes Go.ChangeAt Go.Deep
set_option linter.unusedSimpArgs false
set_option linter.unusedVariables false

theorem rngs_of : ∀ {els : List (List Value)}, (∀ el ∈ els, ∃ x : Rng, el = x.cells) → ∃ xs : List Rng, els = xs.map Rng.cells
  | [], _ => ⟨[], rfl⟩
  | e :: r, h => by
    obtain ⟨x, rfl⟩ := h e (by simp)
    obtain ⟨xs, rfl⟩ := rngs_of (els := r) (fun el hel => h el (by simp [hel]))
    exact ⟨x :: xs, rfl⟩
section
variable {H : Type} {enc : TypeId × Value → H} {w : World} {base : Nat} {spare : Nat → Bool} {held : Bool}
theorem rng_of_trod {fuel : Nat} {cs : List Value} {x : DataW H × List MemPlace} (h : DataW.trod enc Try.prog w base spare held fuel 76 cs = some x) : ∃ y : Rng, cs = y.cells := by
  obtain ⟨hl, hf⟩ := fields_of_trod Try.underlying76 (by kernel_rfl) (by kernel_rfl) h
  match cs, hl with
  | [a, b], _ =>
    obtain ⟨_, _, h0⟩ := hf 0 _ a rfl rfl
    obtain ⟨_, _, h1⟩ := hf 1 _ b rfl rfl
    obtain ⟨n0, e0, _, w0⟩ := DataW.trod_int Try.underlying3 h0
    obtain ⟨n1, e1, _, w1⟩ := DataW.trod_int Try.underlying3 h1
    simp only [List.cons.injEq, and_true] at e0 e1
    subst e0 e1
    exact ⟨⟨n0, n1⟩, rfl⟩
def SndArg (w : World) (v : Value) (S : Snd) : Prop := ∃ av lv, v = .agg (S.cells av lv).toArray ∧ Rngs w av S.ack ∧ Rngs w lv S.lost ∧ wfS S
theorem str_len {s1 : ByteArray} (w1 : s1.size ≤ maxLen) : s1.data.toList.length ≤ 9223372036854775807 := by
  have hl : s1.data.toList.length = s1.size := by rw [Array.length_toList]; rfl
  rw [hl]; unfold maxLen at w1; omega
theorem open_send {v : Value} {d : DataW H} {p : List MemPlace} {r : Reach} {b0 : Nat} {W : World} (h : DataW.Trod enc Try.prog w base spare held 37 v d p) (hv : Value.okWide Try.prog W r b0 37 v) : ∃ R, SndArg w v R := by
  obtain ⟨fuel, hf⟩ := h
  obtain ⟨cs, rfl, _⟩ := okWide_struct Try.underlying37 hv
  have hc : (Value.agg cs).cells.toList = cs.toList := rfl
  rw [hc] at hf
  obtain ⟨hl, hff⟩ := fields_of_trod Try.underlying37 (by kernel_rfl) (by kernel_rfl) hf
  obtain ⟨l, hl2⟩ : ∃ l, cs.toList = l := ⟨_, rfl⟩
  have hcs : cs = l.toArray := by rw [← hl2]
  rw [hl2] at hl hff
  subst hcs
  match l, hl with
  | [a, b, c, e, f, g], _ =>
    obtain ⟨_, _, h0⟩ := hff 0 _ a rfl rfl
    obtain ⟨_, _, h1⟩ := hff 1 _ b rfl rfl
    obtain ⟨_, _, h2⟩ := hff 2 _ c rfl rfl
    obtain ⟨_, _, h3⟩ := hff 3 _ e rfl rfl
    obtain ⟨_, _, h4⟩ := hff 4 _ f rfl rfl
    obtain ⟨_, _, h5⟩ := hff 5 _ g rfl rfl
    obtain ⟨s0, e0, _, w0⟩ := DataW.trod_string Try.underlying9 h0
    obtain ⟨n1, e1, _⟩ := DataW.trod_bool Try.underlying4 h1
    obtain ⟨n2, e2, _, w2⟩ := DataW.trod_int Try.underlying3 h2
    obtain ⟨n3, e3, _, w3⟩ := DataW.trod_int Try.underlying3 h3
    simp only [List.cons.injEq, and_true] at e0 e1 e2 e3
    subst e0 e1 e2 e3
    obtain ⟨els, hs, hg⟩ := slc_of_trod (k := 2) (fun cs => ∃ y : Rng, cs = y.cells) Try.underlying35 (by kernel_rfl) (fun n cs y hy => rng_of_trod hy) h4
    obtain ⟨els2, hs2, hg2⟩ := slc_of_trod (k := 2) (fun cs => ∃ y : Rng, cs = y.cells) Try.underlying35 (by kernel_rfl) (fun n cs y hy => rng_of_trod hy) h5
    obtain ⟨ps, rfl⟩ := rngs_of hg
    obtain ⟨qs, rfl⟩ := rngs_of hg2
    exact ⟨⟨s0.data.toList, n1, n2, n3, ps, qs⟩, f, g, by unfold Snd.cells; rw [sv_of], hs, hs2, str_len w0⟩
def PrtArg (v : Value) (p : Prt) : Prop := v = .agg p.cells.toArray ∧ p.dat.length ≤ 9223372036854775807 ∧ i64 p.off
theorem i64_wf {n : Int} (h : (Lit.int .i64 n).wf = true) : i64 n := by
  have : IntKind.i64.min ≤ n ∧ n ≤ IntKind.i64.max := by simpa [Lit.wf] using h
  exact this
theorem open_part {v : Value} {d : DataW H} {p : List MemPlace} {r : Reach} {b0 : Nat} {W : World} (h : DataW.Trod enc Try.prog w base spare held 42 v d p) (hv : Value.okWide Try.prog W r b0 42 v) : ∃ R, PrtArg v R := by
  obtain ⟨fuel, hf⟩ := h
  obtain ⟨cs, rfl, _⟩ := okWide_struct Try.underlying42 hv
  have hc : (Value.agg cs).cells.toList = cs.toList := rfl
  rw [hc] at hf
  obtain ⟨hl, hff⟩ := fields_of_trod Try.underlying42 (by kernel_rfl) (by kernel_rfl) hf
  obtain ⟨l, hl2⟩ : ∃ l, cs.toList = l := ⟨_, rfl⟩
  have hcs : cs = l.toArray := by rw [← hl2]
  rw [hl2] at hl hff
  subst hcs
  match l, hl with
  | [a, b, c], _ =>
    obtain ⟨_, _, h0⟩ := hff 0 _ a rfl rfl
    obtain ⟨_, _, h1⟩ := hff 1 _ b rfl rfl
    obtain ⟨_, _, h2⟩ := hff 2 _ c rfl rfl
    obtain ⟨n0, e0, _, w0⟩ := DataW.trod_int Try.underlying3 h0
    obtain ⟨s1, e1, _, w1⟩ := DataW.trod_string Try.underlying9 h1
    obtain ⟨b2, e2, _⟩ := DataW.trod_bool Try.underlying4 h2
    simp only [List.cons.injEq, and_true] at e0 e1 e2
    subst e0 e1 e2
    exact ⟨⟨n0, s1.data.toList, b2⟩, by unfold Prt.cells; rw [sv_of], str_len w1, i64_wf w0⟩
end
end Go.Proofs.Ytkolihdbehjffaa
