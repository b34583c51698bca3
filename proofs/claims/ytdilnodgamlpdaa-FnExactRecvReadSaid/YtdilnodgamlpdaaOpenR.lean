/- What a receiving side handed to a law reads as. No condition. -/
import Derived.Test.YtdilnodgamlpdaaOpen
import Derived.Test.YtdilnodgamlpdaaR0
namespace Go.Proofs.Ytdilnodgamlpdaa
open Go Go.RowKit Go.ChangeShapes Go.WideShapes Go.ChangeAt Go.Deep
set_option linter.unusedSimpArgs false
set_option linter.unusedVariables false

def pcOk (p : Pc) : Prop := i64 p.off ∧ p.dat.length ≤ 9223372036854775807
theorem pcs_of : ∀ {els : List (List Value)}, (∀ el ∈ els, ∃ x : Pc, el = x.cells ∧ pcOk x) → ∃ xs : List Pc, els = xs.map Pc.cells ∧ ∀ x ∈ xs, pcOk x
  | [], _ => ⟨[], rfl, by simp⟩
  | e :: r, h => by
    obtain ⟨x, rfl, hx⟩ := h e (by simp)
    obtain ⟨xs, rfl, hxs⟩ := pcs_of (els := r) (fun el hel => h el (by simp [hel]))
    refine ⟨x :: xs, rfl, fun y hy => ?_⟩
    rcases List.mem_cons.1 hy with rfl | hy
    · exact hx
    · exact hxs y hy
theorem i64_wf {n : Int} (h : (Lit.int .i64 n).wf = true) : i64 n := by
  have : IntKind.i64.min ≤ n ∧ n ≤ IntKind.i64.max := by simpa [Lit.wf] using h
  exact this
section
variable {H : Type} {enc : TypeId × Value → H} {w : World} {base : Nat} {spare : Nat → Bool} {held : Bool}
theorem pc_of_trod {fuel : Nat} {cs : List Value} {x : DataW H × List MemPlace} (h : DataW.trod enc Try.prog w base spare held fuel 76 cs = some x) : ∃ y : Pc, cs = y.cells ∧ pcOk y := by
  obtain ⟨hl, hf⟩ := fields_of_trod Try.underlying76 (by kernel_rfl) (by kernel_rfl) h
  match cs, hl with
  | [a, b], _ =>
    obtain ⟨_, _, h0⟩ := hf 0 _ a rfl rfl
    obtain ⟨_, _, h1⟩ := hf 1 _ b rfl rfl
    obtain ⟨n0, e0, _, w0⟩ := DataW.trod_int Try.underlying3 h0
    obtain ⟨s1, e1, _, w1⟩ := DataW.trod_string Try.underlying9 h1
    simp only [List.cons.injEq, and_true] at e0 e1
    subst e0 e1
    refine ⟨⟨n0, s1.data.toList⟩, by unfold Pc.cells; rw [sv_of], i64_wf w0, ?_⟩
    have hl : s1.data.toList.length = s1.size := by rw [Array.length_toList]; rfl
    show s1.data.toList.length ≤ _
    rw [hl]; unfold maxLen at w1; omega
def RcvArg (w : World) (v : Value) (R : Rcv) : Prop := ∃ fv, v = .agg (R.cells fv).toArray ∧ Pcs w fv R.ps ∧ wfR R
theorem open_recv {v : Value} {d : DataW H} {p : List MemPlace} {r : Reach} {b0 : Nat} {W : World} (h : DataW.Trod enc Try.prog w base spare held 32 v d p) (hv : Value.okWide Try.prog W r b0 32 v) : ∃ R, RcvArg w v R := by
  obtain ⟨fuel, hf⟩ := h
  obtain ⟨cs, rfl, _⟩ := okWide_struct Try.underlying32 hv
  have hc : (Value.agg cs).cells.toList = cs.toList := rfl
  rw [hc] at hf
  obtain ⟨hl, hff⟩ := fields_of_trod Try.underlying32 (by kernel_rfl) (by kernel_rfl) hf
  obtain ⟨l, hl2⟩ : ∃ l, cs.toList = l := ⟨_, rfl⟩
  have hcs : cs = l.toArray := by rw [← hl2]
  rw [hl2] at hl hff
  subst hcs
  match l, hl with
  | [a, b, c, e], _ =>
    obtain ⟨_, _, h0⟩ := hff 0 _ a rfl rfl
    obtain ⟨_, _, h1⟩ := hff 1 _ b rfl rfl
    obtain ⟨_, _, h2⟩ := hff 2 _ c rfl rfl
    obtain ⟨_, _, h3⟩ := hff 3 _ e rfl rfl
    obtain ⟨n0, e0, _, w0⟩ := DataW.trod_int Try.underlying3 h0
    obtain ⟨n2, e2, _, w2⟩ := DataW.trod_int Try.underlying3 h2
    obtain ⟨n3, e3, _, w3⟩ := DataW.trod_int Try.underlying3 h3
    simp only [List.cons.injEq, and_true] at e0 e2 e3
    subst e0 e2 e3
    obtain ⟨els, hs, hg⟩ := slc_of_trod (k := 2) (fun cs => ∃ y : Pc, cs = y.cells ∧ pcOk y) Try.underlying30 (by kernel_rfl) (fun n cs y hy => pc_of_trod hy) h1
    obtain ⟨ps, rfl, hps⟩ := pcs_of hg
    exact ⟨⟨n0, ps, n2, n3⟩, b, rfl, hs, i64_wf w0, i64_wf w2, i64_wf w3, hps⟩
end
end Go.Proofs.Ytdilnodgamlpdaa
