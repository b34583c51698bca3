/- Plain laws on windows: one alone, copies, the order turned round, the total. No condition. -/
import Derived.Test.YtiandcilkmdfnaaD4
import Derived.KernelRfl
namespace Go.Proofs.Ytiandcilkmdfnaa
open Go Go.RowKit
set_option linter.unusedSimpArgs false
set_option linter.unusedVariables false

/-! tables -/
def sgl (s r : Int) : Bool := incr [⟨s, 0, 0, r⟩] ⟨s, 0, 0, r⟩ == 1000 / s || incr [⟨s, 0, 0, r⟩] ⟨s, 0, 0, r⟩ + 1 == 1000 / s
def cpy (n : Nat) (s r : Int) : Bool := decide (n * incr (List.replicate n ⟨s, 0, 0, r⟩) ⟨s, 0, 0, r⟩ ≤ 1000 / s)
theorem sgl_tab : ((List.range 64).all fun s => (List.range 99).all fun r => sgl ((s : Int) + 1) ((r : Int) + 1)) = true := by kernel_rfl
theorem cpy_tab : ((List.range 4).all fun n => (List.range 64).all fun s => (List.range 99).all fun r => cpy (n + 1) ((s : Int) + 1) ((r : Int) + 1)) = true := by kernel_rfl
theorem tab_of {f : Int → Int → Bool} (h : ((List.range 64).all fun s => (List.range 99).all fun r => f ((s : Int) + 1) ((r : Int) + 1)) = true) {s r : Int} (hs : 1 ≤ s ∧ s ≤ 64) (hr : 1 ≤ r ∧ r ≤ 99) : f s r = true := by
  have h1 := List.all_eq_true.1 h (s.toNat - 1) (List.mem_range.2 (by omega))
  have h2 := List.all_eq_true.1 h1 (r.toNat - 1) (List.mem_range.2 (by omega))
  have e1 : ((s.toNat - 1 : Nat) : Int) + 1 = s := by omega
  have e2 : ((r.toNat - 1 : Nat) : Int) + 1 = r := by omega
  rw [e1, e2] at h2
  exact h2
theorem single_fact {x : Win} (h : okW x) : incr [x] x = 1000 / x.s ∨ incr [x] x + 1 = 1000 / x.s := by
  have := tab_of (f := sgl) sgl_tab h.1 h.2.2.2
  have e : incr [(⟨x.s, 0, 0, x.r⟩ : Win)] ⟨x.s, 0, 0, x.r⟩ = incr [x] x := rfl
  simp only [sgl, e, Bool.or_eq_true, beq_iff_eq] at this
  exact this
theorem copies_fact {x : Win} (h : okW x) {n : Nat} (h1 : 1 ≤ n) (h4 : n ≤ 4) : (n : Int) * incr (List.replicate n x) x ≤ 1000 / x.s := by
  have h0 := List.all_eq_true.1 cpy_tab (n - 1) (List.mem_range.2 (by omega))
  rw [show n - 1 + 1 = n by omega] at h0
  have := tab_of (f := cpy n) h0 h.1 h.2.2.2
  have e : incr (List.replicate n (⟨x.s, 0, 0, x.r⟩ : Win)) ⟨x.s, 0, 0, x.r⟩ = incr (List.replicate n x) x := by
    have : n = 1 ∨ n = 2 ∨ n = 3 ∨ n = 4 := by omega
    rcases this with rfl | rfl | rfl | rfl <;> rfl
  simp only [cpy, e, decide_eq_true_eq] at this
  exact this
theorem copies_valid {x : Win} (h : okW x) {n : Nat} (h1 : 1 ≤ n) (h4 : n ≤ 4) : valid (List.replicate n x) :=
  ⟨fun y hy => by rw [List.eq_of_mem_replicate hy]; exact h, by simpa using ⟨h1, h4⟩⟩

/-! the order -/
theorem foldl_max_out (l : List Int) : ∀ a b : Int, l.foldl max (max a b) = max b (l.foldl max a) := by
  induction l with
  | nil => intro a b; simp only [List.foldl_nil]; omega
  | cons x r ih =>
    intro a b
    simp only [List.foldl_cons]
    rw [show max (max a b) x = max (max a x) b by omega, ih]
theorem bestI_rev (ws : List Win) : bestI ws.reverse = bestI ws := by
  unfold bestI
  rw [List.map_reverse]
  generalize ws.map bq = l
  induction l with
  | nil => rfl
  | cons x r ih =>
    rw [List.reverse_cons, List.foldl_append, ih]
    simp only [List.foldl_cons, List.foldl_nil]
    rw [foldl_max_out, Int.max_comm]
theorem sumI_rev (ws : List Win) : sumI ws.reverse = sumI ws := by
  unfold sumI
  rw [List.map_reverse]
  generalize ws.map sq = l
  induction l with
  | nil => rfl
  | cons x r ih =>
    rw [List.reverse_cons, List.sum_append, ih]
    simp only [List.sum_cons, List.sum_nil]
    omega
theorem incr_rev (ws : List Win) (x : Win) : incr ws.reverse x = incr ws x := by unfold incr; rw [bestI_rev, sumI_rev]
theorem valid_rev {ws : List Win} (h : valid ws) : valid ws.reverse := ⟨fun y hy => h.1 y (List.mem_reverse.1 hy), by simpa using h.2⟩
theorem get_rev {ws : List Win} {i : Int} {x : Win} (h0 : 0 ≤ i) (hx : ws[i.toNat]? = some x) : ws.reverse[((ws.length : Int) - 1 - i).toNat]? = some x := by
  have hi := (List.getElem?_eq_some_iff.1 hx).1
  rw [List.getElem?_reverse (by omega), ← hx]
  congr 1
  omega
theorem rev_step {ws : List Win} {j : Nat} {y : Win} (hy : ws[j]? = some y) : (ws.drop (j + 1)).reverse ++ [y] = (ws.drop j).reverse := by
  obtain ⟨hj, e⟩ := List.getElem?_eq_some_iff.1 hy
  rw [List.drop_eq_getElem_cons hj, e, List.reverse_cons]

/-! the total -/
theorem sumS_set : ∀ {ws : List Win} {n : Nat} {x : Win} (z : Win), ws[n]? = some x → sumS (ws.set n z) = sumS ws - x.s + z.s
  | [], n, x, z, h => by simp at h
  | y :: r, 0, x, z, h => by
    simp only [List.getElem?_cons_zero, Option.some.injEq] at h
    subst h
    simp only [sumS, List.set_cons_zero, List.map_cons, List.sum_cons]
    omega
  | y :: r, n + 1, x, z, h => by
    have ih := sumS_set (ws := r) (n := n) z (by simpa using h)
    simp only [sumS, List.set_cons_succ, List.map_cons, List.sum_cons] at ih ⊢
    omega
end Go.Proofs.Ytiandcilkmdfnaa
