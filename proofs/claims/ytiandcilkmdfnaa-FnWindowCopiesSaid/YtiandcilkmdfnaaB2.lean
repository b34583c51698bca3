/- Contracts of the increase of a window. No condition. -/
import Derived.Test.YtiandcilkmdfnaaB1
import Derived.KernelRfl

namespace Go.Proofs.Ytiandcilkmdfnaa
open Go Go.RowKit
set_option linter.unusedSimpArgs false
set_option linter.unusedVariables false

def hasW (ws : List Win) (i : Int) : Prop := valid ws ∧ 0 ≤ i ∧ i < ws.length
def bq (x : Win) : Int := x.s * 100000000 / (x.r * x.r)
def sq (x : Win) : Int := x.s * 10000 / x.r
def bestI (ws : List Win) : Int := (ws.map bq).foldl max 0
def sumI (ws : List Win) : Int := (ws.map sq).sum
def incr (ws : List Win) (x : Win) : Int := min (1000 * bestI ws / (sumI ws * sumI ws)) (1000 / x.s)
noncomputable def incV (ws : List Win) (i : Int) : Int := cond (tr (hasW ws i)) (incr ws ((ws[i.toNat]?).getD ⟨0, 0, 0, 0⟩)) (-1)
theorem incV_no {ws : List Win} {i : Int} (h : ¬ hasW ws i) : incV ws i = -1 := by unfold incV; rw [tr_false h]; rfl
theorem incV_yes {ws : List Win} {i : Int} {x : Win} (h : hasW ws i) (hx : ws[i.toNat]? = some x) : incV ws i = incr ws x := by unfold incV; rw [tr_true h, hx]; rfl
theorem hasW.get {ws : List Win} {i : Int} (h : hasW ws i) : ∃ x, ws[i.toNat]? = some x ∧ okW x := by
  obtain ⟨hv, h0, h1⟩ := h
  obtain ⟨x, hx⟩ := get_of (l := ws) (k := i.toNat) (by omega)
  exact ⟨x, hx, hv.1 x (List.mem_of_getElem? hx)⟩

theorem rr_bd {r : Int} (h : 1 ≤ r ∧ r ≤ 99) : 1 ≤ r * r ∧ r * r ≤ 9801 := by
  have h1 : 1 * 1 ≤ r * r := Int.mul_le_mul h.1 h.1 (by omega) (by omega)
  have h2 : r * r ≤ 99 * 99 := Int.mul_le_mul h.2 h.2 (by omega) (by omega)
  omega
theorem bq_bd {x : Win} (h : okW x) : 0 ≤ bq x ∧ bq x ≤ 6400000000 := by
  obtain ⟨hs, _, _, hr⟩ := h
  have := rr_bd hr
  unfold bq
  refine ⟨Int.ediv_nonneg (by omega) (by omega), ?_⟩
  have := Int.ediv_le_self (x.r * x.r) (show 0 ≤ x.s * 100000000 by omega)
  omega
theorem sq_bd {x : Win} (h : okW x) : 1 ≤ sq x ∧ sq x ≤ 640000 := by
  obtain ⟨hs, _, _, hr⟩ := h
  unfold sq
  have := Int.ediv_le_self x.r (show 0 ≤ x.s * 10000 by omega)
  refine ⟨?_, by omega⟩
  rw [Int.le_ediv_iff_mul_le (by omega)]
  omega
theorem bestI_snoc {ws : List Win} {k : Nat} {x : Win} (hx : ws[k]? = some x) : bestI (ws.take (k + 1)) = max (bestI (ws.take k)) (bq x) := by
  rw [take_succ_of hx]; simp [bestI, List.foldl_append]
theorem sumI_snoc {ws : List Win} {k : Nat} {x : Win} (hx : ws[k]? = some x) : sumI (ws.take (k + 1)) = sumI (ws.take k) + sq x := by
  rw [take_succ_of hx]; simp [sumI, List.sum_append]
theorem foldmax_bd {B : Int} : ∀ {l : List Int} {a : Int}, 0 ≤ a → a ≤ B → (∀ x ∈ l, x ≤ B) → a ≤ l.foldl max a ∧ l.foldl max a ≤ B
  | [], a, h0, h1, _ => by simp; exact h1
  | x :: r, a, h0, h1, h => by
    have hx := h x (by simp)
    have ih := foldmax_bd (l := r) (a := max a x) (by omega) (by omega) (fun y hy => h y (by simp [hy]))
    simp only [List.foldl_cons]
    omega
theorem bestI_bd {ws : List Win} (h : ∀ x ∈ ws, okW x) : 0 ≤ bestI ws ∧ bestI ws ≤ 6400000000 :=
  foldmax_bd (by omega) (by omega) (fun y hy => by
    obtain ⟨x, hx, rfl⟩ := List.mem_map.1 hy
    exact (bq_bd (h x hx)).2)
theorem sumI_bd : ∀ {ws : List Win}, (∀ x ∈ ws, okW x) → (ws.length : Int) ≤ sumI ws ∧ sumI ws ≤ 640000 * ws.length
  | [], _ => by simp [sumI]
  | x :: r, h => by
    have ih := sumI_bd (ws := r) (fun y hy => h y (by simp [hy]))
    have hx := sq_bd (h x (by simp))
    simp only [sumI, List.map_cons, List.sum_cons, List.length_cons] at ih ⊢
    omega
theorem sumI_sq {ws : List Win} (h : valid ws) : 1 ≤ sumI ws * sumI ws ∧ sumI ws * sumI ws ≤ 6553600000000 := by
  have hb := sumI_bd h.1
  have h1 := h.2
  have h2 : 1 * 1 ≤ sumI ws * sumI ws := Int.mul_le_mul (by omega) (by omega) (by omega) (by omega)
  have h3 : sumI ws * sumI ws ≤ 2560000 * 2560000 := Int.mul_le_mul (by omega) (by omega) (by omega) (by omega)
  omega

theorem c44 (w : World) (v : Value) (ws : List Win) (i : Int) (hS : Wins w v ws) : Calls Try.prog 44 #[v, .int .i64 i] w (RetX (hasW ws i) w) := by
  refine Calls_of (args := [_, _]) Try.func44 Try.ntmps44 rfl rfl ?_
  repeat' (first | ((with_reducible refine LWk ?_); first | refine LW_move rfl ?_ | ((with_reducible refine LWo ?_); first | refine LW_assign rfl ?_ | refine LW_field rfl ?_ | ((with_reducible refine LWl ?_); first  | fail) | ((with_reducible refine LWb ?_); first | refine LW_add rfl rfl (by omega) ?_ | (refine LW_lss rfl rfl (fun _ => ?_) (fun _ => ?_) <;> try (exfalso; omega)) | refine LW_sub rfl rfl (by omega) ?_ | (refine LW_eql rfl rfl (fun _ => ?_) (fun _ => ?_) <;> try (exfalso; omega)) | (refine LW_neq rfl rfl (fun _ => ?_) (fun _ => ?_) <;> try (exfalso; omega)) | (refine LW_leq rfl rfl (fun _ => ?_) (fun _ => ?_) <;> try (exfalso; omega)) | (refine LW_gtr rfl rfl (fun _ => ?_) (fun _ => ?_) <;> try (exfalso; omega)) | (refine LW_geq rfl rfl (fun _ => ?_) (fun _ => ?_) <;> try (exfalso; omega)) | refine LW_mul rfl rfl (by omega) ?_ | refine LW_quo rfl rfl (by omega) ?_ | refine LW_rem rfl rfl (by omega) ?_) | ((with_reducible refine LWc ?_); first | refine LW_max rfl rfl ?_ | refine LW_min rfl rfl ?_  | fail) | refine LW_not rfl ?_ | refine LW_nilc rfl ?_ | refine LW_pickT rfl rfl ?_ | refine LW_pickF rfl rfl ?_ | refine LW_extract rfl rfl ?_ ) | refine LW_nil ?_ | refine LW_guard rfl rfl ?_ | refine LW_pass rfl rfl rfl ?_ | refine LW_passU rfl rfl ?_) | ((with_reducible refine CWk ?_); first | refine CW_seq ?_ | refine CW_region ?_ | refine CW_true rfl ?_ | refine CW_false rfl ?_ | refine CW_skip ?_ | refine CW_block ?_ | refine CW_ret ?_ | refine CW_exit ?_) | (with_reducible refine N_then ?_) | (with_reducible refine N_block ?_) | (with_reducible refine R_then ?_) | (with_reducible refine R_block ?_) | (with_reducible refine X_then ?_) | (with_reducible refine X_block rfl ?_) | (with_reducible refine X_block_ne rfl ?_))
  refine LW_callX rfl call22 (c22 w v ws hS) (fun w0 x0 hv => ?_) (fun w0 x0 hv => ?_)
  all_goals have hlen := hS.le
  all_goals have hS0 := hS.ext x0
  all_goals repeat' (first | ((with_reducible refine LWk ?_); first | refine LW_move rfl ?_ | ((with_reducible refine LWo ?_); first | refine LW_assign rfl ?_ | refine LW_field rfl ?_ | ((with_reducible refine LWl ?_); first  | fail) | ((with_reducible refine LWb ?_); first | refine LW_add rfl rfl (by omega) ?_ | (refine LW_lss rfl rfl (fun _ => ?_) (fun _ => ?_) <;> try (exfalso; omega)) | refine LW_sub rfl rfl (by omega) ?_ | (refine LW_eql rfl rfl (fun _ => ?_) (fun _ => ?_) <;> try (exfalso; omega)) | (refine LW_neq rfl rfl (fun _ => ?_) (fun _ => ?_) <;> try (exfalso; omega)) | (refine LW_leq rfl rfl (fun _ => ?_) (fun _ => ?_) <;> try (exfalso; omega)) | (refine LW_gtr rfl rfl (fun _ => ?_) (fun _ => ?_) <;> try (exfalso; omega)) | (refine LW_geq rfl rfl (fun _ => ?_) (fun _ => ?_) <;> try (exfalso; omega)) | refine LW_mul rfl rfl (by omega) ?_ | refine LW_quo rfl rfl (by omega) ?_ | refine LW_rem rfl rfl (by omega) ?_) | ((with_reducible refine LWc ?_); first | refine LW_max rfl rfl ?_ | refine LW_min rfl rfl ?_  | refine LW_len hS0 rfl (List.length_map _) ?_ | refine LW_callB rfl call41 (c41 _ _ _ _) (fun _ => ?_) (fun _ => ?_) | fail) | refine LW_not rfl ?_ | refine LW_nilc rfl ?_ | refine LW_pickT rfl rfl ?_ | refine LW_pickF rfl rfl ?_ | refine LW_extract rfl rfl ?_ ) | refine LW_nil ?_ | refine LW_guard rfl rfl ?_ | refine LW_pass rfl rfl rfl ?_ | refine LW_passU rfl rfl ?_) | ((with_reducible refine CWk ?_); first | refine CW_seq ?_ | refine CW_region ?_ | refine CW_true rfl ?_ | refine CW_false rfl ?_ | refine CW_skip ?_ | refine CW_block ?_ | refine CW_ret ?_ | refine CW_exit ?_) | (with_reducible refine N_then ?_) | (with_reducible refine N_block ?_) | (with_reducible refine R_then ?_) | (with_reducible refine R_block ?_) | (with_reducible refine X_then ?_) | (with_reducible refine X_block rfl ?_) | (with_reducible refine X_block_ne rfl ?_))
  all_goals refine ⟨_, ResOK.tmp rfl .nil, ?_⟩
  all_goals refine ⟨?_, x0⟩
  · rw [tr_true (show hasW ws i from ⟨hv, by omega, by omega⟩)]; rfl
  · rw [tr_false (show ¬ hasW ws i from fun h => by have := h.2; omega)]; rfl
  · rw [tr_false (show ¬ hasW ws i from fun h => hv h.1)]; rfl

theorem c43 (w : World) (v : Value) (ws : List Win) (i : Int) (x : Win) (hS : Wins w v ws) (hv : valid ws) (h0 : 0 ≤ i) (hx : ws[i.toNat]? = some x) : Calls Try.prog 43 #[v, .int .i64 i] w (RetV (.int .i64 (incr ws x)) w) := by
  refine Calls_of (args := [_, _]) Try.func43 Try.ntmps43 rfl rfl ?_
  have hlen := hv.2.2
  repeat' (first | ((with_reducible refine LWk ?_); first | refine LW_move rfl ?_ | ((with_reducible refine LWo ?_); first | refine LW_assign rfl ?_ | refine LW_field rfl ?_ | ((with_reducible refine LWl ?_); first  | fail) | ((with_reducible refine LWb ?_); first | refine LW_add rfl rfl (by omega) ?_ | (refine LW_lss rfl rfl (fun _ => ?_) (fun _ => ?_) <;> try (exfalso; omega)) | refine LW_sub rfl rfl (by omega) ?_ | (refine LW_eql rfl rfl (fun _ => ?_) (fun _ => ?_) <;> try (exfalso; omega)) | (refine LW_neq rfl rfl (fun _ => ?_) (fun _ => ?_) <;> try (exfalso; omega)) | (refine LW_leq rfl rfl (fun _ => ?_) (fun _ => ?_) <;> try (exfalso; omega)) | (refine LW_gtr rfl rfl (fun _ => ?_) (fun _ => ?_) <;> try (exfalso; omega)) | (refine LW_geq rfl rfl (fun _ => ?_) (fun _ => ?_) <;> try (exfalso; omega)) | refine LW_mul rfl rfl (by omega) ?_ | refine LW_quo rfl rfl (by omega) ?_ | refine LW_rem rfl rfl (by omega) ?_) | ((with_reducible refine LWc ?_); first | refine LW_max rfl rfl ?_ | refine LW_min rfl rfl ?_  | fail) | refine LW_not rfl ?_ | refine LW_nilc rfl ?_ | refine LW_pickT rfl rfl ?_ | refine LW_pickF rfl rfl ?_ | refine LW_extract rfl rfl ?_ ) | refine LW_nil ?_ | refine LW_guard rfl rfl ?_ | refine LW_pass rfl rfl rfl ?_ | refine LW_passU rfl rfl ?_) | ((with_reducible refine CWk ?_); first | refine CW_seq ?_ | refine CW_region ?_ | refine CW_true rfl ?_ | refine CW_false rfl ?_ | refine CW_skip ?_ | refine CW_block ?_ | refine CW_ret ?_ | refine CW_exit ?_) | (with_reducible refine N_then ?_) | (with_reducible refine N_block ?_) | (with_reducible refine R_then ?_) | (with_reducible refine R_block ?_) | (with_reducible refine X_then ?_) | (with_reducible refine X_block rfl ?_) | (with_reducible refine X_block_ne rfl ?_))
  refine CW_loop (α := Nat) (fun k => [(0, v), (1, .int .i64 i), (5, .int .i64 (bestI (ws.take k))), (6, .int .i64 (sumI (ws.take k))), (7, .int .i64 k)]) (fun k w' => w' = w ∧ k ≤ ws.length) (fun k => ws.length - k) 0
    ⟨rfl, rfl, rfl, rfl, rfl, trivial⟩ ⟨rfl, by omega⟩ ?_
  rintro k w1 ⟨rfl, hk⟩
  have hok : ∀ y ∈ ws.take k, okW y := fun y hy => hv.1 y (List.mem_of_mem_take hy)
  have b1 := bestI_bd hok
  have b2 := sumI_bd hok
  rw [List.length_take, Nat.min_eq_left hk] at b2
  repeat' (first | ((with_reducible refine LWk ?_); first | refine LW_move rfl ?_ | ((with_reducible refine LWo ?_); first | refine LW_assign rfl ?_ | refine LW_field rfl ?_ | ((with_reducible refine LWl ?_); first  | fail) | ((with_reducible refine LWb ?_); first | refine LW_add rfl rfl (by omega) ?_ | (refine LW_lss rfl rfl (fun _ => ?_) (fun _ => ?_) <;> try (exfalso; omega)) | refine LW_sub rfl rfl (by omega) ?_ | (refine LW_eql rfl rfl (fun _ => ?_) (fun _ => ?_) <;> try (exfalso; omega)) | (refine LW_neq rfl rfl (fun _ => ?_) (fun _ => ?_) <;> try (exfalso; omega)) | (refine LW_leq rfl rfl (fun _ => ?_) (fun _ => ?_) <;> try (exfalso; omega)) | (refine LW_gtr rfl rfl (fun _ => ?_) (fun _ => ?_) <;> try (exfalso; omega)) | (refine LW_geq rfl rfl (fun _ => ?_) (fun _ => ?_) <;> try (exfalso; omega)) | refine LW_mul rfl rfl (by omega) ?_ | refine LW_quo rfl rfl (by omega) ?_ | refine LW_rem rfl rfl (by omega) ?_) | ((with_reducible refine LWc ?_); first | refine LW_max rfl rfl ?_ | refine LW_min rfl rfl ?_  | refine LW_len hS rfl (List.length_map _) ?_ | fail) | refine LW_not rfl ?_ | refine LW_nilc rfl ?_ | refine LW_pickT rfl rfl ?_ | refine LW_pickF rfl rfl ?_ | refine LW_extract rfl rfl ?_ ) | refine LW_nil ?_ | refine LW_guard rfl rfl ?_ | refine LW_pass rfl rfl rfl ?_ | refine LW_passU rfl rfl ?_) | ((with_reducible refine CWk ?_); first | refine CW_seq ?_ | refine CW_region ?_ | refine CW_true rfl ?_ | refine CW_false rfl ?_ | refine CW_skip ?_ | refine CW_block ?_ | refine CW_ret ?_ | refine CW_exit ?_) | (with_reducible refine N_then ?_) | (with_reducible refine N_block ?_) | (with_reducible refine R_then ?_) | (with_reducible refine R_block ?_) | (with_reducible refine X_then ?_) | (with_reducible refine X_block rfl ?_) | (with_reducible refine X_block_ne rfl ?_))
  · obtain ⟨y, hy⟩ := get_of (l := ws) (k := k) (by omega)
    have hoky := hv.1 y (List.mem_of_getElem? hy)
    have q1 := bq_bd hoky
    have q2 := sq_bd hoky
    have q3 := rr_bd hoky.2.2.2
    have q4 := hoky.1
    have q5 := hoky.2.2.2
    have q6 : 0 ≤ y.s * 100000000 / (y.r * y.r) ∧ y.s * 100000000 / (y.r * y.r) ≤ 6400000000 := q1
    have q7 : 1 ≤ y.s * 10000 / y.r ∧ y.s * 10000 / y.r ≤ 640000 := q2
    refine LW_index hS rfl rfl (by omega) (Wins.at hy) (fun p hp => ?_)
    repeat' (first | ((with_reducible refine LWk ?_); first | refine LW_move rfl ?_ | ((with_reducible refine LWo ?_); first | refine LW_assign rfl ?_ | refine LW_field rfl ?_ | ((with_reducible refine LWl ?_); first  | refine LW_load rfl (hp.cell _ rfl) ?_ | fail) | ((with_reducible refine LWb ?_); first | refine LW_add rfl rfl (by omega) ?_ | (refine LW_lss rfl rfl (fun _ => ?_) (fun _ => ?_) <;> try (exfalso; omega)) | refine LW_sub rfl rfl (by omega) ?_ | (refine LW_eql rfl rfl (fun _ => ?_) (fun _ => ?_) <;> try (exfalso; omega)) | (refine LW_neq rfl rfl (fun _ => ?_) (fun _ => ?_) <;> try (exfalso; omega)) | (refine LW_leq rfl rfl (fun _ => ?_) (fun _ => ?_) <;> try (exfalso; omega)) | (refine LW_gtr rfl rfl (fun _ => ?_) (fun _ => ?_) <;> try (exfalso; omega)) | (refine LW_geq rfl rfl (fun _ => ?_) (fun _ => ?_) <;> try (exfalso; omega)) | refine LW_mul rfl rfl (by omega) ?_ | refine LW_quo rfl rfl (by omega) ?_ | refine LW_rem rfl rfl (by omega) ?_) | ((with_reducible refine LWc ?_); first | refine LW_max rfl rfl ?_ | refine LW_min rfl rfl ?_  | fail) | refine LW_not rfl ?_ | refine LW_nilc rfl ?_ | refine LW_pickT rfl rfl ?_ | refine LW_pickF rfl rfl ?_ | refine LW_extract rfl rfl ?_ ) | refine LW_nil ?_ | refine LW_guard rfl rfl ?_ | refine LW_pass rfl rfl rfl ?_ | refine LW_passU rfl rfl ?_) | ((with_reducible refine CWk ?_); first | refine CW_seq ?_ | refine CW_region ?_ | refine CW_true rfl ?_ | refine CW_false rfl ?_ | refine CW_skip ?_ | refine CW_block ?_ | refine CW_ret ?_ | refine CW_exit ?_) | (with_reducible refine N_then ?_) | (with_reducible refine N_block ?_) | (with_reducible refine R_then ?_) | (with_reducible refine R_block ?_) | (with_reducible refine X_then ?_) | (with_reducible refine X_block rfl ?_) | (with_reducible refine X_block_ne rfl ?_))
    refine LW_index hS rfl rfl (by omega) (Wins.at hy) (fun p2 hp2 => ?_)
    repeat' (first | ((with_reducible refine LWk ?_); first | refine LW_move rfl ?_ | ((with_reducible refine LWo ?_); first | refine LW_assign rfl ?_ | refine LW_field rfl ?_ | ((with_reducible refine LWl ?_); first  | refine LW_load rfl (hp2.cell _ rfl) ?_ | fail) | ((with_reducible refine LWb ?_); first | refine LW_add rfl rfl (by omega) ?_ | (refine LW_lss rfl rfl (fun _ => ?_) (fun _ => ?_) <;> try (exfalso; omega)) | refine LW_sub rfl rfl (by omega) ?_ | (refine LW_eql rfl rfl (fun _ => ?_) (fun _ => ?_) <;> try (exfalso; omega)) | (refine LW_neq rfl rfl (fun _ => ?_) (fun _ => ?_) <;> try (exfalso; omega)) | (refine LW_leq rfl rfl (fun _ => ?_) (fun _ => ?_) <;> try (exfalso; omega)) | (refine LW_gtr rfl rfl (fun _ => ?_) (fun _ => ?_) <;> try (exfalso; omega)) | (refine LW_geq rfl rfl (fun _ => ?_) (fun _ => ?_) <;> try (exfalso; omega)) | refine LW_mul rfl rfl (by omega) ?_ | refine LW_quo rfl rfl (by omega) ?_ | refine LW_rem rfl rfl (by omega) ?_) | ((with_reducible refine LWc ?_); first | refine LW_max rfl rfl ?_ | refine LW_min rfl rfl ?_  | fail) | refine LW_not rfl ?_ | refine LW_nilc rfl ?_ | refine LW_pickT rfl rfl ?_ | refine LW_pickF rfl rfl ?_ | refine LW_extract rfl rfl ?_ ) | refine LW_nil ?_ | refine LW_guard rfl rfl ?_ | refine LW_pass rfl rfl rfl ?_ | refine LW_passU rfl rfl ?_) | ((with_reducible refine CWk ?_); first | refine CW_seq ?_ | refine CW_region ?_ | refine CW_true rfl ?_ | refine CW_false rfl ?_ | refine CW_skip ?_ | refine CW_block ?_ | refine CW_ret ?_ | refine CW_exit ?_) | (with_reducible refine N_then ?_) | (with_reducible refine N_block ?_) | (with_reducible refine R_then ?_) | (with_reducible refine R_block ?_) | (with_reducible refine X_then ?_) | (with_reducible refine X_block rfl ?_) | (with_reducible refine X_block_ne rfl ?_))
    refine LW_index hS rfl rfl (by omega) (Wins.at hy) (fun p3 hp3 => ?_)
    repeat' (first | ((with_reducible refine LWk ?_); first | refine LW_move rfl ?_ | ((with_reducible refine LWo ?_); first | refine LW_assign rfl ?_ | refine LW_field rfl ?_ | ((with_reducible refine LWl ?_); first  | refine LW_load rfl (hp3.cell _ rfl) ?_ | fail) | ((with_reducible refine LWb ?_); first | refine LW_add rfl rfl (by omega) ?_ | (refine LW_lss rfl rfl (fun _ => ?_) (fun _ => ?_) <;> try (exfalso; omega)) | refine LW_sub rfl rfl (by omega) ?_ | (refine LW_eql rfl rfl (fun _ => ?_) (fun _ => ?_) <;> try (exfalso; omega)) | (refine LW_neq rfl rfl (fun _ => ?_) (fun _ => ?_) <;> try (exfalso; omega)) | (refine LW_leq rfl rfl (fun _ => ?_) (fun _ => ?_) <;> try (exfalso; omega)) | (refine LW_gtr rfl rfl (fun _ => ?_) (fun _ => ?_) <;> try (exfalso; omega)) | (refine LW_geq rfl rfl (fun _ => ?_) (fun _ => ?_) <;> try (exfalso; omega)) | refine LW_mul rfl rfl (by omega) ?_ | refine LW_quo rfl rfl (by omega) ?_ | refine LW_rem rfl rfl (by omega) ?_) | ((with_reducible refine LWc ?_); first | refine LW_max rfl rfl ?_ | refine LW_min rfl rfl ?_  | fail) | refine LW_not rfl ?_ | refine LW_nilc rfl ?_ | refine LW_pickT rfl rfl ?_ | refine LW_pickF rfl rfl ?_ | refine LW_extract rfl rfl ?_ ) | refine LW_nil ?_ | refine LW_guard rfl rfl ?_ | refine LW_pass rfl rfl rfl ?_ | refine LW_passU rfl rfl ?_) | ((with_reducible refine CWk ?_); first | refine CW_seq ?_ | refine CW_region ?_ | refine CW_true rfl ?_ | refine CW_false rfl ?_ | refine CW_skip ?_ | refine CW_block ?_ | refine CW_ret ?_ | refine CW_exit ?_) | (with_reducible refine N_then ?_) | (with_reducible refine N_block ?_) | (with_reducible refine R_then ?_) | (with_reducible refine R_block ?_) | (with_reducible refine X_then ?_) | (with_reducible refine X_block rfl ?_) | (with_reducible refine X_block_ne rfl ?_))
    exact ⟨k + 1, ⟨rfl, rfl, by rw [bestI_snoc hy]; rfl, by rw [sumI_snoc hy]; rfl, rfl, trivial⟩, ⟨rfl, by omega⟩, by omega⟩
  · obtain rfl : k = ws.length := by omega
    rw [List.take_length]
    rw [List.take_length] at b1 b2
    have hsq := sumI_sq hv
    have hox := (hv.1 x (List.mem_of_getElem? hx)).1
    refine CW_quiet mix (by kernel_rfl) ?_
    repeat' (first | ((with_reducible refine QWk ?_); first | refine QW_move rfl ?_ | ((with_reducible refine QWo ?_); first | refine QW_assign rfl ?_ | refine QW_field rfl ?_ | ((with_reducible refine QWb ?_); first | refine QW_add rfl rfl (by omega) ?_ | (refine QW_lss rfl rfl (fun _ => ?_) (fun _ => ?_) <;> try (exfalso; omega)) | refine QW_sub rfl rfl (by omega) ?_ | (refine QW_eql rfl rfl (fun _ => ?_) (fun _ => ?_) <;> try (exfalso; omega)) | (refine QW_neq rfl rfl (fun _ => ?_) (fun _ => ?_) <;> try (exfalso; omega)) | (refine QW_leq rfl rfl (fun _ => ?_) (fun _ => ?_) <;> try (exfalso; omega)) | (refine QW_gtr rfl rfl (fun _ => ?_) (fun _ => ?_) <;> try (exfalso; omega)) | (refine QW_geq rfl rfl (fun _ => ?_) (fun _ => ?_) <;> try (exfalso; omega)) | refine QW_mul rfl rfl (by omega) ?_ | refine QW_quo rfl rfl (by omega) ?_ | refine QW_rem rfl rfl (by omega) ?_)  | ((with_reducible refine QWc ?_); first | refine QW_max rfl rfl ?_ | refine QW_min rfl rfl ?_  | fail) | refine QW_not rfl ?_ | refine QW_nilc rfl ?_ | refine QW_pickT rfl rfl ?_ | refine QW_pickF rfl rfl ?_ | refine QW_extract rfl rfl ?_ ) | refine QW_guard rfl rfl ?_ | refine QW_pass rfl rfl rfl ?_ | refine QW_passU rfl rfl ?_))
    refine QW_index hS rfl rfl h0 (by simp [hx]; rfl) (fun p hp => ?_)
    repeat' (first | ((with_reducible refine QWk ?_); first | refine QW_move rfl ?_ | ((with_reducible refine QWo ?_); first | refine QW_assign rfl ?_ | refine QW_field rfl ?_ | ((with_reducible refine QWb ?_); first | refine QW_add rfl rfl (by omega) ?_ | (refine QW_lss rfl rfl (fun _ => ?_) (fun _ => ?_) <;> try (exfalso; omega)) | refine QW_sub rfl rfl (by omega) ?_ | (refine QW_eql rfl rfl (fun _ => ?_) (fun _ => ?_) <;> try (exfalso; omega)) | (refine QW_neq rfl rfl (fun _ => ?_) (fun _ => ?_) <;> try (exfalso; omega)) | (refine QW_leq rfl rfl (fun _ => ?_) (fun _ => ?_) <;> try (exfalso; omega)) | (refine QW_gtr rfl rfl (fun _ => ?_) (fun _ => ?_) <;> try (exfalso; omega)) | (refine QW_geq rfl rfl (fun _ => ?_) (fun _ => ?_) <;> try (exfalso; omega)) | refine QW_mul rfl rfl (by omega) ?_ | refine QW_quo rfl rfl (by omega) ?_ | refine QW_rem rfl rfl (by omega) ?_)  | refine QW_load rfl (hp.cell _ rfl) ?_ | ((with_reducible refine QWc ?_); first | refine QW_max rfl rfl ?_ | refine QW_min rfl rfl ?_  | fail) | refine QW_not rfl ?_ | refine QW_nilc rfl ?_ | refine QW_pickT rfl rfl ?_ | refine QW_pickF rfl rfl ?_ | refine QW_extract rfl rfl ?_ ) | refine QW_guard rfl rfl ?_ | refine QW_pass rfl rfl rfl ?_ | refine QW_passU rfl rfl ?_))
    refine QW_nil (fun w2 x2 => ?_)
    repeat' (first | ((with_reducible refine LWk ?_); first | refine LW_move rfl ?_ | ((with_reducible refine LWo ?_); first | refine LW_assign rfl ?_ | refine LW_field rfl ?_ | ((with_reducible refine LWl ?_); first  | fail) | ((with_reducible refine LWb ?_); first | refine LW_add rfl rfl (by omega) ?_ | (refine LW_lss rfl rfl (fun _ => ?_) (fun _ => ?_) <;> try (exfalso; omega)) | refine LW_sub rfl rfl (by omega) ?_ | (refine LW_eql rfl rfl (fun _ => ?_) (fun _ => ?_) <;> try (exfalso; omega)) | (refine LW_neq rfl rfl (fun _ => ?_) (fun _ => ?_) <;> try (exfalso; omega)) | (refine LW_leq rfl rfl (fun _ => ?_) (fun _ => ?_) <;> try (exfalso; omega)) | (refine LW_gtr rfl rfl (fun _ => ?_) (fun _ => ?_) <;> try (exfalso; omega)) | (refine LW_geq rfl rfl (fun _ => ?_) (fun _ => ?_) <;> try (exfalso; omega)) | refine LW_mul rfl rfl (by omega) ?_ | refine LW_quo rfl rfl (by omega) ?_ | refine LW_rem rfl rfl (by omega) ?_) | ((with_reducible refine LWc ?_); first | refine LW_max rfl rfl ?_ | refine LW_min rfl rfl ?_  | fail) | refine LW_not rfl ?_ | refine LW_nilc rfl ?_ | refine LW_pickT rfl rfl ?_ | refine LW_pickF rfl rfl ?_ | refine LW_extract rfl rfl ?_ ) | refine LW_nil ?_ | refine LW_guard rfl rfl ?_ | refine LW_pass rfl rfl rfl ?_ | refine LW_passU rfl rfl ?_) | ((with_reducible refine CWk ?_); first | refine CW_seq ?_ | refine CW_region ?_ | refine CW_true rfl ?_ | refine CW_false rfl ?_ | refine CW_skip ?_ | refine CW_block ?_ | refine CW_ret ?_ | refine CW_exit ?_) | (with_reducible refine N_then ?_) | (with_reducible refine N_block ?_) | (with_reducible refine R_then ?_) | (with_reducible refine R_block ?_) | (with_reducible refine X_then ?_) | (with_reducible refine X_block rfl ?_) | (with_reducible refine X_block_ne rfl ?_))
    refine ⟨_, ResOK.tmp rfl .nil, ?_⟩
    exact ⟨rfl, x2⟩
end Go.Proofs.Ytiandcilkmdfnaa
