/- Contracts of the small functions on losses: within, RangesValid. No condition. -/
import Derived.Test.YtceokjbnjnalhaaTypes
import Derived.Test.YtceokjbnjnalhaaMem2
import Derived.KernelRfl

namespace Go.Proofs.Ytceokjbnjnalhaa
open Go Go.RowKit
set_option linter.unusedSimpArgs false
set_option linter.unusedVariables false

theorem c56 (n lo hi : Int) (w : World) : Calls Try.prog 56 #[.int .i64 n, .int .i64 lo, .int .i64 hi] w (RetB (lo ≤ n ∧ n ≤ hi) w) := by
  refine Calls_of (args := [_, _, _]) Try.func56 Try.ntmps56 rfl rfl ?_
  repeat' (first | ((with_reducible refine LWk ?_); first | refine LW_move rfl ?_ | ((with_reducible refine LWo ?_); first | refine LW_assign rfl ?_ | refine LW_field rfl ?_ | ((with_reducible refine LWl ?_); first  | fail) | ((with_reducible refine LWb ?_); first | refine LW_add rfl rfl (by omega) ?_ | (refine LW_lss rfl rfl (fun _ => ?_) (fun _ => ?_) <;> try (exfalso; omega)) | refine LW_sub rfl rfl (by omega) ?_ | (refine LW_eql rfl rfl (fun _ => ?_) (fun _ => ?_) <;> try (exfalso; omega)) | (refine LW_neq rfl rfl (fun _ => ?_) (fun _ => ?_) <;> try (exfalso; omega)) | (refine LW_leq rfl rfl (fun _ => ?_) (fun _ => ?_) <;> try (exfalso; omega)) | (refine LW_gtr rfl rfl (fun _ => ?_) (fun _ => ?_) <;> try (exfalso; omega)) | (refine LW_geq rfl rfl (fun _ => ?_) (fun _ => ?_) <;> try (exfalso; omega)) | refine LW_mul rfl rfl (by omega) ?_ | refine LW_quo rfl rfl (by omega) ?_ | refine LW_rem rfl rfl (by omega) ?_) | ((with_reducible refine LWc ?_); first | refine LW_max rfl rfl ?_ | refine LW_min rfl rfl ?_  | fail) | refine LW_not rfl ?_ | refine LW_nilc rfl ?_ | refine LW_pickT rfl rfl ?_ | refine LW_pickF rfl rfl ?_ | refine LW_extract rfl rfl ?_ ) | refine LW_nil ?_ | refine LW_guard rfl rfl ?_ | refine LW_pass rfl rfl rfl ?_ | refine LW_passU rfl rfl ?_) | ((with_reducible refine CWk ?_); first | refine CW_seq ?_ | refine CW_region ?_ | refine CW_true rfl ?_ | refine CW_false rfl ?_ | refine CW_skip ?_ | refine CW_block ?_ | refine CW_ret ?_ | refine CW_exit ?_) | (with_reducible refine N_then ?_) | (with_reducible refine N_block ?_) | (with_reducible refine R_then ?_) | (with_reducible refine R_block ?_) | (with_reducible refine X_then ?_) | (with_reducible refine X_block rfl ?_) | (with_reducible refine X_block_ne rfl ?_))
  all_goals refine ⟨_, ResOK.tmp rfl .nil, ?_⟩
  all_goals (refine ⟨?_, rfl⟩; first | rw [tr_true (by omega)]; rfl | rw [tr_false (by omega)]; rfl)
theorem c51 (n lo hi : Int) (w : World) : Calls Try.prog 51 #[.int .i64 n, .int .i64 lo, .int .i64 hi] w (RetB (lo ≤ n ∧ n ≤ hi) w) := by
  refine Calls_of (args := [_, _, _]) Try.func51 Try.ntmps51 rfl rfl ?_
  repeat' (first | ((with_reducible refine LWk ?_); first | refine LW_move rfl ?_ | ((with_reducible refine LWo ?_); first | refine LW_assign rfl ?_ | refine LW_field rfl ?_ | ((with_reducible refine LWl ?_); first  | fail) | ((with_reducible refine LWb ?_); first | refine LW_add rfl rfl (by omega) ?_ | (refine LW_lss rfl rfl (fun _ => ?_) (fun _ => ?_) <;> try (exfalso; omega)) | refine LW_sub rfl rfl (by omega) ?_ | (refine LW_eql rfl rfl (fun _ => ?_) (fun _ => ?_) <;> try (exfalso; omega)) | (refine LW_neq rfl rfl (fun _ => ?_) (fun _ => ?_) <;> try (exfalso; omega)) | (refine LW_leq rfl rfl (fun _ => ?_) (fun _ => ?_) <;> try (exfalso; omega)) | (refine LW_gtr rfl rfl (fun _ => ?_) (fun _ => ?_) <;> try (exfalso; omega)) | (refine LW_geq rfl rfl (fun _ => ?_) (fun _ => ?_) <;> try (exfalso; omega)) | refine LW_mul rfl rfl (by omega) ?_ | refine LW_quo rfl rfl (by omega) ?_ | refine LW_rem rfl rfl (by omega) ?_) | ((with_reducible refine LWc ?_); first | refine LW_max rfl rfl ?_ | refine LW_min rfl rfl ?_  | fail) | refine LW_not rfl ?_ | refine LW_nilc rfl ?_ | refine LW_pickT rfl rfl ?_ | refine LW_pickF rfl rfl ?_ | refine LW_extract rfl rfl ?_ ) | refine LW_nil ?_ | refine LW_guard rfl rfl ?_ | refine LW_pass rfl rfl rfl ?_ | refine LW_passU rfl rfl ?_) | ((with_reducible refine CWk ?_); first | refine CW_seq ?_ | refine CW_region ?_ | refine CW_true rfl ?_ | refine CW_false rfl ?_ | refine CW_skip ?_ | refine CW_block ?_ | refine CW_ret ?_ | refine CW_exit ?_) | (with_reducible refine N_then ?_) | (with_reducible refine N_block ?_) | (with_reducible refine R_then ?_) | (with_reducible refine R_block ?_) | (with_reducible refine X_then ?_) | (with_reducible refine X_block rfl ?_) | (with_reducible refine X_block_ne rfl ?_))
  all_goals refine ⟨_, ResOK.tmp rfl .nil, ?_⟩
  all_goals (refine ⟨?_, rfl⟩; first | rw [tr_true (by omega)]; rfl | rw [tr_false (by omega)]; rfl)

theorem get_of {α : Type} {l : List α} {k : Nat} (h : k < l.length) : ∃ x, l[k]? = some x := ⟨_, List.getElem?_eq_getElem h⟩
theorem take_succ_of {α : Type} {l : List α} {k : Nat} {x : α} (h : l[k]? = some x) : l.take (k + 1) = l.take k ++ [x] := by
  rw [List.take_add_one, h]; rfl
theorem get_take {α : Type} {l : List α} {j k : Nat} {x : α} (h : (l.take k)[j]? = some x) : j < k ∧ l[j]? = some x := by
  rw [List.getElem?_take] at h
  split at h
  · exact ⟨‹_›, h⟩
  · cases h

/-! ranges -/
structure Rng where
  lo : Int
  hi : Int
def Rng.cells (x : Rng) : List Value := [.int .i64 x.lo, .int .i64 x.hi]
def Rngs (w : World) (v : Value) (rs : List Rng) : Prop := Slc w v 2 (rs.map Rng.cells)
theorem Rngs.ext {w w' : World} {v : Value} {rs : List Rng} (h : Rngs w v rs) (m : Ext w w') : Rngs w' v rs := Slc.ext h m
theorem Rngs.le {w : World} {v : Value} {rs : List Rng} (h : Rngs w v rs) : rs.length ≤ 9223372036854775807 := by simpa using Slc.le h
theorem Rngs.at {rs : List Rng} {k : Nat} {x : Rng} (hx : rs[k]? = some x) : (rs.map Rng.cells)[(k : Int).toNat]? = some x.cells := by simp [hx]
/-- the ranges up to k are in order -/
def okR (rs : List Rng) (k : Nat) : Prop := ∀ j x, j < k → rs[j]? = some x → 0 ≤ x.lo ∧ x.lo ≤ x.hi ∧ x.hi ≤ 999 ∧ (∀ i y, j = i + 1 → rs[i]? = some y → y.hi + 2 ≤ x.lo)
def validR (rs : List Rng) : Prop := okR rs rs.length ∧ rs.length ≤ 16
theorem okR_snoc {rs : List Rng} {k : Nat} {x : Rng} (h : okR rs k) (hx : rs[k]? = some x) (h1 : 0 ≤ x.lo ∧ x.lo ≤ x.hi ∧ x.hi ≤ 999) (h2 : ∀ i y, k = i + 1 → rs[i]? = some y → y.hi + 2 ≤ x.lo) : okR rs (k + 1) := by
  intro j z hj hz
  by_cases hjk : j < k
  · exact h j z hjk hz
  · obtain rfl : j = k := by omega
    rw [hx] at hz
    cases hz
    exact ⟨h1.1, h1.2.1, h1.2.2, h2⟩
def lastHi (rs : List Rng) : Nat → Int
  | 0 => -2
  | k + 1 => ((rs[k]?).map (·.hi)).getD (-2)
theorem lastHi_succ {rs : List Rng} {k : Nat} {x : Rng} (hx : rs[k]? = some x) : lastHi rs (k + 1) = x.hi := by simp [lastHi, hx]
theorem okR_of {rs : List Rng} {k : Nat} {x : Rng} (h : okR rs k) (hx : rs[k]? = some x) (h1 : x.lo ≤ x.hi ∧ x.hi ≤ 999) (h2 : lastHi rs k + 2 ≤ x.lo) : okR rs (k + 1) := by
  have hlast : (k = 0 ∧ lastHi rs k = -2) ∨ ∃ i y, k = i + 1 ∧ rs[i]? = some y ∧ lastHi rs k = y.hi ∧ 0 ≤ y.hi := by
    cases k with
    | zero => exact .inl ⟨rfl, rfl⟩
    | succ i =>
      have hk := (List.getElem?_eq_some_iff.1 hx).1
      obtain ⟨y, hy⟩ := get_of (l := rs) (k := i) (by omega)
      have := h i y (by omega) hy
      exact .inr ⟨i, y, rfl, hy, lastHi_succ hy, by omega⟩
  refine okR_snoc h hx ?_ (fun i y hi hy => ?_)
  · rcases hlast with ⟨_, e⟩ | ⟨_, _, _, _, e, e2⟩ <;> omega
  · subst hi
    rw [lastHi_succ hy] at h2
    exact h2
theorem okR_not {rs : List Rng} {k n : Nat} {x : Rng} (hk : k < n) (hx : rs[k]? = some x) (h : okR rs n) : x.lo ≤ x.hi ∧ x.hi ≤ 999 ∧ lastHi rs k + 2 ≤ x.lo := by
  obtain ⟨h1, h2, h3, h4⟩ := h k x hk hx
  refine ⟨h2, h3, ?_⟩
  cases k with
  | zero => simp only [lastHi]; omega
  | succ i =>
    have hk' := (List.getElem?_eq_some_iff.1 hx).1
    obtain ⟨y, hy⟩ := get_of (l := rs) (k := i) (by omega)
    rw [lastHi_succ hy]
    exact h4 i y rfl hy
theorem lastHi_bd {rs : List Rng} {k : Nat} (h : okR rs k) (hk : k ≤ rs.length) : -2 ≤ lastHi rs k ∧ lastHi rs k ≤ 999 := by
  cases k with
  | zero => simp [lastHi]
  | succ i =>
    obtain ⟨y, hy⟩ := get_of (l := rs) (k := i) (by omega)
    have := h i y (by omega) hy
    rw [lastHi_succ hy]
    omega

theorem c55 (w : World) (v : Value) (rs : List Rng) (hS : Rngs w v rs) : Calls Try.prog 55 #[v] w (RetX (validR rs) w) := by
  refine Calls_of (args := [_]) Try.func55 Try.ntmps55 rfl rfl ?_
  have hle := hS.le
  repeat' (first | ((with_reducible refine LWk ?_); first | refine LW_move rfl ?_ | ((with_reducible refine LWo ?_); first | refine LW_assign rfl ?_ | refine LW_field rfl ?_ | ((with_reducible refine LWl ?_); first  | fail) | ((with_reducible refine LWb ?_); first | refine LW_add rfl rfl (by omega) ?_ | (refine LW_lss rfl rfl (fun _ => ?_) (fun _ => ?_) <;> try (exfalso; omega)) | refine LW_sub rfl rfl (by omega) ?_ | (refine LW_eql rfl rfl (fun _ => ?_) (fun _ => ?_) <;> try (exfalso; omega)) | (refine LW_neq rfl rfl (fun _ => ?_) (fun _ => ?_) <;> try (exfalso; omega)) | (refine LW_leq rfl rfl (fun _ => ?_) (fun _ => ?_) <;> try (exfalso; omega)) | (refine LW_gtr rfl rfl (fun _ => ?_) (fun _ => ?_) <;> try (exfalso; omega)) | (refine LW_geq rfl rfl (fun _ => ?_) (fun _ => ?_) <;> try (exfalso; omega)) | refine LW_mul rfl rfl (by omega) ?_ | refine LW_quo rfl rfl (by omega) ?_ | refine LW_rem rfl rfl (by omega) ?_) | ((with_reducible refine LWc ?_); first | refine LW_max rfl rfl ?_ | refine LW_min rfl rfl ?_  | refine LW_len hS rfl (List.length_map _) ?_ | fail) | refine LW_not rfl ?_ | refine LW_nilc rfl ?_ | refine LW_pickT rfl rfl ?_ | refine LW_pickF rfl rfl ?_ | refine LW_extract rfl rfl ?_ ) | refine LW_nil ?_ | refine LW_guard rfl rfl ?_ | refine LW_pass rfl rfl rfl ?_ | refine LW_passU rfl rfl ?_) | ((with_reducible refine CWk ?_); first | refine CW_seq ?_ | refine CW_region ?_ | refine CW_true rfl ?_ | refine CW_false rfl ?_ | refine CW_skip ?_ | refine CW_block ?_ | refine CW_ret ?_ | refine CW_exit ?_) | (with_reducible refine N_then ?_) | (with_reducible refine N_block ?_) | (with_reducible refine R_then ?_) | (with_reducible refine R_block ?_) | (with_reducible refine X_then ?_) | (with_reducible refine X_block rfl ?_) | (with_reducible refine X_block_ne rfl ?_))
  · refine ⟨_, ResOK.tmp rfl .nil, ?_⟩
    exact ⟨by rw [tr_false (fun h => by have := h.2; omega)]; rfl, .refl _ _⟩
  refine CW_loop (α := Nat) (fun k => [(3, .int .i64 (lastHi rs k)), (9, v), (10, .int .i64 rs.length), (11, .int .i64 k)]) (fun k w' => Ext w w' ∧ k ≤ rs.length ∧ okR rs k) (fun k => rs.length - k) 0
    ⟨rfl, rfl, rfl, rfl, trivial⟩ ⟨.refl _ _, by omega, fun j x hj => by omega⟩ ?_
  rintro k w1 ⟨e1, hk, ho⟩
  have hS1 := hS.ext e1
  have hb := lastHi_bd ho hk
  repeat' (first | ((with_reducible refine LWk ?_); first | refine LW_move rfl ?_ | ((with_reducible refine LWo ?_); first | refine LW_assign rfl ?_ | refine LW_field rfl ?_ | ((with_reducible refine LWl ?_); first  | fail) | ((with_reducible refine LWb ?_); first | refine LW_add rfl rfl (by omega) ?_ | (refine LW_lss rfl rfl (fun _ => ?_) (fun _ => ?_) <;> try (exfalso; omega)) | refine LW_sub rfl rfl (by omega) ?_ | (refine LW_eql rfl rfl (fun _ => ?_) (fun _ => ?_) <;> try (exfalso; omega)) | (refine LW_neq rfl rfl (fun _ => ?_) (fun _ => ?_) <;> try (exfalso; omega)) | (refine LW_leq rfl rfl (fun _ => ?_) (fun _ => ?_) <;> try (exfalso; omega)) | (refine LW_gtr rfl rfl (fun _ => ?_) (fun _ => ?_) <;> try (exfalso; omega)) | (refine LW_geq rfl rfl (fun _ => ?_) (fun _ => ?_) <;> try (exfalso; omega)) | refine LW_mul rfl rfl (by omega) ?_ | refine LW_quo rfl rfl (by omega) ?_ | refine LW_rem rfl rfl (by omega) ?_) | ((with_reducible refine LWc ?_); first | refine LW_max rfl rfl ?_ | refine LW_min rfl rfl ?_  | fail) | refine LW_not rfl ?_ | refine LW_nilc rfl ?_ | refine LW_pickT rfl rfl ?_ | refine LW_pickF rfl rfl ?_ | refine LW_extract rfl rfl ?_ ) | refine LW_nil ?_ | refine LW_guard rfl rfl ?_ | refine LW_pass rfl rfl rfl ?_ | refine LW_passU rfl rfl ?_) | ((with_reducible refine CWk ?_); first | refine CW_seq ?_ | refine CW_region ?_ | refine CW_true rfl ?_ | refine CW_false rfl ?_ | refine CW_skip ?_ | refine CW_block ?_ | refine CW_ret ?_ | refine CW_exit ?_) | (with_reducible refine N_then ?_) | (with_reducible refine N_block ?_) | (with_reducible refine R_then ?_) | (with_reducible refine R_block ?_) | (with_reducible refine X_then ?_) | (with_reducible refine X_block rfl ?_) | (with_reducible refine X_block_ne rfl ?_))
  · obtain ⟨x, hx⟩ := get_of (l := rs) (k := k) (by omega)
    refine LW_index hS1 rfl rfl (by omega) (Rngs.at hx) (fun p hp => ?_)
    refine LW_loadK rfl hp rfl ?_
    refine LW_var rfl rfl rfl (fun g w2 _ _ e2 hb => ?_) rfl (fun _ => rfl)
    repeat' (first | ((with_reducible refine LWk ?_); first | refine LW_move rfl ?_ | ((with_reducible refine LWo ?_); first | refine LW_assign rfl ?_ | refine LW_field rfl ?_ | ((with_reducible refine LWl ?_); first  | refine LW_load rfl (hb.cell _ rfl) ?_ | fail) | ((with_reducible refine LWb ?_); first | refine LW_add rfl rfl (by omega) ?_ | (refine LW_lss rfl rfl (fun _ => ?_) (fun _ => ?_) <;> try (exfalso; omega)) | refine LW_sub rfl rfl (by omega) ?_ | (refine LW_eql rfl rfl (fun _ => ?_) (fun _ => ?_) <;> try (exfalso; omega)) | (refine LW_neq rfl rfl (fun _ => ?_) (fun _ => ?_) <;> try (exfalso; omega)) | (refine LW_leq rfl rfl (fun _ => ?_) (fun _ => ?_) <;> try (exfalso; omega)) | (refine LW_gtr rfl rfl (fun _ => ?_) (fun _ => ?_) <;> try (exfalso; omega)) | (refine LW_geq rfl rfl (fun _ => ?_) (fun _ => ?_) <;> try (exfalso; omega)) | refine LW_mul rfl rfl (by omega) ?_ | refine LW_quo rfl rfl (by omega) ?_ | refine LW_rem rfl rfl (by omega) ?_) | ((with_reducible refine LWc ?_); first | refine LW_max rfl rfl ?_ | refine LW_min rfl rfl ?_  | fail) | refine LW_not rfl ?_ | refine LW_nilc rfl ?_ | refine LW_pickT rfl rfl ?_ | refine LW_pickF rfl rfl ?_ | refine LW_extract rfl rfl ?_ ) | refine LW_nil ?_ | refine LW_guard rfl rfl ?_ | refine LW_pass rfl rfl rfl ?_ | refine LW_passU rfl rfl ?_) | ((with_reducible refine CWk ?_); first | refine CW_seq ?_ | refine CW_region ?_ | refine CW_true rfl ?_ | refine CW_false rfl ?_ | refine CW_skip ?_ | refine CW_block ?_ | refine CW_ret ?_ | refine CW_exit ?_) | (with_reducible refine N_then ?_) | (with_reducible refine N_block ?_) | (with_reducible refine R_then ?_) | (with_reducible refine R_block ?_) | (with_reducible refine X_then ?_) | (with_reducible refine X_block rfl ?_) | (with_reducible refine X_block_ne rfl ?_))
    all_goals first
      | (refine ⟨_, ResOK.tmp rfl .nil, ?_⟩
         exact ⟨by rw [tr_false (fun h => by have := okR_not (by omega) hx h.1; omega)]; rfl, e1.trans e2⟩)
      | exact ⟨k + 1, ⟨by rw [lastHi_succ hx]; rfl, rfl, rfl, rfl, trivial⟩, ⟨e1.trans e2, by omega, okR_of ho hx (by omega) (by omega)⟩, by omega⟩
  · obtain rfl : k = rs.length := by omega
    refine ⟨_, ResOK.tmp rfl .nil, ?_⟩
    exact ⟨by rw [tr_true (show validR rs from ⟨ho, by omega⟩)]; rfl, e1⟩

theorem c50 (w : World) (v : Value) (rs : List Rng) (hS : Rngs w v rs) : Calls Try.prog 50 #[v] w (RetX (validR rs) w) := by
  refine Calls_of (args := [_]) Try.func50 Try.ntmps50 rfl rfl ?_
  have hle := hS.le
  repeat' (first | ((with_reducible refine LWk ?_); first | refine LW_move rfl ?_ | ((with_reducible refine LWo ?_); first | refine LW_assign rfl ?_ | refine LW_field rfl ?_ | ((with_reducible refine LWl ?_); first  | fail) | ((with_reducible refine LWb ?_); first | refine LW_add rfl rfl (by omega) ?_ | (refine LW_lss rfl rfl (fun _ => ?_) (fun _ => ?_) <;> try (exfalso; omega)) | refine LW_sub rfl rfl (by omega) ?_ | (refine LW_eql rfl rfl (fun _ => ?_) (fun _ => ?_) <;> try (exfalso; omega)) | (refine LW_neq rfl rfl (fun _ => ?_) (fun _ => ?_) <;> try (exfalso; omega)) | (refine LW_leq rfl rfl (fun _ => ?_) (fun _ => ?_) <;> try (exfalso; omega)) | (refine LW_gtr rfl rfl (fun _ => ?_) (fun _ => ?_) <;> try (exfalso; omega)) | (refine LW_geq rfl rfl (fun _ => ?_) (fun _ => ?_) <;> try (exfalso; omega)) | refine LW_mul rfl rfl (by omega) ?_ | refine LW_quo rfl rfl (by omega) ?_ | refine LW_rem rfl rfl (by omega) ?_) | ((with_reducible refine LWc ?_); first | refine LW_max rfl rfl ?_ | refine LW_min rfl rfl ?_  | fail) | refine LW_not rfl ?_ | refine LW_nilc rfl ?_ | refine LW_pickT rfl rfl ?_ | refine LW_pickF rfl rfl ?_ | refine LW_extract rfl rfl ?_ ) | refine LW_nil ?_ | refine LW_guard rfl rfl ?_ | refine LW_pass rfl rfl rfl ?_ | refine LW_passU rfl rfl ?_) | ((with_reducible refine CWk ?_); first | refine CW_seq ?_ | refine CW_region ?_ | refine CW_true rfl ?_ | refine CW_false rfl ?_ | refine CW_skip ?_ | refine CW_block ?_ | refine CW_ret ?_ | refine CW_exit ?_) | (with_reducible refine N_then ?_) | (with_reducible refine N_block ?_) | (with_reducible refine R_then ?_) | (with_reducible refine R_block ?_) | (with_reducible refine X_then ?_) | (with_reducible refine X_block rfl ?_) | (with_reducible refine X_block_ne rfl ?_))
  refine CW_loop (α := Nat) (fun k => [(0, v), (3, .int .i64 k)]) (fun k w' => Ext w w' ∧ k ≤ rs.length ∧ okR rs k) (fun k => rs.length - k) 0
    ⟨rfl, rfl, trivial⟩ ⟨.refl _ _, by omega, fun j x hj => by omega⟩ ?_
  rintro k w1 ⟨e1, hk, ho⟩
  have hS1 := hS.ext e1
  have hb := lastHi_bd ho hk
  repeat' (first | ((with_reducible refine LWk ?_); first | refine LW_move rfl ?_ | ((with_reducible refine LWo ?_); first | refine LW_assign rfl ?_ | refine LW_field rfl ?_ | ((with_reducible refine LWl ?_); first  | fail) | ((with_reducible refine LWb ?_); first | refine LW_add rfl rfl (by omega) ?_ | (refine LW_lss rfl rfl (fun _ => ?_) (fun _ => ?_) <;> try (exfalso; omega)) | refine LW_sub rfl rfl (by omega) ?_ | (refine LW_eql rfl rfl (fun _ => ?_) (fun _ => ?_) <;> try (exfalso; omega)) | (refine LW_neq rfl rfl (fun _ => ?_) (fun _ => ?_) <;> try (exfalso; omega)) | (refine LW_leq rfl rfl (fun _ => ?_) (fun _ => ?_) <;> try (exfalso; omega)) | (refine LW_gtr rfl rfl (fun _ => ?_) (fun _ => ?_) <;> try (exfalso; omega)) | (refine LW_geq rfl rfl (fun _ => ?_) (fun _ => ?_) <;> try (exfalso; omega)) | refine LW_mul rfl rfl (by omega) ?_ | refine LW_quo rfl rfl (by omega) ?_ | refine LW_rem rfl rfl (by omega) ?_) | ((with_reducible refine LWc ?_); first | refine LW_max rfl rfl ?_ | refine LW_min rfl rfl ?_  | refine LW_len hS1 rfl (List.length_map _) ?_ | fail) | refine LW_not rfl ?_ | refine LW_nilc rfl ?_ | refine LW_pickT rfl rfl ?_ | refine LW_pickF rfl rfl ?_ | refine LW_extract rfl rfl ?_ ) | refine LW_nil ?_ | refine LW_guard rfl rfl ?_ | refine LW_pass rfl rfl rfl ?_ | refine LW_passU rfl rfl ?_) | ((with_reducible refine CWk ?_); first | refine CW_seq ?_ | refine CW_region ?_ | refine CW_true rfl ?_ | refine CW_false rfl ?_ | refine CW_skip ?_ | refine CW_block ?_ | refine CW_ret ?_ | refine CW_exit ?_) | (with_reducible refine N_then ?_) | (with_reducible refine N_block ?_) | (with_reducible refine R_then ?_) | (with_reducible refine R_block ?_) | (with_reducible refine X_then ?_) | (with_reducible refine X_block rfl ?_) | (with_reducible refine X_block_ne rfl ?_))
  · obtain ⟨x, hx⟩ := get_of (l := rs) (k := k) (by omega)
    refine CW_quiet mix (by kernel_rfl) ?_
    cases k with
    | zero =>
      repeat' (first | ((with_reducible refine QWk ?_); first | refine QW_move rfl ?_ | ((with_reducible refine QWo ?_); first | refine QW_assign rfl ?_ | refine QW_field rfl ?_ | ((with_reducible refine QWb ?_); first | refine QW_add rfl rfl (by omega) ?_ | (refine QW_lss rfl rfl (fun _ => ?_) (fun _ => ?_) <;> try (exfalso; omega)) | refine QW_sub rfl rfl (by omega) ?_ | (refine QW_eql rfl rfl (fun _ => ?_) (fun _ => ?_) <;> try (exfalso; omega)) | (refine QW_neq rfl rfl (fun _ => ?_) (fun _ => ?_) <;> try (exfalso; omega)) | (refine QW_leq rfl rfl (fun _ => ?_) (fun _ => ?_) <;> try (exfalso; omega)) | (refine QW_gtr rfl rfl (fun _ => ?_) (fun _ => ?_) <;> try (exfalso; omega)) | (refine QW_geq rfl rfl (fun _ => ?_) (fun _ => ?_) <;> try (exfalso; omega)) | refine QW_mul rfl rfl (by omega) ?_ | refine QW_quo rfl rfl (by omega) ?_ | refine QW_rem rfl rfl (by omega) ?_)  | refine QW_load rfl (qq.cell _ rfl) ?_ | ((with_reducible refine QWc ?_); first | refine QW_max rfl rfl ?_ | refine QW_min rfl rfl ?_  | fail) | refine QW_not rfl ?_ | refine QW_nilc rfl ?_ | refine QW_pickT rfl rfl ?_ | refine QW_pickF rfl rfl ?_ | refine QW_extract rfl rfl ?_  | refine QW_index hS1 rfl rfl (by omega) (Rngs.at hx) (fun pp qq => ?_)) | refine QW_guard rfl rfl ?_ | refine QW_pass rfl rfl rfl ?_ | refine QW_passU rfl rfl ?_))
      all_goals refine QW_nil (fun w2 e2 => ?_)
      all_goals repeat' (first | ((with_reducible refine LWk ?_); first | refine LW_move rfl ?_ | ((with_reducible refine LWo ?_); first | refine LW_assign rfl ?_ | refine LW_field rfl ?_ | ((with_reducible refine LWl ?_); first  | fail) | ((with_reducible refine LWb ?_); first | refine LW_add rfl rfl (by omega) ?_ | (refine LW_lss rfl rfl (fun _ => ?_) (fun _ => ?_) <;> try (exfalso; omega)) | refine LW_sub rfl rfl (by omega) ?_ | (refine LW_eql rfl rfl (fun _ => ?_) (fun _ => ?_) <;> try (exfalso; omega)) | (refine LW_neq rfl rfl (fun _ => ?_) (fun _ => ?_) <;> try (exfalso; omega)) | (refine LW_leq rfl rfl (fun _ => ?_) (fun _ => ?_) <;> try (exfalso; omega)) | (refine LW_gtr rfl rfl (fun _ => ?_) (fun _ => ?_) <;> try (exfalso; omega)) | (refine LW_geq rfl rfl (fun _ => ?_) (fun _ => ?_) <;> try (exfalso; omega)) | refine LW_mul rfl rfl (by omega) ?_ | refine LW_quo rfl rfl (by omega) ?_ | refine LW_rem rfl rfl (by omega) ?_) | ((with_reducible refine LWc ?_); first | refine LW_max rfl rfl ?_ | refine LW_min rfl rfl ?_  | fail) | refine LW_not rfl ?_ | refine LW_nilc rfl ?_ | refine LW_pickT rfl rfl ?_ | refine LW_pickF rfl rfl ?_ | refine LW_extract rfl rfl ?_ ) | refine LW_nil ?_ | refine LW_guard rfl rfl ?_ | refine LW_pass rfl rfl rfl ?_ | refine LW_passU rfl rfl ?_) | ((with_reducible refine CWk ?_); first | refine CW_seq ?_ | refine CW_region ?_ | refine CW_true rfl ?_ | refine CW_false rfl ?_ | refine CW_skip ?_ | refine CW_block ?_ | refine CW_ret ?_ | refine CW_exit ?_) | (with_reducible refine N_then ?_) | (with_reducible refine N_block ?_) | (with_reducible refine R_then ?_) | (with_reducible refine R_block ?_) | (with_reducible refine X_then ?_) | (with_reducible refine X_block rfl ?_) | (with_reducible refine X_block_ne rfl ?_))
      all_goals first
        | (refine ⟨_, ResOK.tmp rfl .nil, ?_⟩
           exact ⟨by rw [tr_false (fun h => by have := h.1 0 x (by omega) hx; omega)]; rfl, e1.trans e2⟩)
        | exact ⟨1, ⟨rfl, rfl, trivial⟩, ⟨e1.trans e2, by omega, okR_of ho hx (by omega) (by simp only [lastHi]; omega)⟩, by omega⟩
    | succ i =>
      obtain ⟨y, hy⟩ := get_of (l := rs) (k := i) (by omega)
      have hly := lastHi_succ hy
      have hoy := ho i y (by omega) hy
      have hy' : (rs.map Rng.cells)[(((i + 1 : Nat) : Int) - 1).toNat]? = some y.cells := by rw [show (((i + 1 : Nat) : Int) - 1).toNat = i by omega]; simp [hy]
      repeat' (first | ((with_reducible refine QWk ?_); first | refine QW_move rfl ?_ | ((with_reducible refine QWo ?_); first | refine QW_assign rfl ?_ | refine QW_field rfl ?_ | ((with_reducible refine QWb ?_); first | refine QW_add rfl rfl (by omega) ?_ | (refine QW_lss rfl rfl (fun _ => ?_) (fun _ => ?_) <;> try (exfalso; omega)) | refine QW_sub rfl rfl (by omega) ?_ | (refine QW_eql rfl rfl (fun _ => ?_) (fun _ => ?_) <;> try (exfalso; omega)) | (refine QW_neq rfl rfl (fun _ => ?_) (fun _ => ?_) <;> try (exfalso; omega)) | (refine QW_leq rfl rfl (fun _ => ?_) (fun _ => ?_) <;> try (exfalso; omega)) | (refine QW_gtr rfl rfl (fun _ => ?_) (fun _ => ?_) <;> try (exfalso; omega)) | (refine QW_geq rfl rfl (fun _ => ?_) (fun _ => ?_) <;> try (exfalso; omega)) | refine QW_mul rfl rfl (by omega) ?_ | refine QW_quo rfl rfl (by omega) ?_ | refine QW_rem rfl rfl (by omega) ?_)  | refine QW_load rfl (qq.cell _ rfl) ?_ | ((with_reducible refine QWc ?_); first | refine QW_max rfl rfl ?_ | refine QW_min rfl rfl ?_  | fail) | refine QW_not rfl ?_ | refine QW_nilc rfl ?_ | refine QW_pickT rfl rfl ?_ | refine QW_pickF rfl rfl ?_ | refine QW_extract rfl rfl ?_  | refine QW_index hS1 rfl rfl (by omega) (Rngs.at hx) (fun pp qq => ?_) | refine QW_index hS1 rfl rfl (by omega) hy' (fun pp qq => ?_)) | refine QW_guard rfl rfl ?_ | refine QW_pass rfl rfl rfl ?_ | refine QW_passU rfl rfl ?_))
      all_goals refine QW_nil (fun w2 e2 => ?_)
      all_goals repeat' (first | ((with_reducible refine LWk ?_); first | refine LW_move rfl ?_ | ((with_reducible refine LWo ?_); first | refine LW_assign rfl ?_ | refine LW_field rfl ?_ | ((with_reducible refine LWl ?_); first  | fail) | ((with_reducible refine LWb ?_); first | refine LW_add rfl rfl (by omega) ?_ | (refine LW_lss rfl rfl (fun _ => ?_) (fun _ => ?_) <;> try (exfalso; omega)) | refine LW_sub rfl rfl (by omega) ?_ | (refine LW_eql rfl rfl (fun _ => ?_) (fun _ => ?_) <;> try (exfalso; omega)) | (refine LW_neq rfl rfl (fun _ => ?_) (fun _ => ?_) <;> try (exfalso; omega)) | (refine LW_leq rfl rfl (fun _ => ?_) (fun _ => ?_) <;> try (exfalso; omega)) | (refine LW_gtr rfl rfl (fun _ => ?_) (fun _ => ?_) <;> try (exfalso; omega)) | (refine LW_geq rfl rfl (fun _ => ?_) (fun _ => ?_) <;> try (exfalso; omega)) | refine LW_mul rfl rfl (by omega) ?_ | refine LW_quo rfl rfl (by omega) ?_ | refine LW_rem rfl rfl (by omega) ?_) | ((with_reducible refine LWc ?_); first | refine LW_max rfl rfl ?_ | refine LW_min rfl rfl ?_  | fail) | refine LW_not rfl ?_ | refine LW_nilc rfl ?_ | refine LW_pickT rfl rfl ?_ | refine LW_pickF rfl rfl ?_ | refine LW_extract rfl rfl ?_ ) | refine LW_nil ?_ | refine LW_guard rfl rfl ?_ | refine LW_pass rfl rfl rfl ?_ | refine LW_passU rfl rfl ?_) | ((with_reducible refine CWk ?_); first | refine CW_seq ?_ | refine CW_region ?_ | refine CW_true rfl ?_ | refine CW_false rfl ?_ | refine CW_skip ?_ | refine CW_block ?_ | refine CW_ret ?_ | refine CW_exit ?_) | (with_reducible refine N_then ?_) | (with_reducible refine N_block ?_) | (with_reducible refine R_then ?_) | (with_reducible refine R_block ?_) | (with_reducible refine X_then ?_) | (with_reducible refine X_block rfl ?_) | (with_reducible refine X_block_ne rfl ?_))
      all_goals first
        | (refine ⟨_, ResOK.tmp rfl .nil, ?_⟩
           exact ⟨by rw [tr_false (fun h => by have := h.1 (i + 1) x (by omega) hx; have := okR_not (by omega) hx h.1; omega)]; rfl, e1.trans e2⟩)
        | exact ⟨i + 1 + 1, ⟨rfl, rfl, trivial⟩, ⟨e1.trans e2, by omega, okR_of ho hx (by omega) (by omega)⟩, by omega⟩
  all_goals obtain rfl : k = rs.length := by omega
  all_goals refine ⟨_, ResOK.tmp rfl .nil, ?_⟩
  all_goals first
    | exact ⟨by rw [tr_true (show validR rs from ⟨ho, by omega⟩)]; rfl, e1⟩
    | exact ⟨by rw [tr_false (fun h => by have := h.2; omega)]; rfl, e1⟩
end Go.Proofs.Ytceokjbnjnalhaa
