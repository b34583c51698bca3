/- Contracts of the loss of a window. No condition. -/
import Derived.Test.YtiandcilkmdfnaaA2
import Derived.Test.YtiandcilkmdfnaaB3

namespace Go.Proofs.Ytiandcilkmdfnaa
open Go Go.RowKit
set_option linter.unusedSimpArgs false
set_option linter.unusedVariables false

/-- a slice of windows of the call's own, nil let in -/
def PWin (w : World) (v : Value) (g : Option Nat) (ws : List Win) : Prop := Own w v 36 4 g (ws.map Win.cells)
theorem PWin.wins {w : World} {v : Value} {g : Option Nat} {ws : List Win} (h : PWin w v g ws) : Wins w v ws := Own.slc h
theorem PWin.ext {w w' : World} {v : Value} {g : Option Nat} {ws : List Win} (h : PWin w v g ws) (m : Ext w w') : PWin w' v g ws := Own.ext h m
theorem PWin.set {w : World} {v : Value} {g : Option Nat} {ws : List Win} {j : Nat} {c : List Value} (y : Win) (h : Own w v 36 4 g ((ws.map Win.cells).set j c)) (hc : c = y.cells) : PWin w v g (ws.set j y) := by
  unfold PWin
  rw [List.map_set, ← hc]
  exact h
def New (w : World) (g : Option Nat) : Prop := ∀ b, g = some b → w.heap.size ≤ b
theorem new_some {w : World} {g : Nat} (h : w.heap.size ≤ g) : New w (some g) := fun b hb => by injection hb with hb; omega
theorem new_none (w : World) : New w none := fun b hb => by cases hb
def RetP (ws : List Win) (w : World) : Ending → World → Prop := fun e w' => ∃ v g, e = .returned v ∧ Ext w w' ∧ New w g ∧ PWin w' v g ws
def RetPB (ws : List Win) (b : Bool) (w : World) : Ending → World → Prop := fun e w' => ∃ v g, e = .returned (.tuple #[v, .bool b]) ∧ Ext w w' ∧ New w g ∧ PWin w' v g ws

theorem cells1 (ws : List Win) : (ws.map Win.cells).all (fun el => el.all Value.oneCell') = true := by
  simp [Win.cells, Value.oneCell']

theorem c48 (w : World) (v : Value) (ws : List Win) (hS : Wins w v ws) (hn : ws.length ≤ 1048576) : Calls Try.prog 48 #[v] w (RetP ws w) := by
  refine Calls_of (args := [_]) Try.func48 Try.ntmps48 rfl rfl ?_
  have hS' := hS
  obtain ⟨A, c, rfl, _⟩ := hS'
  cases A with
  | none =>
    have h0 : ws = [] := by
      obtain ⟨A, c', he, _, _, _, hp⟩ := hS
      rcases Nat.eq_zero_or_pos (ws.map Win.cells).length with h | h
      · simpa using h
      · obtain ⟨p, hp, _⟩ := hp h
        injection he with he _ _
        rw [hp] at he; cases he
    subst h0
    repeat' (first | ((with_reducible refine LWk ?_); first | refine LW_move rfl ?_ | ((with_reducible refine LWo ?_); first | refine LW_assign rfl ?_ | refine LW_field rfl ?_ | ((with_reducible refine LWl ?_); first  | fail) | ((with_reducible refine LWb ?_); first | refine LW_add rfl rfl (by omega) ?_ | (refine LW_lss rfl rfl (fun _ => ?_) (fun _ => ?_) <;> try (exfalso; omega)) | refine LW_sub rfl rfl (by omega) ?_ | (refine LW_eql rfl rfl (fun _ => ?_) (fun _ => ?_) <;> try (exfalso; omega)) | (refine LW_neq rfl rfl (fun _ => ?_) (fun _ => ?_) <;> try (exfalso; omega)) | (refine LW_leq rfl rfl (fun _ => ?_) (fun _ => ?_) <;> try (exfalso; omega)) | (refine LW_gtr rfl rfl (fun _ => ?_) (fun _ => ?_) <;> try (exfalso; omega)) | (refine LW_geq rfl rfl (fun _ => ?_) (fun _ => ?_) <;> try (exfalso; omega)) | refine LW_mul rfl rfl (by omega) ?_ | refine LW_quo rfl rfl (by omega) ?_ | refine LW_rem rfl rfl (by omega) ?_) | ((with_reducible refine LWc ?_); first | refine LW_max rfl rfl ?_ | refine LW_min rfl rfl ?_  | fail) | refine LW_not rfl ?_ | refine LW_nilc rfl ?_ | refine LW_pickT rfl rfl ?_ | refine LW_pickF rfl rfl ?_ | refine LW_extract rfl rfl ?_  | refine LW_eqlNil Try.underlying25 rfl ?_) | refine LW_nil ?_ | refine LW_guard rfl rfl ?_ | refine LW_pass rfl rfl rfl ?_ | refine LW_passU rfl rfl ?_) | ((with_reducible refine CWk ?_); first | refine CW_seq ?_ | refine CW_region ?_ | refine CW_true rfl ?_ | refine CW_false rfl ?_ | refine CW_skip ?_ | refine CW_block ?_ | refine CW_ret ?_ | refine CW_exit ?_) | (with_reducible refine N_then ?_) | (with_reducible refine N_block ?_) | (with_reducible refine R_then ?_) | (with_reducible refine R_block ?_) | (with_reducible refine X_then ?_) | (with_reducible refine X_block rfl ?_) | (with_reducible refine X_block_ne rfl ?_))
    refine ⟨_, ResOK.tmp rfl .nil, ?_⟩
    exact ⟨_, none, rfl, .refl _ _, new_none w, Own.nil _ _ _⟩
  | some p =>
    repeat' (first | ((with_reducible refine LWk ?_); first | refine LW_move rfl ?_ | ((with_reducible refine LWo ?_); first | refine LW_assign rfl ?_ | refine LW_field rfl ?_ | ((with_reducible refine LWl ?_); first  | fail) | ((with_reducible refine LWb ?_); first | refine LW_add rfl rfl (by omega) ?_ | (refine LW_lss rfl rfl (fun _ => ?_) (fun _ => ?_) <;> try (exfalso; omega)) | refine LW_sub rfl rfl (by omega) ?_ | (refine LW_eql rfl rfl (fun _ => ?_) (fun _ => ?_) <;> try (exfalso; omega)) | (refine LW_neq rfl rfl (fun _ => ?_) (fun _ => ?_) <;> try (exfalso; omega)) | (refine LW_leq rfl rfl (fun _ => ?_) (fun _ => ?_) <;> try (exfalso; omega)) | (refine LW_gtr rfl rfl (fun _ => ?_) (fun _ => ?_) <;> try (exfalso; omega)) | (refine LW_geq rfl rfl (fun _ => ?_) (fun _ => ?_) <;> try (exfalso; omega)) | refine LW_mul rfl rfl (by omega) ?_ | refine LW_quo rfl rfl (by omega) ?_ | refine LW_rem rfl rfl (by omega) ?_) | ((with_reducible refine LWc ?_); first | refine LW_max rfl rfl ?_ | refine LW_min rfl rfl ?_  | fail) | refine LW_not rfl ?_ | refine LW_nilc rfl ?_ | refine LW_pickT rfl rfl ?_ | refine LW_pickF rfl rfl ?_ | refine LW_extract rfl rfl ?_  | refine LW_eqlNil Try.underlying25 rfl ?_) | refine LW_nil ?_ | refine LW_guard rfl rfl ?_ | refine LW_pass rfl rfl rfl ?_ | refine LW_passU rfl rfl ?_) | ((with_reducible refine CWk ?_); first | refine CW_seq ?_ | refine CW_region ?_ | refine CW_true rfl ?_ | refine CW_false rfl ?_ | refine CW_skip ?_ | refine CW_block ?_ | refine CW_ret ?_ | refine CW_exit ?_) | (with_reducible refine N_then ?_) | (with_reducible refine N_block ?_) | (with_reducible refine R_then ?_) | (with_reducible refine R_block ?_) | (with_reducible refine X_then ?_) | (with_reducible refine X_block rfl ?_) | (with_reducible refine X_block_ne rfl ?_))
    refine LW_slice0 (fun g w1 e1 l1 x1 o1 => ?_)
    repeat' (first | ((with_reducible refine LWk ?_); first | refine LW_move rfl ?_ | ((with_reducible refine LWo ?_); first | refine LW_assign rfl ?_ | refine LW_field rfl ?_ | ((with_reducible refine LWl ?_); first  | fail) | ((with_reducible refine LWb ?_); first | refine LW_add rfl rfl (by omega) ?_ | (refine LW_lss rfl rfl (fun _ => ?_) (fun _ => ?_) <;> try (exfalso; omega)) | refine LW_sub rfl rfl (by omega) ?_ | (refine LW_eql rfl rfl (fun _ => ?_) (fun _ => ?_) <;> try (exfalso; omega)) | (refine LW_neq rfl rfl (fun _ => ?_) (fun _ => ?_) <;> try (exfalso; omega)) | (refine LW_leq rfl rfl (fun _ => ?_) (fun _ => ?_) <;> try (exfalso; omega)) | (refine LW_gtr rfl rfl (fun _ => ?_) (fun _ => ?_) <;> try (exfalso; omega)) | (refine LW_geq rfl rfl (fun _ => ?_) (fun _ => ?_) <;> try (exfalso; omega)) | refine LW_mul rfl rfl (by omega) ?_ | refine LW_quo rfl rfl (by omega) ?_ | refine LW_rem rfl rfl (by omega) ?_) | ((with_reducible refine LWc ?_); first | refine LW_max rfl rfl ?_ | refine LW_min rfl rfl ?_  | fail) | refine LW_not rfl ?_ | refine LW_nilc rfl ?_ | refine LW_pickT rfl rfl ?_ | refine LW_pickF rfl rfl ?_ | refine LW_extract rfl rfl ?_ ) | refine LW_nil ?_ | refine LW_guard rfl rfl ?_ | refine LW_pass rfl rfl rfl ?_ | refine LW_passU rfl rfl ?_) | ((with_reducible refine CWk ?_); first | refine CW_seq ?_ | refine CW_region ?_ | refine CW_true rfl ?_ | refine CW_false rfl ?_ | refine CW_skip ?_ | refine CW_block ?_ | refine CW_ret ?_ | refine CW_exit ?_) | (with_reducible refine N_then ?_) | (with_reducible refine N_block ?_) | (with_reducible refine R_then ?_) | (with_reducible refine R_block ?_) | (with_reducible refine X_then ?_) | (with_reducible refine X_block rfl ?_) | (with_reducible refine X_block_ne rfl ?_))
    refine LW_append o1 (hS.ext x1) rfl rfl (cells1 ws) (by simp; omega) (by simp; omega) (fun v2 w2 g2 m2 hg2 o2 => ?_)
    repeat' (first | ((with_reducible refine LWk ?_); first | refine LW_move rfl ?_ | ((with_reducible refine LWo ?_); first | refine LW_assign rfl ?_ | refine LW_field rfl ?_ | ((with_reducible refine LWl ?_); first  | fail) | ((with_reducible refine LWb ?_); first | refine LW_add rfl rfl (by omega) ?_ | (refine LW_lss rfl rfl (fun _ => ?_) (fun _ => ?_) <;> try (exfalso; omega)) | refine LW_sub rfl rfl (by omega) ?_ | (refine LW_eql rfl rfl (fun _ => ?_) (fun _ => ?_) <;> try (exfalso; omega)) | (refine LW_neq rfl rfl (fun _ => ?_) (fun _ => ?_) <;> try (exfalso; omega)) | (refine LW_leq rfl rfl (fun _ => ?_) (fun _ => ?_) <;> try (exfalso; omega)) | (refine LW_gtr rfl rfl (fun _ => ?_) (fun _ => ?_) <;> try (exfalso; omega)) | (refine LW_geq rfl rfl (fun _ => ?_) (fun _ => ?_) <;> try (exfalso; omega)) | refine LW_mul rfl rfl (by omega) ?_ | refine LW_quo rfl rfl (by omega) ?_ | refine LW_rem rfl rfl (by omega) ?_) | ((with_reducible refine LWc ?_); first | refine LW_max rfl rfl ?_ | refine LW_min rfl rfl ?_  | fail) | refine LW_not rfl ?_ | refine LW_nilc rfl ?_ | refine LW_pickT rfl rfl ?_ | refine LW_pickF rfl rfl ?_ | refine LW_extract rfl rfl ?_ ) | refine LW_nil ?_ | refine LW_guard rfl rfl ?_ | refine LW_pass rfl rfl rfl ?_ | refine LW_passU rfl rfl ?_) | ((with_reducible refine CWk ?_); first | refine CW_seq ?_ | refine CW_region ?_ | refine CW_true rfl ?_ | refine CW_false rfl ?_ | refine CW_skip ?_ | refine CW_block ?_ | refine CW_ret ?_ | refine CW_exit ?_) | (with_reducible refine N_then ?_) | (with_reducible refine N_block ?_) | (with_reducible refine R_then ?_) | (with_reducible refine R_block ?_) | (with_reducible refine X_then ?_) | (with_reducible refine X_block rfl ?_) | (with_reducible refine X_block_ne rfl ?_))
    refine ⟨_, ResOK.tmp rfl .nil, ?_⟩
    have o3 : PWin w2 v2 g2 ws := by simpa [PWin] using o2
    refine ⟨v2, g2, rfl, x1.fresh m2 (fun b hb => by simp at hb; omega), fun b hb => ?_, o3⟩
    rcases hg2 with h | ⟨b', h, hle⟩
    · rw [h] at hb; injection hb with hb; omega
    · rw [h] at hb; injection hb with hb; have := x1.size; omega
end Go.Proofs.Ytiandcilkmdfnaa
