/- Contracts of LossSend. No condition. -/
import Derived.Test.YtceokjbnjnalhaaL5

namespace Go.Proofs.Ytceokjbnjnalhaa
open Go Go.RowKit
set_option linter.unusedSimpArgs false
set_option linter.unusedVariables false

/-- a state, a number, a truth: the state's packets the call's own, nil let in -/
def RetSend (L : Los) (n : Int) (b : Bool) (w : World) : Ending → World → Prop := fun e w' => ∃ fv g, e = .returned (.tuple #[.agg (L.cells fv).toArray, .int .i64 n, .bool b]) ∧ Ext w w' ∧ New w g ∧ OPkt w' fv g L.ps
def Los.nil : Los := ⟨0, [], 0⟩
/-- no room, or out of order -/
def full (L : Los) (t : Int) : Prop := 999 < L.next ∨ L.ps.length = 12 ∨ ∃ p, L.ps.getLast? = some p ∧ t < p.tm
def sendable (L : Los) (t z : Int) : Prop := validL L ∧ (0 ≤ t ∧ t ≤ 999) ∧ (1 ≤ z ∧ z ≤ 99)
noncomputable def sendL (L : Los) (t z : Int) : Los := cond (tr (sendable L t z)) (cond (tr (full L t)) L ⟨L.next + 1, L.ps ++ [⟨L.next, t, z⟩], L.lg⟩) Los.nil
noncomputable def sendN (L : Los) (t z : Int) : Int := cond (tr (sendable L t z)) (cond (tr (full L t)) (-1) L.next) 0
noncomputable def sendB (L : Los) (t z : Int) : Bool := cond (tr (sendable L t z)) (cond (tr (full L t)) false true) false
theorem send_no {L : Los} {t z : Int} (h : ¬ sendable L t z) : sendL L t z = Los.nil ∧ sendN L t z = 0 ∧ sendB L t z = false := by
  unfold sendL sendN sendB; rw [tr_false h]; exact ⟨rfl, rfl, rfl⟩
theorem send_full {L : Los} {t z : Int} (h : sendable L t z) (hf : full L t) : sendL L t z = L ∧ sendN L t z = -1 ∧ sendB L t z = false := by
  unfold sendL sendN sendB; rw [tr_true h, tr_true hf]; exact ⟨rfl, rfl, rfl⟩
theorem send_yes {L : Los} {t z : Int} (h : sendable L t z) (hf : ¬ full L t) : sendL L t z = ⟨L.next + 1, L.ps ++ [⟨L.next, t, z⟩], L.lg⟩ ∧ sendN L t z = L.next ∧ sendB L t z = true := by
  unfold sendL sendN sendB; rw [tr_true h, tr_false hf]; exact ⟨rfl, rfl, rfl⟩

theorem last_get {ps : List Pkt} {x : Pkt} (hx : ps[ps.length - 1]? = some x) : ps.getLast? = some x := by rw [List.getLast?_eq_getElem?]; exact hx
theorem c69 (w : World) (fv : Value) (L : Los) (t z : Int) (hS : Pkts w fv L.ps) (h : sendable L t z) : Calls Try.prog 69 #[.agg (L.cells fv).toArray, .int .i64 t, .int .i64 z] w (RetSend (sendL L t z) (sendN L t z) (sendB L t z) w) := by
  refine Calls_of (args := [_, _, _]) Try.func69 Try.ntmps69 rfl rfl ?_
  have hlen := h.1.2.2.1
  have hnx := h.1.1
  repeat' (first | ((with_reducible refine LWk ?_); first | refine LW_move rfl ?_ | ((with_reducible refine LWo ?_); first | refine LW_assign rfl ?_ | refine LW_field rfl ?_ | ((with_reducible refine LWl ?_); first  | fail) | ((with_reducible refine LWb ?_); first | refine LW_add rfl rfl (by omega) ?_ | (refine LW_lss rfl rfl (fun _ => ?_) (fun _ => ?_) <;> try (exfalso; omega)) | refine LW_sub rfl rfl (by omega) ?_ | (refine LW_eql rfl rfl (fun _ => ?_) (fun _ => ?_) <;> try (exfalso; omega)) | (refine LW_neq rfl rfl (fun _ => ?_) (fun _ => ?_) <;> try (exfalso; omega)) | (refine LW_leq rfl rfl (fun _ => ?_) (fun _ => ?_) <;> try (exfalso; omega)) | (refine LW_gtr rfl rfl (fun _ => ?_) (fun _ => ?_) <;> try (exfalso; omega)) | (refine LW_geq rfl rfl (fun _ => ?_) (fun _ => ?_) <;> try (exfalso; omega)) | refine LW_mul rfl rfl (by omega) ?_ | refine LW_quo rfl rfl (by omega) ?_ | refine LW_rem rfl rfl (by omega) ?_) | ((with_reducible refine LWc ?_); first | refine LW_max rfl rfl ?_ | refine LW_min rfl rfl ?_  | fail) | refine LW_not rfl ?_ | refine LW_nilc rfl ?_ | refine LW_pickT rfl rfl ?_ | refine LW_pickF rfl rfl ?_ | refine LW_extract rfl rfl ?_ ) | refine LW_nil ?_ | refine LW_guard rfl rfl ?_ | refine LW_pass rfl rfl rfl ?_ | refine LW_passU rfl rfl ?_) | ((with_reducible refine CWk ?_); first | refine CW_seq ?_ | refine CW_region ?_ | refine CW_true rfl ?_ | refine CW_false rfl ?_ | refine CW_skip ?_ | refine CW_block ?_ | refine CW_ret ?_ | refine CW_exit ?_) | (with_reducible refine N_then ?_) | (with_reducible refine N_block ?_) | (with_reducible refine R_then ?_) | (with_reducible refine R_block ?_) | (with_reducible refine X_then ?_) | (with_reducible refine X_block rfl ?_) | (with_reducible refine X_block_ne rfl ?_))
  refine LW_box rfl (fun g1 w1 e1 l1 x1 b1 => ?_)
  refine LW_alloc (fun g2 w2 e2 l2 x2 b2 => ?_)
  have b1 := b1.ext x2
  have y2 := x1.trans x2
  have hS2 := hS.ext y2
  obtain ⟨x, hx, hxl⟩ : ∃ x : Pkt, (0 < (L.ps.length : Int) → (L.ps.map Pkt.cells)[((L.ps.length : Int) - 1).toNat]? = some x.cells) ∧ (0 < (L.ps.length : Int) → L.ps.getLast? = some x) := by
    by_cases h0 : 0 < L.ps.length
    · obtain ⟨x, hx⟩ := get_of (l := L.ps) (k := L.ps.length - 1) (by omega)
      exact ⟨x, fun _ => by rw [show ((L.ps.length : Int) - 1).toNat = L.ps.length - 1 by omega]; simp [hx], fun _ => last_get hx⟩
    · exact ⟨⟨0, 0, 0⟩, fun h => by omega, fun h => by omega⟩
  repeat' (first | ((with_reducible refine LWk ?_); first | refine LW_move rfl ?_ | ((with_reducible refine LWo ?_); first | refine LW_assign rfl ?_ | refine LW_field rfl ?_ | ((with_reducible refine LWl ?_); first  | refine LW_load rfl (b1.cell _ rfl) ?_ | refine LW_load rfl (qq.cell _ rfl) ?_ | fail) | ((with_reducible refine LWb ?_); first | refine LW_add rfl rfl (by omega) ?_ | (refine LW_lss rfl rfl (fun _ => ?_) (fun _ => ?_) <;> try (exfalso; omega)) | refine LW_sub rfl rfl (by omega) ?_ | (refine LW_eql rfl rfl (fun _ => ?_) (fun _ => ?_) <;> try (exfalso; omega)) | (refine LW_neq rfl rfl (fun _ => ?_) (fun _ => ?_) <;> try (exfalso; omega)) | (refine LW_leq rfl rfl (fun _ => ?_) (fun _ => ?_) <;> try (exfalso; omega)) | (refine LW_gtr rfl rfl (fun _ => ?_) (fun _ => ?_) <;> try (exfalso; omega)) | (refine LW_geq rfl rfl (fun _ => ?_) (fun _ => ?_) <;> try (exfalso; omega)) | refine LW_mul rfl rfl (by omega) ?_ | refine LW_quo rfl rfl (by omega) ?_ | refine LW_rem rfl rfl (by omega) ?_) | ((with_reducible refine LWc ?_); first | refine LW_max rfl rfl ?_ | refine LW_min rfl rfl ?_  | refine LW_len hS2 rfl (List.length_map _) ?_ | fail) | refine LW_not rfl ?_ | refine LW_nilc rfl ?_ | refine LW_pickT rfl rfl ?_ | refine LW_pickF rfl rfl ?_ | refine LW_extract rfl rfl ?_  | refine LW_index hS2 rfl rfl (by omega) (hx ‹_›) (fun pp qq => ?_)) | refine LW_nil ?_ | refine LW_guard rfl rfl ?_ | refine LW_pass rfl rfl rfl ?_ | refine LW_passU rfl rfl ?_) | ((with_reducible refine CWk ?_); first | refine CW_seq ?_ | refine CW_region ?_ | refine CW_true rfl ?_ | refine CW_false rfl ?_ | refine CW_skip ?_ | refine CW_block ?_ | refine CW_ret ?_ | refine CW_exit ?_) | (with_reducible refine N_then ?_) | (with_reducible refine N_block ?_) | (with_reducible refine R_then ?_) | (with_reducible refine R_block ?_) | (with_reducible refine X_then ?_) | (with_reducible refine X_block rfl ?_) | (with_reducible refine X_block_ne rfl ?_))
  all_goals first
    | (have hf : full L t := by first | exact .inl (by omega) | exact .inr (.inl (by omega)) | exact .inr (.inr ⟨x, hxl ‹_›, by omega⟩)
       rw [(send_full h hf).1, (send_full h hf).2.1, (send_full h hf).2.2]
       refine LW_loadK rfl b1.pts rfl ?_
       refine LW_call rfl call78 (c78 w2 fv L hS2 (by omega)) ?_
       rintro e w3 ⟨v3, g3, rfl, x3, n3, o3⟩
       refine ⟨_, rfl, ?_⟩
       have b2 := b2.ext x3
       have hv1 := o3.one
       refine LW_storeK b2 rfl (show _ = some (Value.agg (L.cells v3).toArray) from rfl) (by simp only [Los.cells, List.all_cons, List.all_nil, hv1]; rfl) rfl rfl (fun w4 m b2 => ?_)
       have o3 := o3.mod m (fun b hb => by have := n3 b hb; simp; omega)
       repeat' (first | ((with_reducible refine LWk ?_); first | refine LW_move rfl ?_ | ((with_reducible refine LWo ?_); first | refine LW_assign rfl ?_ | refine LW_field rfl ?_ | ((with_reducible refine LWl ?_); first  | fail) | ((with_reducible refine LWb ?_); first | refine LW_add rfl rfl (by omega) ?_ | (refine LW_lss rfl rfl (fun _ => ?_) (fun _ => ?_) <;> try (exfalso; omega)) | refine LW_sub rfl rfl (by omega) ?_ | (refine LW_eql rfl rfl (fun _ => ?_) (fun _ => ?_) <;> try (exfalso; omega)) | (refine LW_neq rfl rfl (fun _ => ?_) (fun _ => ?_) <;> try (exfalso; omega)) | (refine LW_leq rfl rfl (fun _ => ?_) (fun _ => ?_) <;> try (exfalso; omega)) | (refine LW_gtr rfl rfl (fun _ => ?_) (fun _ => ?_) <;> try (exfalso; omega)) | (refine LW_geq rfl rfl (fun _ => ?_) (fun _ => ?_) <;> try (exfalso; omega)) | refine LW_mul rfl rfl (by omega) ?_ | refine LW_quo rfl rfl (by omega) ?_ | refine LW_rem rfl rfl (by omega) ?_) | ((with_reducible refine LWc ?_); first | refine LW_max rfl rfl ?_ | refine LW_min rfl rfl ?_  | fail) | refine LW_not rfl ?_ | refine LW_nilc rfl ?_ | refine LW_pickT rfl rfl ?_ | refine LW_pickF rfl rfl ?_ | refine LW_extract rfl rfl ?_ ) | refine LW_nil ?_ | refine LW_guard rfl rfl ?_ | refine LW_pass rfl rfl rfl ?_ | refine LW_passU rfl rfl ?_) | ((with_reducible refine CWk ?_); first | refine CW_seq ?_ | refine CW_region ?_ | refine CW_true rfl ?_ | refine CW_false rfl ?_ | refine CW_skip ?_ | refine CW_block ?_ | refine CW_ret ?_ | refine CW_exit ?_) | (with_reducible refine N_then ?_) | (with_reducible refine N_block ?_) | (with_reducible refine R_then ?_) | (with_reducible refine R_block ?_) | (with_reducible refine X_then ?_) | (with_reducible refine X_block rfl ?_) | (with_reducible refine X_block_ne rfl ?_))
       refine ⟨_, ResOK.cell rfl (run_loadVar_agg b2.pts rfl) (ResOK.tmp rfl (ResOK.tmp rfl .nil)), v3, g3, rfl, (y2.trans x3).fresh m (fun g hg => by simp at hg; omega), fun b hb => ?_, o3⟩
       have := n3 b hb
       have := y2.size
       omega)
    | skip
  all_goals
    have hf : ¬ full L t := by
      rintro (h1 | h1 | ⟨p, hp, hpt⟩)
      · omega
      · omega
      · by_cases h0 : 0 < (L.ps.length : Int)
        · rw [hxl h0] at hp; cases hp; omega
        · have : L.ps = [] := List.eq_nil_of_length_eq_zero (by omega)
          rw [this] at hp; cases hp
  all_goals rw [(send_yes h hf).1, (send_yes h hf).2.1, (send_yes h hf).2.2]
  all_goals refine LW_loadK rfl b1.pts rfl ?_
  all_goals refine LW_call rfl call78 (c78 w2 fv L hS2 (by omega)) ?_
  all_goals rintro e w3 ⟨v3, g3, rfl, x3, n3, o3⟩
  all_goals refine ⟨_, rfl, ?_⟩
  all_goals have b1 := b1.ext x3
  all_goals have b2 := b2.ext x3
  all_goals have y3 := y2.trans x3
  all_goals have hv3 := o3.one
  all_goals refine LW_var rfl rfl (by simp only [Los.cells, List.all_cons, List.all_nil, hv3]; rfl) (fun b w4 eb lb x4 b4 => ?_) rfl (fun _ => rfl)
  all_goals have b1 := b1.ext x4
  all_goals have b2 := b2.ext x4
  all_goals have o4 := o3.ext x4
  all_goals have y4 := y3.trans x4
  all_goals repeat' (first | ((with_reducible refine LWk ?_); first | refine LW_move rfl ?_ | ((with_reducible refine LWo ?_); first | refine LW_assign rfl ?_ | refine LW_field rfl ?_ | ((with_reducible refine LWl ?_); first  | refine LW_load rfl (b1.cell _ rfl) ?_ | refine LW_load rfl (b4.cell _ rfl) ?_ | fail) | ((with_reducible refine LWb ?_); first | refine LW_add rfl rfl (by omega) ?_ | (refine LW_lss rfl rfl (fun _ => ?_) (fun _ => ?_) <;> try (exfalso; omega)) | refine LW_sub rfl rfl (by omega) ?_ | (refine LW_eql rfl rfl (fun _ => ?_) (fun _ => ?_) <;> try (exfalso; omega)) | (refine LW_neq rfl rfl (fun _ => ?_) (fun _ => ?_) <;> try (exfalso; omega)) | (refine LW_leq rfl rfl (fun _ => ?_) (fun _ => ?_) <;> try (exfalso; omega)) | (refine LW_gtr rfl rfl (fun _ => ?_) (fun _ => ?_) <;> try (exfalso; omega)) | (refine LW_geq rfl rfl (fun _ => ?_) (fun _ => ?_) <;> try (exfalso; omega)) | refine LW_mul rfl rfl (by omega) ?_ | refine LW_quo rfl rfl (by omega) ?_ | refine LW_rem rfl rfl (by omega) ?_) | ((with_reducible refine LWc ?_); first | refine LW_max rfl rfl ?_ | refine LW_min rfl rfl ?_  | fail) | refine LW_not rfl ?_ | refine LW_nilc rfl ?_ | refine LW_pickT rfl rfl ?_ | refine LW_pickF rfl rfl ?_ | refine LW_extract rfl rfl ?_ ) | refine LW_nil ?_ | refine LW_guard rfl rfl ?_ | refine LW_pass rfl rfl rfl ?_ | refine LW_passU rfl rfl ?_) | ((with_reducible refine CWk ?_); first | refine CW_seq ?_ | refine CW_region ?_ | refine CW_true rfl ?_ | refine CW_false rfl ?_ | refine CW_skip ?_ | refine CW_block ?_ | refine CW_ret ?_ | refine CW_exit ?_) | (with_reducible refine N_then ?_) | (with_reducible refine N_block ?_) | (with_reducible refine R_then ?_) | (with_reducible refine R_block ?_) | (with_reducible refine X_then ?_) | (with_reducible refine X_block rfl ?_) | (with_reducible refine X_block_ne rfl ?_))
  all_goals refine LW_build (cs := (⟨L.next, t, z⟩ : Pkt).cells) rfl (by kernel_rfl) ?_
  all_goals refine LW_buildS [(⟨L.next, t, z⟩ : Pkt).cells] rfl rfl rfl rfl rfl (by kernel_rfl) (fun gs w5 es ls x5 os => ?_)
  all_goals refine LW_append (o4.ext x5) (Own.slc os) rfl rfl rfl (by simp; omega) (by simp; omega) (fun v6 w6 g6 m6 hg6 o6 => ?_)
  all_goals have o6 : OPkt w6 v6 g6 (L.ps ++ [⟨L.next, t, z⟩]) := by simpa [OPkt] using o6
  all_goals have hv6 := o6.one
  all_goals have s2 := y2.size
  all_goals
    have n6 : ∀ b', g6 = some b' → w2.heap.size ≤ b' ∧ b' ≠ b := fun b' hb' => by
      rcases hg6 with h6 | ⟨c6, h6, hle⟩
      · rw [h6] at hb'
        have := n3 b' hb'
        subst hb'
        have := o3.lt
        omega
      · rw [h6] at hb'; injection hb' with hb'
        have := x3.size
        have := x5.size
        have := x4.size
        have := b4.lt
        omega
  all_goals have hlt3 : ∀ b', g3 = some b' → b' < w3.heap.size := fun b' hb' => by subst hb'; exact o3.lt
  all_goals have b1 := (b1.ext x5).mod m6 (fun hm => by have := n3 g1 (by simpa using hm); have := x2.size; omega)
  all_goals have b2 := (b2.ext x5).mod m6 (fun hm => by have := n3 g2 (by simpa using hm); omega)
  all_goals have b4 := (b4.ext x5).mod m6 (fun hm => by have := hlt3 b (by simpa using hm); omega)
  all_goals have y6 := (y4.trans x5).fresh m6 (fun b' hb' => by have := n3 b' (by simpa using hb'); omega)
  all_goals have s3 := x3.size
  all_goals repeat' (first | ((with_reducible refine LWk ?_); first | refine LW_move rfl ?_ | ((with_reducible refine LWo ?_); first | refine LW_assign rfl ?_ | refine LW_field rfl ?_ | ((with_reducible refine LWl ?_); first  | fail) | ((with_reducible refine LWb ?_); first | refine LW_add rfl rfl (by omega) ?_ | (refine LW_lss rfl rfl (fun _ => ?_) (fun _ => ?_) <;> try (exfalso; omega)) | refine LW_sub rfl rfl (by omega) ?_ | (refine LW_eql rfl rfl (fun _ => ?_) (fun _ => ?_) <;> try (exfalso; omega)) | (refine LW_neq rfl rfl (fun _ => ?_) (fun _ => ?_) <;> try (exfalso; omega)) | (refine LW_leq rfl rfl (fun _ => ?_) (fun _ => ?_) <;> try (exfalso; omega)) | (refine LW_gtr rfl rfl (fun _ => ?_) (fun _ => ?_) <;> try (exfalso; omega)) | (refine LW_geq rfl rfl (fun _ => ?_) (fun _ => ?_) <;> try (exfalso; omega)) | refine LW_mul rfl rfl (by omega) ?_ | refine LW_quo rfl rfl (by omega) ?_ | refine LW_rem rfl rfl (by omega) ?_) | ((with_reducible refine LWc ?_); first | refine LW_max rfl rfl ?_ | refine LW_min rfl rfl ?_  | fail) | refine LW_not rfl ?_ | refine LW_nilc rfl ?_ | refine LW_pickT rfl rfl ?_ | refine LW_pickF rfl rfl ?_ | refine LW_extract rfl rfl ?_ ) | refine LW_nil ?_ | refine LW_guard rfl rfl ?_ | refine LW_pass rfl rfl rfl ?_ | refine LW_passU rfl rfl ?_) | ((with_reducible refine CWk ?_); first | refine CW_seq ?_ | refine CW_region ?_ | refine CW_true rfl ?_ | refine CW_false rfl ?_ | refine CW_skip ?_ | refine CW_block ?_ | refine CW_ret ?_ | refine CW_exit ?_) | (with_reducible refine N_then ?_) | (with_reducible refine N_block ?_) | (with_reducible refine R_then ?_) | (with_reducible refine R_block ?_) | (with_reducible refine X_then ?_) | (with_reducible refine X_block rfl ?_) | (with_reducible refine X_block_ne rfl ?_))
  all_goals refine LW_store1 b4 rfl rfl hv6 rfl (fun w7 m7 b4 => ?_)
  all_goals have b1 := b1.far m7 (by have := x2.size; omega)
  all_goals have b2 := b2.far m7 (by omega)
  all_goals have o7 := o6.mod m7 (fun b' hb' => by have := n6 b' hb'; simp; omega)
  all_goals have y7 := y6.fresh m7 (fun b' hb' => by simp at hb'; omega)
  all_goals repeat' (first | ((with_reducible refine LWk ?_); first | refine LW_move rfl ?_ | ((with_reducible refine LWo ?_); first | refine LW_assign rfl ?_ | refine LW_field rfl ?_ | ((with_reducible refine LWl ?_); first  | refine LW_load rfl (b1.cell _ rfl) ?_ | fail) | ((with_reducible refine LWb ?_); first | refine LW_add rfl rfl (by omega) ?_ | (refine LW_lss rfl rfl (fun _ => ?_) (fun _ => ?_) <;> try (exfalso; omega)) | refine LW_sub rfl rfl (by omega) ?_ | (refine LW_eql rfl rfl (fun _ => ?_) (fun _ => ?_) <;> try (exfalso; omega)) | (refine LW_neq rfl rfl (fun _ => ?_) (fun _ => ?_) <;> try (exfalso; omega)) | (refine LW_leq rfl rfl (fun _ => ?_) (fun _ => ?_) <;> try (exfalso; omega)) | (refine LW_gtr rfl rfl (fun _ => ?_) (fun _ => ?_) <;> try (exfalso; omega)) | (refine LW_geq rfl rfl (fun _ => ?_) (fun _ => ?_) <;> try (exfalso; omega)) | refine LW_mul rfl rfl (by omega) ?_ | refine LW_quo rfl rfl (by omega) ?_ | refine LW_rem rfl rfl (by omega) ?_) | ((with_reducible refine LWc ?_); first | refine LW_max rfl rfl ?_ | refine LW_min rfl rfl ?_  | fail) | refine LW_not rfl ?_ | refine LW_nilc rfl ?_ | refine LW_pickT rfl rfl ?_ | refine LW_pickF rfl rfl ?_ | refine LW_extract rfl rfl ?_ ) | refine LW_nil ?_ | refine LW_guard rfl rfl ?_ | refine LW_pass rfl rfl rfl ?_ | refine LW_passU rfl rfl ?_) | ((with_reducible refine CWk ?_); first | refine CW_seq ?_ | refine CW_region ?_ | refine CW_true rfl ?_ | refine CW_false rfl ?_ | refine CW_skip ?_ | refine CW_block ?_ | refine CW_ret ?_ | refine CW_exit ?_) | (with_reducible refine N_then ?_) | (with_reducible refine N_block ?_) | (with_reducible refine R_then ?_) | (with_reducible refine R_block ?_) | (with_reducible refine X_then ?_) | (with_reducible refine X_block rfl ?_) | (with_reducible refine X_block_ne rfl ?_))
  all_goals refine LW_store1 b4 rfl rfl rfl rfl (fun w8 m8 b4 => ?_)
  all_goals have b1 := b1.far m8 (by have := x2.size; omega)
  all_goals have b2 := b2.far m8 (by omega)
  all_goals have o8 := o7.mod m8 (fun b' hb' => by have := n6 b' hb'; simp; omega)
  all_goals have y8 := y7.fresh m8 (fun b' hb' => by simp at hb'; omega)
  all_goals repeat' (first | ((with_reducible refine LWk ?_); first | refine LW_move rfl ?_ | ((with_reducible refine LWo ?_); first | refine LW_assign rfl ?_ | refine LW_field rfl ?_ | ((with_reducible refine LWl ?_); first  | fail) | ((with_reducible refine LWb ?_); first | refine LW_add rfl rfl (by omega) ?_ | (refine LW_lss rfl rfl (fun _ => ?_) (fun _ => ?_) <;> try (exfalso; omega)) | refine LW_sub rfl rfl (by omega) ?_ | (refine LW_eql rfl rfl (fun _ => ?_) (fun _ => ?_) <;> try (exfalso; omega)) | (refine LW_neq rfl rfl (fun _ => ?_) (fun _ => ?_) <;> try (exfalso; omega)) | (refine LW_leq rfl rfl (fun _ => ?_) (fun _ => ?_) <;> try (exfalso; omega)) | (refine LW_gtr rfl rfl (fun _ => ?_) (fun _ => ?_) <;> try (exfalso; omega)) | (refine LW_geq rfl rfl (fun _ => ?_) (fun _ => ?_) <;> try (exfalso; omega)) | refine LW_mul rfl rfl (by omega) ?_ | refine LW_quo rfl rfl (by omega) ?_ | refine LW_rem rfl rfl (by omega) ?_) | ((with_reducible refine LWc ?_); first | refine LW_max rfl rfl ?_ | refine LW_min rfl rfl ?_  | fail) | refine LW_not rfl ?_ | refine LW_nilc rfl ?_ | refine LW_pickT rfl rfl ?_ | refine LW_pickF rfl rfl ?_ | refine LW_extract rfl rfl ?_ ) | refine LW_nil ?_ | refine LW_guard rfl rfl ?_ | refine LW_pass rfl rfl rfl ?_ | refine LW_passU rfl rfl ?_) | ((with_reducible refine CWk ?_); first | refine CW_seq ?_ | refine CW_region ?_ | refine CW_true rfl ?_ | refine CW_false rfl ?_ | refine CW_skip ?_ | refine CW_block ?_ | refine CW_ret ?_ | refine CW_exit ?_) | (with_reducible refine N_then ?_) | (with_reducible refine N_block ?_) | (with_reducible refine R_then ?_) | (with_reducible refine R_block ?_) | (with_reducible refine X_then ?_) | (with_reducible refine X_block rfl ?_) | (with_reducible refine X_block_ne rfl ?_))
  all_goals refine CW_any mix (fun w9 x9 => ?_)
  all_goals have b1 := b1.ext x9
  all_goals have b2 := b2.ext x9
  all_goals have b4 := b4.ext x9
  all_goals have o9 := o8.ext x9
  all_goals have y9 := y8.trans x9
  all_goals refine AW_take 1 rfl (by kernel_rfl) (fun _ _ _ h => h) (by kernel_rfl) (by kernel_rfl) (Y_field rfl) ?_
  all_goals
    refine AW_two 0 2 (by kernel_rfl) rfl rfl ?_ ?_
    · refine LW_loadK rfl b4.pts rfl ?_
      refine LW_nil (N_then ?_)
      refine AW_two 2 3 (by kernel_rfl) rfl rfl ?_ ?_
      · refine LW_load rfl (b1.cell _ rfl) ?_
        refine LW_nil (N_then ?_)
        refine AW_one 3 (by kernel_rfl) rfl ?_
        refine LW_storeK b2 rfl (show _ = some (Value.agg ((⟨L.next + 1, L.ps ++ [⟨L.next, t, z⟩], L.lg⟩ : Los).cells v6).toArray) from rfl) (by simp only [Los.cells, List.all_cons, List.all_nil, hv6]; rfl) rfl rfl (fun wa ma b2 => ?_)
        have b1 := b1.far ma (by omega)
        have oa := o9.mod ma (fun b' hb' => by have := n6 b' hb'; simp; omega)
        have ya := y9.fresh ma (fun b' hb' => by simp at hb'; omega)
        refine LW_nil (N_then ?_)
        refine AW_take 4 rfl (by kernel_rfl) (fun _ _ _ h => h) (by kernel_rfl) (by kernel_rfl) (Y_assign rfl) ?_
        refine AW_take 5 rfl (by kernel_rfl) (fun _ _ _ h => h) (by kernel_rfl) (by kernel_rfl) (Y_assign rfl) ?_
        refine AW_nil (by kernel_rfl) ?_
        repeat' (first | ((with_reducible refine LWk ?_); first | refine LW_move rfl ?_ | ((with_reducible refine LWo ?_); first | refine LW_assign rfl ?_ | refine LW_field rfl ?_ | ((with_reducible refine LWl ?_); first  | fail) | ((with_reducible refine LWb ?_); first | refine LW_add rfl rfl (by omega) ?_ | (refine LW_lss rfl rfl (fun _ => ?_) (fun _ => ?_) <;> try (exfalso; omega)) | refine LW_sub rfl rfl (by omega) ?_ | (refine LW_eql rfl rfl (fun _ => ?_) (fun _ => ?_) <;> try (exfalso; omega)) | (refine LW_neq rfl rfl (fun _ => ?_) (fun _ => ?_) <;> try (exfalso; omega)) | (refine LW_leq rfl rfl (fun _ => ?_) (fun _ => ?_) <;> try (exfalso; omega)) | (refine LW_gtr rfl rfl (fun _ => ?_) (fun _ => ?_) <;> try (exfalso; omega)) | (refine LW_geq rfl rfl (fun _ => ?_) (fun _ => ?_) <;> try (exfalso; omega)) | refine LW_mul rfl rfl (by omega) ?_ | refine LW_quo rfl rfl (by omega) ?_ | refine LW_rem rfl rfl (by omega) ?_) | ((with_reducible refine LWc ?_); first | refine LW_max rfl rfl ?_ | refine LW_min rfl rfl ?_  | fail) | refine LW_not rfl ?_ | refine LW_nilc rfl ?_ | refine LW_pickT rfl rfl ?_ | refine LW_pickF rfl rfl ?_ | refine LW_extract rfl rfl ?_ ) | refine LW_nil ?_ | refine LW_guard rfl rfl ?_ | refine LW_pass rfl rfl rfl ?_ | refine LW_passU rfl rfl ?_) | ((with_reducible refine CWk ?_); first | refine CW_seq ?_ | refine CW_region ?_ | refine CW_true rfl ?_ | refine CW_false rfl ?_ | refine CW_skip ?_ | refine CW_block ?_ | refine CW_ret ?_ | refine CW_exit ?_) | (with_reducible refine N_then ?_) | (with_reducible refine N_block ?_) | (with_reducible refine R_then ?_) | (with_reducible refine R_block ?_) | (with_reducible refine X_then ?_) | (with_reducible refine X_block rfl ?_) | (with_reducible refine X_block_ne rfl ?_))
        exact ⟨_, ResOK.cell rfl (run_loadVar_agg b2.pts rfl) (ResOK.tmp rfl (ResOK.tmp rfl .nil)), v6, g6, rfl, ya, fun b' hb' => by have := n6 b' hb'; omega, oa⟩
      · refine LW_storeK b2 rfl (show _ = some (Value.agg ((⟨L.next + 1, L.ps ++ [⟨L.next, t, z⟩], L.lg⟩ : Los).cells v6).toArray) from rfl) (by simp only [Los.cells, List.all_cons, List.all_nil, hv6]; rfl) rfl rfl (fun wa ma b2 => ?_)
        have b1 := b1.far ma (by omega)
        have oa := o9.mod ma (fun b' hb' => by have := n6 b' hb'; simp; omega)
        have ya := y9.fresh ma (fun b' hb' => by simp at hb'; omega)
        refine LW_nil (N_then ?_)
        refine AW_one 2 (by kernel_rfl) rfl ?_
        refine LW_load rfl (b1.cell _ rfl) ?_
        refine LW_nil (N_then ?_)
        refine AW_take 4 rfl (by kernel_rfl) (fun _ _ _ h => h) (by kernel_rfl) (by kernel_rfl) (Y_assign rfl) ?_
        refine AW_take 5 rfl (by kernel_rfl) (fun _ _ _ h => h) (by kernel_rfl) (by kernel_rfl) (Y_assign rfl) ?_
        refine AW_nil (by kernel_rfl) ?_
        repeat' (first | ((with_reducible refine LWk ?_); first | refine LW_move rfl ?_ | ((with_reducible refine LWo ?_); first | refine LW_assign rfl ?_ | refine LW_field rfl ?_ | ((with_reducible refine LWl ?_); first  | fail) | ((with_reducible refine LWb ?_); first | refine LW_add rfl rfl (by omega) ?_ | (refine LW_lss rfl rfl (fun _ => ?_) (fun _ => ?_) <;> try (exfalso; omega)) | refine LW_sub rfl rfl (by omega) ?_ | (refine LW_eql rfl rfl (fun _ => ?_) (fun _ => ?_) <;> try (exfalso; omega)) | (refine LW_neq rfl rfl (fun _ => ?_) (fun _ => ?_) <;> try (exfalso; omega)) | (refine LW_leq rfl rfl (fun _ => ?_) (fun _ => ?_) <;> try (exfalso; omega)) | (refine LW_gtr rfl rfl (fun _ => ?_) (fun _ => ?_) <;> try (exfalso; omega)) | (refine LW_geq rfl rfl (fun _ => ?_) (fun _ => ?_) <;> try (exfalso; omega)) | refine LW_mul rfl rfl (by omega) ?_ | refine LW_quo rfl rfl (by omega) ?_ | refine LW_rem rfl rfl (by omega) ?_) | ((with_reducible refine LWc ?_); first | refine LW_max rfl rfl ?_ | refine LW_min rfl rfl ?_  | fail) | refine LW_not rfl ?_ | refine LW_nilc rfl ?_ | refine LW_pickT rfl rfl ?_ | refine LW_pickF rfl rfl ?_ | refine LW_extract rfl rfl ?_ ) | refine LW_nil ?_ | refine LW_guard rfl rfl ?_ | refine LW_pass rfl rfl rfl ?_ | refine LW_passU rfl rfl ?_) | ((with_reducible refine CWk ?_); first | refine CW_seq ?_ | refine CW_region ?_ | refine CW_true rfl ?_ | refine CW_false rfl ?_ | refine CW_skip ?_ | refine CW_block ?_ | refine CW_ret ?_ | refine CW_exit ?_) | (with_reducible refine N_then ?_) | (with_reducible refine N_block ?_) | (with_reducible refine R_then ?_) | (with_reducible refine R_block ?_) | (with_reducible refine X_then ?_) | (with_reducible refine X_block rfl ?_) | (with_reducible refine X_block_ne rfl ?_))
        exact ⟨_, ResOK.cell rfl (run_loadVar_agg b2.pts rfl) (ResOK.tmp rfl (ResOK.tmp rfl .nil)), v6, g6, rfl, ya, fun b' hb' => by have := n6 b' hb'; omega, oa⟩
    · refine LW_load rfl (b1.cell _ rfl) ?_
      refine LW_nil (N_then ?_)
      refine AW_one 0 (by kernel_rfl) rfl ?_
      refine LW_loadK rfl b4.pts rfl ?_
      refine LW_nil (N_then ?_)
      refine AW_one 3 (by kernel_rfl) rfl ?_
      refine LW_storeK b2 rfl (show _ = some (Value.agg ((⟨L.next + 1, L.ps ++ [⟨L.next, t, z⟩], L.lg⟩ : Los).cells v6).toArray) from rfl) (by simp only [Los.cells, List.all_cons, List.all_nil, hv6]; rfl) rfl rfl (fun wa ma b2 => ?_)
      have b1 := b1.far ma (by omega)
      have oa := o9.mod ma (fun b' hb' => by have := n6 b' hb'; simp; omega)
      have ya := y9.fresh ma (fun b' hb' => by simp at hb'; omega)
      refine LW_nil (N_then ?_)
      refine AW_take 4 rfl (by kernel_rfl) (fun _ _ _ h => h) (by kernel_rfl) (by kernel_rfl) (Y_assign rfl) ?_
      refine AW_take 5 rfl (by kernel_rfl) (fun _ _ _ h => h) (by kernel_rfl) (by kernel_rfl) (Y_assign rfl) ?_
      refine AW_nil (by kernel_rfl) ?_
      repeat' (first | ((with_reducible refine LWk ?_); first | refine LW_move rfl ?_ | ((with_reducible refine LWo ?_); first | refine LW_assign rfl ?_ | refine LW_field rfl ?_ | ((with_reducible refine LWl ?_); first  | fail) | ((with_reducible refine LWb ?_); first | refine LW_add rfl rfl (by omega) ?_ | (refine LW_lss rfl rfl (fun _ => ?_) (fun _ => ?_) <;> try (exfalso; omega)) | refine LW_sub rfl rfl (by omega) ?_ | (refine LW_eql rfl rfl (fun _ => ?_) (fun _ => ?_) <;> try (exfalso; omega)) | (refine LW_neq rfl rfl (fun _ => ?_) (fun _ => ?_) <;> try (exfalso; omega)) | (refine LW_leq rfl rfl (fun _ => ?_) (fun _ => ?_) <;> try (exfalso; omega)) | (refine LW_gtr rfl rfl (fun _ => ?_) (fun _ => ?_) <;> try (exfalso; omega)) | (refine LW_geq rfl rfl (fun _ => ?_) (fun _ => ?_) <;> try (exfalso; omega)) | refine LW_mul rfl rfl (by omega) ?_ | refine LW_quo rfl rfl (by omega) ?_ | refine LW_rem rfl rfl (by omega) ?_) | ((with_reducible refine LWc ?_); first | refine LW_max rfl rfl ?_ | refine LW_min rfl rfl ?_  | fail) | refine LW_not rfl ?_ | refine LW_nilc rfl ?_ | refine LW_pickT rfl rfl ?_ | refine LW_pickF rfl rfl ?_ | refine LW_extract rfl rfl ?_ ) | refine LW_nil ?_ | refine LW_guard rfl rfl ?_ | refine LW_pass rfl rfl rfl ?_ | refine LW_passU rfl rfl ?_) | ((with_reducible refine CWk ?_); first | refine CW_seq ?_ | refine CW_region ?_ | refine CW_true rfl ?_ | refine CW_false rfl ?_ | refine CW_skip ?_ | refine CW_block ?_ | refine CW_ret ?_ | refine CW_exit ?_) | (with_reducible refine N_then ?_) | (with_reducible refine N_block ?_) | (with_reducible refine R_then ?_) | (with_reducible refine R_block ?_) | (with_reducible refine X_then ?_) | (with_reducible refine X_block rfl ?_) | (with_reducible refine X_block_ne rfl ?_))
      exact ⟨_, ResOK.cell rfl (run_loadVar_agg b2.pts rfl) (ResOK.tmp rfl (ResOK.tmp rfl .nil)), v6, g6, rfl, ya, fun b' hb' => by have := n6 b' hb'; omega, oa⟩
end Go.Proofs.Ytceokjbnjnalhaa
