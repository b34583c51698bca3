/- A loop over a counter. No condition. -/
import Derived.Test.YthjlafpfhgbfoaaS4
namespace Go.Proofs.Ythjlafpfhgbfoaa
open Go Go.RowKit
set_option linter.unusedSimpArgs false
set_option linter.unusedVariables false
theorem SC_loopN {P : Program} {n : Nat} {Q : Post} {env E0 : Env} {w0 : World} {A A' : List Asr} {c : Code} (t N : Nat) (R : Nat → Prop) (hs : Sub E0 env) (ht : lk env t = some (.int .i64 ((0 : Nat) : Int))) (hA : Sel A A') (h0 : R 0)
    (round : ∀ j, R j → j ≤ N → SC P n c (thenE (LoopK (fun j : Nat => (t, .int .i64 (j : Int)) :: E0) (fun _ => A') (fun j => R j ∧ j ≤ N) (fun j => N - j) j w0) Q) ((t, .int .i64 (j : Int)) :: E0) w0 A') : SC P n (.loop c) Q env w0 A :=
  SC_loop (α := Nat) (fun j => (t, .int .i64 (j : Int)) :: E0) (fun _ => A') (fun j => R j ∧ j ≤ N) (fun j => N - j) 0 ⟨ht, hs⟩ hA ⟨h0, Nat.zero_le _⟩ (fun j h => round j h.1 h.2)
theorem SC_loopS {P : Program} {n : Nat} {Q : Post} {env E0 : Env} {w0 : World} {A A' : List Asr} {c : Code} (t s N : Nat) (R : Nat → Prop) (hs : Sub E0 env) (ht : lk env t = some (.int .i64 (s : Int))) (hA : Sel A A') (h0 : R s) (hN : s ≤ N)
    (round : ∀ j, R j → j ≤ N → SC P n c (thenE (LoopK (fun j : Nat => (t, .int .i64 (j : Int)) :: E0) (fun _ => A') (fun j => R j ∧ j ≤ N) (fun j => N - j) j w0) Q) ((t, .int .i64 (j : Int)) :: E0) w0 A') : SC P n (.loop c) Q env w0 A :=
  SC_loop (α := Nat) (fun j => (t, .int .i64 (j : Int)) :: E0) (fun _ => A') (fun j => R j ∧ j ≤ N) (fun j => N - j) s ⟨ht, hs⟩ hA ⟨h0, hN⟩ (fun j h => round j h.1 h.2)
end Go.Proofs.Ythjlafpfhgbfoaa
