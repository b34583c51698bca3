/- A loop over a counter with a sum. No condition. -/
import Derived.Test.YtceokjbnjnalhaaS5
namespace Go.Proofs.Ytceokjbnjnalhaa
open Go Go.RowKit
set_option linter.unusedSimpArgs false
set_option linter.unusedVariables false
theorem SC_loopA {P : Program} {n : Nat} {Q : Post} {env E0 : Env} {w0 : World} {A A' : List Asr} {c : Code} (t u N : Nat) (acc : Nat → Int) (hs : Sub E0 env) (ht : lk env t = some (.int .i64 ((0 : Nat) : Int))) (hu : lk env u = some (.int .i64 (acc 0))) (hA : Sel A A')
    (round : ∀ j, j ≤ N → SC P n c (thenE (LoopK (fun j : Nat => (t, .int .i64 (j : Int)) :: (u, .int .i64 (acc j)) :: E0) (fun _ => A') (fun j => j ≤ N) (fun j => N - j) j w0) Q) ((t, .int .i64 (j : Int)) :: (u, .int .i64 (acc j)) :: E0) w0 A') : SC P n (.loop c) Q env w0 A :=
  SC_loop (α := Nat) (fun j => (t, .int .i64 (j : Int)) :: (u, .int .i64 (acc j)) :: E0) (fun _ => A') (fun j => j ≤ N) (fun j => N - j) 0 ⟨ht, hu, hs⟩ hA (Nat.zero_le _) (fun j h => round j h)
end Go.Proofs.Ytceokjbnjnalhaa
