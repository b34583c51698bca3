/- Older contracts by their pieces: ranges, numbers. No condition. -/
import Derived.Test.YtceokjbnjnalhaaL12
import Derived.Test.YtceokjbnjnalhaaRR

namespace Go.Proofs.Ytceokjbnjnalhaa
open Go Go.RowKit
set_option linter.unusedSimpArgs false
set_option linter.unusedVariables false
def RngA (rs : List Rng) : Value → Asr → Prop := fun v a => ∃ g, a = .own v 64 2 g (rs.map Rng.cells)
theorem s23 (w : World) (v : Value) (rs : List Rng) (hS : Rngs w v rs) (hn : rs.length ≤ 1048576) : Calls Try.prog 23 #[v] w (Ret1 (RngA rs) w) :=
  (c23 w v rs hS hn).mono fun e w' ⟨v, g, he, x, hg, o⟩ => ⟨_, _, he, ⟨_, rfl, some g, rfl⟩, St.new1 x (new_some hg) o⟩
theorem s29 (w : World) (v : Value) (ws : List Rng) (g : Option Nat) (k : Int) (o : Own w v 64 2 g (ws.map Rng.cells)) (hk : 0 ≤ k ∧ k + 2 * ws.length ≤ 1000000000) :
    Calls Try.prog 29 #[v, .int .i64 k] w (RetM (.int .i64 (k + 2 * ws.length)) v 64 2 g ((Rng.marked k ws.length).map Rng.cells) w) := c29 w v ws g k o hk
theorem s30 (w : World) (v : Value) (ws : List Int) (g : Option Nat) (k : Int) (o : Own w v 3 1 g (ws.map icell)) (hk : 0 ≤ k ∧ k + ws.length ≤ 1000000000) :
    Calls Try.prog 30 #[v, .int .i64 k] w (RetM (.int .i64 (k + ws.length)) v 3 1 g ((imarked k ws.length).map icell) w) := c30 w v ws g k o hk
end Go.Proofs.Ytceokjbnjnalhaa
