/-
  No cell of these rows narrows 'for every input' (looked for: loops, veiled, ifaces, maps, wideKeys, modest, calm, conditions, laid).
  DERIVED. THE GIVEN ROWS OF THIS SEAT. 16 by the template 'for every input the law returns true; each argument reads behind the call as it read before'; 0 by the template 'total and deterministic' (their statements: YtiandcilkmdfnaaTotals.lean).
  GIVEN WITH THE SEED: the statements are not yours to turn. If you find one false, say at which input.
  Laid BY PROGRAM, IN A SANDBOX (cutbox-rows.mjs): the forced cells as the released guide's own fill.sh prints them over the translation 33c9d09f8bd4d78e… (all of the seat's roots in one cut). By AI agents, Wed Nov 11 2026. No macro, syntax, notation, axiom, sorry.
-/
import Derived.Test.YtiandcilkmdfnaaChecked
import GoSem.Claim
import GoSem.ClaimJoined
import GoSem.ClaimMapViews
import Derived.JoinedTies
import Derived.KernelRfl
namespace Go.Proofs.Ytiandcilkmdfnaa
/- THE CELL 'sum', in the pinned program and in every row, IS THE sha256 OF THE DUMP (.gsa) THAT YtiandcilkmdfnaaProg.lean LOADS. Nothing in Lean hashes anything: it is a label: what it is worth is what the hold of that sum in a sandbox is worth. -/
noncomputable def Try.pinned : Pinned := { name := "ytiandcilkmdfnaa", sum := "33c9d09f8bd4d78e3f264e4d81ca31ae420b6b48d2ebf79b5849abb4a4bdd950", checked := Try.checked }
namespace Rows
def none {H : Type} : Left H := { results := [], args := [] }

/-- 'laws.FnExactWindowsValid': WHATEVER THE INPUT: true; the input reads as it did. -/
def fnExactWindowsValidSpec : ChangeSpec := { name := "fnExactWindowsValid", fn := fun _ => fun
  | [d] => { results := [.lit (.bool true)], args := [d] }
  | _ => none }
def fnExactWindowsValidRow : OpenClaim := { program := "ytiandcilkmdfnaa", sum := "33c9d09f8bd4d78e3f264e4d81ca31ae420b6b48d2ebf79b5849abb4a4bdd950", func := "loop.example/multipathtransport/laws.FnExactWindowsValid", spec := "fnExactWindowsValid", apart := false }
def FnExactWindowsValidSaid : Prop := fnExactWindowsValidRow.holds Try.pinned (OpenSpec.ofChange fnExactWindowsValidSpec)

/-- ITS FALSE NEIGHBOUR: 'it returns false'. Refute it at one input. -/
def fnExactWindowsValidWrong : ChangeSpec := { name := "fnExactWindowsValid", fn := fun _ => fun
  | [d] => { results := [.lit (.bool false)], args := [d] }
  | _ => none }
def FnExactWindowsValidWrongFalsely : Prop := fnExactWindowsValidRow.holds Try.pinned (OpenSpec.ofChange fnExactWindowsValidWrong)

/-- 'laws.FnExactWindowTotal': WHATEVER THE INPUT: true; the input reads as it did. -/
def fnExactWindowTotalSpec : ChangeSpec := { name := "fnExactWindowTotal", fn := fun _ => fun
  | [d] => { results := [.lit (.bool true)], args := [d] }
  | _ => none }
def fnExactWindowTotalRow : OpenClaim := { program := "ytiandcilkmdfnaa", sum := "33c9d09f8bd4d78e3f264e4d81ca31ae420b6b48d2ebf79b5849abb4a4bdd950", func := "loop.example/multipathtransport/laws.FnExactWindowTotal", spec := "fnExactWindowTotal", apart := false }
def FnExactWindowTotalSaid : Prop := fnExactWindowTotalRow.holds Try.pinned (OpenSpec.ofChange fnExactWindowTotalSpec)

/-- ITS FALSE NEIGHBOUR: 'it returns false'. Refute it at one input. -/
def fnExactWindowTotalWrong : ChangeSpec := { name := "fnExactWindowTotal", fn := fun _ => fun
  | [d] => { results := [.lit (.bool false)], args := [d] }
  | _ => none }
def FnExactWindowTotalWrongFalsely : Prop := fnExactWindowTotalRow.holds Try.pinned (OpenSpec.ofChange fnExactWindowTotalWrong)

/-- 'laws.FnExactWindowIncrease': WHATEVER THE INPUT: true; the input reads as it did. -/
def fnExactWindowIncreaseSpec : ChangeSpec := { name := "fnExactWindowIncrease", fn := fun _ => fun
  | [d1, d2] => { results := [.lit (.bool true)], args := [d1, d2] }
  | _ => none }
def fnExactWindowIncreaseRow : OpenClaim := { program := "ytiandcilkmdfnaa", sum := "33c9d09f8bd4d78e3f264e4d81ca31ae420b6b48d2ebf79b5849abb4a4bdd950", func := "loop.example/multipathtransport/laws.FnExactWindowIncrease", spec := "fnExactWindowIncrease", apart := false }
def FnExactWindowIncreaseSaid : Prop := fnExactWindowIncreaseRow.holds Try.pinned (OpenSpec.ofChange fnExactWindowIncreaseSpec)

/-- ITS FALSE NEIGHBOUR: 'it returns false'. Refute it at one input. -/
def fnExactWindowIncreaseWrong : ChangeSpec := { name := "fnExactWindowIncrease", fn := fun _ => fun
  | [d1, d2] => { results := [.lit (.bool false)], args := [d1, d2] }
  | _ => none }
def FnExactWindowIncreaseWrongFalsely : Prop := fnExactWindowIncreaseRow.holds Try.pinned (OpenSpec.ofChange fnExactWindowIncreaseWrong)

/-- 'laws.FnWindowCopies': WHATEVER THE INPUT: true; the input reads as it did. -/
def fnWindowCopiesSpec : ChangeSpec := { name := "fnWindowCopies", fn := fun _ => fun
  | [d1, d2] => { results := [.lit (.bool true)], args := [d1, d2] }
  | _ => none }
def fnWindowCopiesRow : OpenClaim := { program := "ytiandcilkmdfnaa", sum := "33c9d09f8bd4d78e3f264e4d81ca31ae420b6b48d2ebf79b5849abb4a4bdd950", func := "loop.example/multipathtransport/laws.FnWindowCopies", spec := "fnWindowCopies", apart := false }
def FnWindowCopiesSaid : Prop := fnWindowCopiesRow.holds Try.pinned (OpenSpec.ofChange fnWindowCopiesSpec)

/-- ITS FALSE NEIGHBOUR: 'it returns false'. Refute it at one input. -/
def fnWindowCopiesWrong : ChangeSpec := { name := "fnWindowCopies", fn := fun _ => fun
  | [d1, d2] => { results := [.lit (.bool false)], args := [d1, d2] }
  | _ => none }
def FnWindowCopiesWrongFalsely : Prop := fnWindowCopiesRow.holds Try.pinned (OpenSpec.ofChange fnWindowCopiesWrong)

/-- 'laws.FnWindowFair': WHATEVER THE INPUT: true; the input reads as it did. -/
def fnWindowFairSpec : ChangeSpec := { name := "fnWindowFair", fn := fun _ => fun
  | [d] => { results := [.lit (.bool true)], args := [d] }
  | _ => none }
def fnWindowFairRow : OpenClaim := { program := "ytiandcilkmdfnaa", sum := "33c9d09f8bd4d78e3f264e4d81ca31ae420b6b48d2ebf79b5849abb4a4bdd950", func := "loop.example/multipathtransport/laws.FnWindowFair", spec := "fnWindowFair", apart := false }
def FnWindowFairSaid : Prop := fnWindowFairRow.holds Try.pinned (OpenSpec.ofChange fnWindowFairSpec)

/-- ITS FALSE NEIGHBOUR: 'it returns false'. Refute it at one input. -/
def fnWindowFairWrong : ChangeSpec := { name := "fnWindowFair", fn := fun _ => fun
  | [d] => { results := [.lit (.bool false)], args := [d] }
  | _ => none }
def FnWindowFairWrongFalsely : Prop := fnWindowFairRow.holds Try.pinned (OpenSpec.ofChange fnWindowFairWrong)

/-- 'laws.FnWindowOrder': WHATEVER THE INPUT: true; the input reads as it did. -/
def fnWindowOrderSpec : ChangeSpec := { name := "fnWindowOrder", fn := fun _ => fun
  | [d] => { results := [.lit (.bool true)], args := [d] }
  | _ => none }
def fnWindowOrderRow : OpenClaim := { program := "ytiandcilkmdfnaa", sum := "33c9d09f8bd4d78e3f264e4d81ca31ae420b6b48d2ebf79b5849abb4a4bdd950", func := "loop.example/multipathtransport/laws.FnWindowOrder", spec := "fnWindowOrder", apart := false }
def FnWindowOrderSaid : Prop := fnWindowOrderRow.holds Try.pinned (OpenSpec.ofChange fnWindowOrderSpec)

/-- ITS FALSE NEIGHBOUR: 'it returns false'. Refute it at one input. -/
def fnWindowOrderWrong : ChangeSpec := { name := "fnWindowOrder", fn := fun _ => fun
  | [d] => { results := [.lit (.bool false)], args := [d] }
  | _ => none }
def FnWindowOrderWrongFalsely : Prop := fnWindowOrderRow.holds Try.pinned (OpenSpec.ofChange fnWindowOrderWrong)

/-- 'laws.FnWindowSingle': WHATEVER THE INPUT: true; the input reads as it did. -/
def fnWindowSingleSpec : ChangeSpec := { name := "fnWindowSingle", fn := fun _ => fun
  | [d] => { results := [.lit (.bool true)], args := [d] }
  | _ => none }
def fnWindowSingleRow : OpenClaim := { program := "ytiandcilkmdfnaa", sum := "33c9d09f8bd4d78e3f264e4d81ca31ae420b6b48d2ebf79b5849abb4a4bdd950", func := "loop.example/multipathtransport/laws.FnWindowSingle", spec := "fnWindowSingle", apart := false }
def FnWindowSingleSaid : Prop := fnWindowSingleRow.holds Try.pinned (OpenSpec.ofChange fnWindowSingleSpec)

/-- ITS FALSE NEIGHBOUR: 'it returns false'. Refute it at one input. -/
def fnWindowSingleWrong : ChangeSpec := { name := "fnWindowSingle", fn := fun _ => fun
  | [d] => { results := [.lit (.bool false)], args := [d] }
  | _ => none }
def FnWindowSingleWrongFalsely : Prop := fnWindowSingleRow.holds Try.pinned (OpenSpec.ofChange fnWindowSingleWrong)

/-- 'laws.FnWindowLoss': WHATEVER THE INPUT: true; the input reads as it did. -/
def fnWindowLossSpec : ChangeSpec := { name := "fnWindowLoss", fn := fun _ => fun
  | [d] => { results := [.lit (.bool true)], args := [d] }
  | _ => none }
def fnWindowLossRow : OpenClaim := { program := "ytiandcilkmdfnaa", sum := "33c9d09f8bd4d78e3f264e4d81ca31ae420b6b48d2ebf79b5849abb4a4bdd950", func := "loop.example/multipathtransport/laws.FnWindowLoss", spec := "fnWindowLoss", apart := false }
def FnWindowLossSaid : Prop := fnWindowLossRow.holds Try.pinned (OpenSpec.ofChange fnWindowLossSpec)

/-- ITS FALSE NEIGHBOUR: 'it returns false'. Refute it at one input. -/
def fnWindowLossWrong : ChangeSpec := { name := "fnWindowLoss", fn := fun _ => fun
  | [d] => { results := [.lit (.bool false)], args := [d] }
  | _ => none }
def FnWindowLossWrongFalsely : Prop := fnWindowLossRow.holds Try.pinned (OpenSpec.ofChange fnWindowLossWrong)

/-- 'laws.FnWindowLosses': WHATEVER THE INPUT: true; the input reads as it did. -/
def fnWindowLossesSpec : ChangeSpec := { name := "fnWindowLosses", fn := fun _ => fun
  | [d] => { results := [.lit (.bool true)], args := [d] }
  | _ => none }
def fnWindowLossesRow : OpenClaim := { program := "ytiandcilkmdfnaa", sum := "33c9d09f8bd4d78e3f264e4d81ca31ae420b6b48d2ebf79b5849abb4a4bdd950", func := "loop.example/multipathtransport/laws.FnWindowLosses", spec := "fnWindowLosses", apart := false }
def FnWindowLossesSaid : Prop := fnWindowLossesRow.holds Try.pinned (OpenSpec.ofChange fnWindowLossesSpec)

/-- ITS FALSE NEIGHBOUR: 'it returns false'. Refute it at one input. -/
def fnWindowLossesWrong : ChangeSpec := { name := "fnWindowLosses", fn := fun _ => fun
  | [d] => { results := [.lit (.bool false)], args := [d] }
  | _ => none }
def FnWindowLossesWrongFalsely : Prop := fnWindowLossesRow.holds Try.pinned (OpenSpec.ofChange fnWindowLossesWrong)

/-- 'laws.FnExactWindowLoss': WHATEVER THE INPUT: true; the input reads as it did. -/
def fnExactWindowLossSpec : ChangeSpec := { name := "fnExactWindowLoss", fn := fun _ => fun
  | [d1, d2] => { results := [.lit (.bool true)], args := [d1, d2] }
  | _ => none }
def fnExactWindowLossRow : OpenClaim := { program := "ytiandcilkmdfnaa", sum := "33c9d09f8bd4d78e3f264e4d81ca31ae420b6b48d2ebf79b5849abb4a4bdd950", func := "loop.example/multipathtransport/laws.FnExactWindowLoss", spec := "fnExactWindowLoss", apart := false }
def FnExactWindowLossSaid : Prop := fnExactWindowLossRow.holds Try.pinned (OpenSpec.ofChange fnExactWindowLossSpec)

/-- ITS FALSE NEIGHBOUR: 'it returns false'. Refute it at one input. -/
def fnExactWindowLossWrong : ChangeSpec := { name := "fnExactWindowLoss", fn := fun _ => fun
  | [d1, d2] => { results := [.lit (.bool false)], args := [d1, d2] }
  | _ => none }
def FnExactWindowLossWrongFalsely : Prop := fnExactWindowLossRow.holds Try.pinned (OpenSpec.ofChange fnExactWindowLossWrong)

/-- 'laws.FnWindowTotal': WHATEVER THE INPUT: true; the input reads as it did. -/
def fnWindowTotalSpec : ChangeSpec := { name := "fnWindowTotal", fn := fun _ => fun
  | [d1, d2] => { results := [.lit (.bool true)], args := [d1, d2] }
  | _ => none }
def fnWindowTotalRow : OpenClaim := { program := "ytiandcilkmdfnaa", sum := "33c9d09f8bd4d78e3f264e4d81ca31ae420b6b48d2ebf79b5849abb4a4bdd950", func := "loop.example/multipathtransport/laws.FnWindowTotal", spec := "fnWindowTotal", apart := false }
def FnWindowTotalSaid : Prop := fnWindowTotalRow.holds Try.pinned (OpenSpec.ofChange fnWindowTotalSpec)

/-- ITS FALSE NEIGHBOUR: 'it returns false'. Refute it at one input. -/
def fnWindowTotalWrong : ChangeSpec := { name := "fnWindowTotal", fn := fun _ => fun
  | [d1, d2] => { results := [.lit (.bool false)], args := [d1, d2] }
  | _ => none }
def FnWindowTotalWrongFalsely : Prop := fnWindowTotalRow.holds Try.pinned (OpenSpec.ofChange fnWindowTotalWrong)

/-- 'laws.FnWindowAckOne': WHATEVER THE INPUT: true; the input reads as it did. -/
def fnWindowAckOneSpec : ChangeSpec := { name := "fnWindowAckOne", fn := fun _ => fun
  | [d] => { results := [.lit (.bool true)], args := [d] }
  | _ => none }
def fnWindowAckOneRow : OpenClaim := { program := "ytiandcilkmdfnaa", sum := "33c9d09f8bd4d78e3f264e4d81ca31ae420b6b48d2ebf79b5849abb4a4bdd950", func := "loop.example/multipathtransport/laws.FnWindowAckOne", spec := "fnWindowAckOne", apart := false }
def FnWindowAckOneSaid : Prop := fnWindowAckOneRow.holds Try.pinned (OpenSpec.ofChange fnWindowAckOneSpec)

/-- ITS FALSE NEIGHBOUR: 'it returns false'. Refute it at one input. -/
def fnWindowAckOneWrong : ChangeSpec := { name := "fnWindowAckOne", fn := fun _ => fun
  | [d] => { results := [.lit (.bool false)], args := [d] }
  | _ => none }
def FnWindowAckOneWrongFalsely : Prop := fnWindowAckOneRow.holds Try.pinned (OpenSpec.ofChange fnWindowAckOneWrong)

/-- 'laws.FnWindowCredit': WHATEVER THE INPUT: true; the input reads as it did. -/
def fnWindowCreditSpec : ChangeSpec := { name := "fnWindowCredit", fn := fun _ => fun
  | [d] => { results := [.lit (.bool true)], args := [d] }
  | _ => none }
def fnWindowCreditRow : OpenClaim := { program := "ytiandcilkmdfnaa", sum := "33c9d09f8bd4d78e3f264e4d81ca31ae420b6b48d2ebf79b5849abb4a4bdd950", func := "loop.example/multipathtransport/laws.FnWindowCredit", spec := "fnWindowCredit", apart := false }
def FnWindowCreditSaid : Prop := fnWindowCreditRow.holds Try.pinned (OpenSpec.ofChange fnWindowCreditSpec)

/-- ITS FALSE NEIGHBOUR: 'it returns false'. Refute it at one input. -/
def fnWindowCreditWrong : ChangeSpec := { name := "fnWindowCredit", fn := fun _ => fun
  | [d] => { results := [.lit (.bool false)], args := [d] }
  | _ => none }
def FnWindowCreditWrongFalsely : Prop := fnWindowCreditRow.holds Try.pinned (OpenSpec.ofChange fnWindowCreditWrong)

/-- 'laws.FnWindowSlowStart': WHATEVER THE INPUT: true; the input reads as it did. -/
def fnWindowSlowStartSpec : ChangeSpec := { name := "fnWindowSlowStart", fn := fun _ => fun
  | [d] => { results := [.lit (.bool true)], args := [d] }
  | _ => none }
def fnWindowSlowStartRow : OpenClaim := { program := "ytiandcilkmdfnaa", sum := "33c9d09f8bd4d78e3f264e4d81ca31ae420b6b48d2ebf79b5849abb4a4bdd950", func := "loop.example/multipathtransport/laws.FnWindowSlowStart", spec := "fnWindowSlowStart", apart := false }
def FnWindowSlowStartSaid : Prop := fnWindowSlowStartRow.holds Try.pinned (OpenSpec.ofChange fnWindowSlowStartSpec)

/-- ITS FALSE NEIGHBOUR: 'it returns false'. Refute it at one input. -/
def fnWindowSlowStartWrong : ChangeSpec := { name := "fnWindowSlowStart", fn := fun _ => fun
  | [d] => { results := [.lit (.bool false)], args := [d] }
  | _ => none }
def FnWindowSlowStartWrongFalsely : Prop := fnWindowSlowStartRow.holds Try.pinned (OpenSpec.ofChange fnWindowSlowStartWrong)

/-- 'laws.FnWindowValid': WHATEVER THE INPUT: true; the input reads as it did. -/
def fnWindowValidSpec : ChangeSpec := { name := "fnWindowValid", fn := fun _ => fun
  | [d] => { results := [.lit (.bool true)], args := [d] }
  | _ => none }
def fnWindowValidRow : OpenClaim := { program := "ytiandcilkmdfnaa", sum := "33c9d09f8bd4d78e3f264e4d81ca31ae420b6b48d2ebf79b5849abb4a4bdd950", func := "loop.example/multipathtransport/laws.FnWindowValid", spec := "fnWindowValid", apart := false }
def FnWindowValidSaid : Prop := fnWindowValidRow.holds Try.pinned (OpenSpec.ofChange fnWindowValidSpec)

/-- ITS FALSE NEIGHBOUR: 'it returns false'. Refute it at one input. -/
def fnWindowValidWrong : ChangeSpec := { name := "fnWindowValid", fn := fun _ => fun
  | [d] => { results := [.lit (.bool false)], args := [d] }
  | _ => none }
def FnWindowValidWrongFalsely : Prop := fnWindowValidRow.holds Try.pinned (OpenSpec.ofChange fnWindowValidWrong)

/-- 'laws.FnExactWindowAck': WHATEVER THE INPUT: true; the input reads as it did. -/
def fnExactWindowAckSpec : ChangeSpec := { name := "fnExactWindowAck", fn := fun _ => fun
  | [d1, d2] => { results := [.lit (.bool true)], args := [d1, d2] }
  | _ => none }
def fnExactWindowAckRow : OpenClaim := { program := "ytiandcilkmdfnaa", sum := "33c9d09f8bd4d78e3f264e4d81ca31ae420b6b48d2ebf79b5849abb4a4bdd950", func := "loop.example/multipathtransport/laws.FnExactWindowAck", spec := "fnExactWindowAck", apart := false }
def FnExactWindowAckSaid : Prop := fnExactWindowAckRow.holds Try.pinned (OpenSpec.ofChange fnExactWindowAckSpec)

/-- ITS FALSE NEIGHBOUR: 'it returns false'. Refute it at one input. -/
def fnExactWindowAckWrong : ChangeSpec := { name := "fnExactWindowAck", fn := fun _ => fun
  | [d1, d2] => { results := [.lit (.bool false)], args := [d1, d2] }
  | _ => none }
def FnExactWindowAckWrongFalsely : Prop := fnExactWindowAckRow.holds Try.pinned (OpenSpec.ofChange fnExactWindowAckWrong)

/- THE SECOND FORM. 'bulk': how many values and letters a reading holds, each counted each time it is reached (what is shared counts as often as it is met; a slice's spare places count too). A statement '..UptoSaid' is the law's where the arguments, and the package variables that the reading takes, are together of bulk at most 1048576: NARROWER than '..Said'. Prove '..Said' where nothing that the law and all that it calls make is longer than what came in: it says more and counts as full. Else prove '..UptoSaid'. A law counts once. -/
mutual
def uptoBulk {H : Type} : DataW H → Nat
  | .lit (.string bytes) => bytes.length + 1
  | .lit _ => 1
  | .nil => 1
  | .ptr d => uptoBulk d + 1
  | .slice elems spare => uptoBulkAll elems + uptoBulkAll spare + 1
  | .agg parts => uptoBulkAll parts + 1
  | .iface _ d => uptoBulk d + 1
  | .map entries => uptoBulkEntries entries + 1
  | .held _ => 1
def uptoBulkAll {H : Type} : List (DataW H) → Nat
  | [] => 0
  | d :: r => uptoBulk d + uptoBulkAll r
def uptoBulkEntries {H : Type} : List (Lit × DataW H) → Nat
  | [] => 0
  | x :: r => uptoBulkEntry x + uptoBulkEntries r
def uptoBulkEntry {H : Type} : Lit × DataW H → Nat
  | (.string bytes, d) => bytes.length + uptoBulk d + 1
  | (_, d) => uptoBulk d + 1
 end
def uptoSmall : (H : Type) → List (DataW H) → Bool := fun _ ds => decide (uptoBulkAll ds ≤ 1048576)
def OpenSpec.upto (s : _root_.Go.ChangeSpec) : _root_.Go.OpenSpec := { _root_.Go.OpenSpec.ofChange s with cond := some uptoSmall }

/-- 'laws.FnExactWindowsValid', WHERE WHAT IT READS IS OF BULK AT MOST 1048576: true; the input reads as it did. -/
def fnExactWindowsValidUptoRow : OpenClaim := { program := "ytiandcilkmdfnaa", sum := "33c9d09f8bd4d78e3f264e4d81ca31ae420b6b48d2ebf79b5849abb4a4bdd950", func := "loop.example/multipathtransport/laws.FnExactWindowsValid", spec := "fnExactWindowsValid", apart := false, narrowed := true }
def FnExactWindowsValidUptoSaid : Prop := fnExactWindowsValidUptoRow.holds Try.pinned (OpenSpec.upto fnExactWindowsValidSpec)

/-- 'laws.FnExactWindowTotal', WHERE WHAT IT READS IS OF BULK AT MOST 1048576: true; the input reads as it did. -/
def fnExactWindowTotalUptoRow : OpenClaim := { program := "ytiandcilkmdfnaa", sum := "33c9d09f8bd4d78e3f264e4d81ca31ae420b6b48d2ebf79b5849abb4a4bdd950", func := "loop.example/multipathtransport/laws.FnExactWindowTotal", spec := "fnExactWindowTotal", apart := false, narrowed := true }
def FnExactWindowTotalUptoSaid : Prop := fnExactWindowTotalUptoRow.holds Try.pinned (OpenSpec.upto fnExactWindowTotalSpec)

/-- 'laws.FnExactWindowIncrease', WHERE WHAT IT READS IS OF BULK AT MOST 1048576: true; the input reads as it did. -/
def fnExactWindowIncreaseUptoRow : OpenClaim := { program := "ytiandcilkmdfnaa", sum := "33c9d09f8bd4d78e3f264e4d81ca31ae420b6b48d2ebf79b5849abb4a4bdd950", func := "loop.example/multipathtransport/laws.FnExactWindowIncrease", spec := "fnExactWindowIncrease", apart := false, narrowed := true }
def FnExactWindowIncreaseUptoSaid : Prop := fnExactWindowIncreaseUptoRow.holds Try.pinned (OpenSpec.upto fnExactWindowIncreaseSpec)

/-- 'laws.FnWindowCopies', WHERE WHAT IT READS IS OF BULK AT MOST 1048576: true; the input reads as it did. -/
def fnWindowCopiesUptoRow : OpenClaim := { program := "ytiandcilkmdfnaa", sum := "33c9d09f8bd4d78e3f264e4d81ca31ae420b6b48d2ebf79b5849abb4a4bdd950", func := "loop.example/multipathtransport/laws.FnWindowCopies", spec := "fnWindowCopies", apart := false, narrowed := true }
def FnWindowCopiesUptoSaid : Prop := fnWindowCopiesUptoRow.holds Try.pinned (OpenSpec.upto fnWindowCopiesSpec)

/-- 'laws.FnWindowFair', WHERE WHAT IT READS IS OF BULK AT MOST 1048576: true; the input reads as it did. -/
def fnWindowFairUptoRow : OpenClaim := { program := "ytiandcilkmdfnaa", sum := "33c9d09f8bd4d78e3f264e4d81ca31ae420b6b48d2ebf79b5849abb4a4bdd950", func := "loop.example/multipathtransport/laws.FnWindowFair", spec := "fnWindowFair", apart := false, narrowed := true }
def FnWindowFairUptoSaid : Prop := fnWindowFairUptoRow.holds Try.pinned (OpenSpec.upto fnWindowFairSpec)

/-- 'laws.FnWindowOrder', WHERE WHAT IT READS IS OF BULK AT MOST 1048576: true; the input reads as it did. -/
def fnWindowOrderUptoRow : OpenClaim := { program := "ytiandcilkmdfnaa", sum := "33c9d09f8bd4d78e3f264e4d81ca31ae420b6b48d2ebf79b5849abb4a4bdd950", func := "loop.example/multipathtransport/laws.FnWindowOrder", spec := "fnWindowOrder", apart := false, narrowed := true }
def FnWindowOrderUptoSaid : Prop := fnWindowOrderUptoRow.holds Try.pinned (OpenSpec.upto fnWindowOrderSpec)

/-- 'laws.FnWindowSingle', WHERE WHAT IT READS IS OF BULK AT MOST 1048576: true; the input reads as it did. -/
def fnWindowSingleUptoRow : OpenClaim := { program := "ytiandcilkmdfnaa", sum := "33c9d09f8bd4d78e3f264e4d81ca31ae420b6b48d2ebf79b5849abb4a4bdd950", func := "loop.example/multipathtransport/laws.FnWindowSingle", spec := "fnWindowSingle", apart := false, narrowed := true }
def FnWindowSingleUptoSaid : Prop := fnWindowSingleUptoRow.holds Try.pinned (OpenSpec.upto fnWindowSingleSpec)

/-- 'laws.FnWindowLoss', WHERE WHAT IT READS IS OF BULK AT MOST 1048576: true; the input reads as it did. -/
def fnWindowLossUptoRow : OpenClaim := { program := "ytiandcilkmdfnaa", sum := "33c9d09f8bd4d78e3f264e4d81ca31ae420b6b48d2ebf79b5849abb4a4bdd950", func := "loop.example/multipathtransport/laws.FnWindowLoss", spec := "fnWindowLoss", apart := false, narrowed := true }
def FnWindowLossUptoSaid : Prop := fnWindowLossUptoRow.holds Try.pinned (OpenSpec.upto fnWindowLossSpec)

/-- 'laws.FnWindowLosses', WHERE WHAT IT READS IS OF BULK AT MOST 1048576: true; the input reads as it did. -/
def fnWindowLossesUptoRow : OpenClaim := { program := "ytiandcilkmdfnaa", sum := "33c9d09f8bd4d78e3f264e4d81ca31ae420b6b48d2ebf79b5849abb4a4bdd950", func := "loop.example/multipathtransport/laws.FnWindowLosses", spec := "fnWindowLosses", apart := false, narrowed := true }
def FnWindowLossesUptoSaid : Prop := fnWindowLossesUptoRow.holds Try.pinned (OpenSpec.upto fnWindowLossesSpec)

/-- 'laws.FnExactWindowLoss', WHERE WHAT IT READS IS OF BULK AT MOST 1048576: true; the input reads as it did. -/
def fnExactWindowLossUptoRow : OpenClaim := { program := "ytiandcilkmdfnaa", sum := "33c9d09f8bd4d78e3f264e4d81ca31ae420b6b48d2ebf79b5849abb4a4bdd950", func := "loop.example/multipathtransport/laws.FnExactWindowLoss", spec := "fnExactWindowLoss", apart := false, narrowed := true }
def FnExactWindowLossUptoSaid : Prop := fnExactWindowLossUptoRow.holds Try.pinned (OpenSpec.upto fnExactWindowLossSpec)

/-- 'laws.FnWindowTotal', WHERE WHAT IT READS IS OF BULK AT MOST 1048576: true; the input reads as it did. -/
def fnWindowTotalUptoRow : OpenClaim := { program := "ytiandcilkmdfnaa", sum := "33c9d09f8bd4d78e3f264e4d81ca31ae420b6b48d2ebf79b5849abb4a4bdd950", func := "loop.example/multipathtransport/laws.FnWindowTotal", spec := "fnWindowTotal", apart := false, narrowed := true }
def FnWindowTotalUptoSaid : Prop := fnWindowTotalUptoRow.holds Try.pinned (OpenSpec.upto fnWindowTotalSpec)

/-- 'laws.FnWindowAckOne', WHERE WHAT IT READS IS OF BULK AT MOST 1048576: true; the input reads as it did. -/
def fnWindowAckOneUptoRow : OpenClaim := { program := "ytiandcilkmdfnaa", sum := "33c9d09f8bd4d78e3f264e4d81ca31ae420b6b48d2ebf79b5849abb4a4bdd950", func := "loop.example/multipathtransport/laws.FnWindowAckOne", spec := "fnWindowAckOne", apart := false, narrowed := true }
def FnWindowAckOneUptoSaid : Prop := fnWindowAckOneUptoRow.holds Try.pinned (OpenSpec.upto fnWindowAckOneSpec)

/-- 'laws.FnWindowCredit', WHERE WHAT IT READS IS OF BULK AT MOST 1048576: true; the input reads as it did. -/
def fnWindowCreditUptoRow : OpenClaim := { program := "ytiandcilkmdfnaa", sum := "33c9d09f8bd4d78e3f264e4d81ca31ae420b6b48d2ebf79b5849abb4a4bdd950", func := "loop.example/multipathtransport/laws.FnWindowCredit", spec := "fnWindowCredit", apart := false, narrowed := true }
def FnWindowCreditUptoSaid : Prop := fnWindowCreditUptoRow.holds Try.pinned (OpenSpec.upto fnWindowCreditSpec)

/-- 'laws.FnWindowSlowStart', WHERE WHAT IT READS IS OF BULK AT MOST 1048576: true; the input reads as it did. -/
def fnWindowSlowStartUptoRow : OpenClaim := { program := "ytiandcilkmdfnaa", sum := "33c9d09f8bd4d78e3f264e4d81ca31ae420b6b48d2ebf79b5849abb4a4bdd950", func := "loop.example/multipathtransport/laws.FnWindowSlowStart", spec := "fnWindowSlowStart", apart := false, narrowed := true }
def FnWindowSlowStartUptoSaid : Prop := fnWindowSlowStartUptoRow.holds Try.pinned (OpenSpec.upto fnWindowSlowStartSpec)

/-- 'laws.FnWindowValid', WHERE WHAT IT READS IS OF BULK AT MOST 1048576: true; the input reads as it did. -/
def fnWindowValidUptoRow : OpenClaim := { program := "ytiandcilkmdfnaa", sum := "33c9d09f8bd4d78e3f264e4d81ca31ae420b6b48d2ebf79b5849abb4a4bdd950", func := "loop.example/multipathtransport/laws.FnWindowValid", spec := "fnWindowValid", apart := false, narrowed := true }
def FnWindowValidUptoSaid : Prop := fnWindowValidUptoRow.holds Try.pinned (OpenSpec.upto fnWindowValidSpec)

/-- 'laws.FnExactWindowAck', WHERE WHAT IT READS IS OF BULK AT MOST 1048576: true; the input reads as it did. -/
def fnExactWindowAckUptoRow : OpenClaim := { program := "ytiandcilkmdfnaa", sum := "33c9d09f8bd4d78e3f264e4d81ca31ae420b6b48d2ebf79b5849abb4a4bdd950", func := "loop.example/multipathtransport/laws.FnExactWindowAck", spec := "fnExactWindowAck", apart := false, narrowed := true }
def FnExactWindowAckUptoSaid : Prop := fnExactWindowAckUptoRow.holds Try.pinned (OpenSpec.upto fnExactWindowAckSpec)

end Rows
end Go.Proofs.Ytiandcilkmdfnaa
