/-
  No cell of these rows narrows 'for every input' (looked for: loops, veiled, ifaces, maps, wideKeys, modest, calm, conditions, laid).
  DERIVED. THE GIVEN ROWS OF THIS SEAT. 8 by the template 'for every input the law returns true; each argument reads behind the call as it read before'; 0 by the template 'total and deterministic' (their statements: YtkolihdbehjffaaTotals.lean).
  GIVEN WITH THE SEED: the statements are not yours to turn. If you find one false, say at which input.
  Laid BY PROGRAM, IN A SANDBOX (cutbox-rows.mjs): the forced cells as the released guide's own fill.sh prints them over the translation 1255b7c03ebedb4e… (all of the seat's roots in one cut). By AI agents, Wed Nov 11 2026. No macro, syntax, notation, axiom, sorry.
-/
import Derived.Test.YtkolihdbehjffaaChecked
import GoSem.Claim
import GoSem.ClaimJoined
import GoSem.ClaimMapViews
import Derived.JoinedTies
import Derived.KernelRfl
namespace Go.Proofs.Ytkolihdbehjffaa
/- THE CELL 'sum', in the pinned program and in every row, IS THE sha256 OF THE DUMP (.gsa) THAT YtkolihdbehjffaaProg.lean LOADS. Nothing in Lean hashes anything: it is a label: what it is worth is what the hold of that sum in a sandbox is worth. -/
noncomputable def Try.pinned : Pinned := { name := "ytkolihdbehjffaa", sum := "1255b7c03ebedb4e39cff19b43f0a3ecf84157cca0d7c9c67d3c11c2fd5583e5", checked := Try.checked }
namespace Rows
def none {H : Type} : Left H := { results := [], args := [] }

/-- 'laws.FnExactSendNew': WHATEVER THE INPUT: true; the input reads as it did. -/
def fnExactSendNewSpec : ChangeSpec := { name := "fnExactSendNew", fn := fun _ => fun
  | [d] => { results := [.lit (.bool true)], args := [d] }
  | _ => none }
def fnExactSendNewRow : OpenClaim := { program := "ytkolihdbehjffaa", sum := "1255b7c03ebedb4e39cff19b43f0a3ecf84157cca0d7c9c67d3c11c2fd5583e5", func := "loop.example/multipathtransport/laws.FnExactSendNew", spec := "fnExactSendNew", apart := false }
def FnExactSendNewSaid : Prop := fnExactSendNewRow.holds Try.pinned (OpenSpec.ofChange fnExactSendNewSpec)

/-- ITS FALSE NEIGHBOUR: 'it returns false'. Refute it at one input. -/
def fnExactSendNewWrong : ChangeSpec := { name := "fnExactSendNew", fn := fun _ => fun
  | [d] => { results := [.lit (.bool false)], args := [d] }
  | _ => none }
def FnExactSendNewWrongFalsely : Prop := fnExactSendNewRow.holds Try.pinned (OpenSpec.ofChange fnExactSendNewWrong)

/-- 'laws.FnSendFinish': WHATEVER THE INPUT: true; the input reads as it did. -/
def fnSendFinishSpec : ChangeSpec := { name := "fnSendFinish", fn := fun _ => fun
  | [d] => { results := [.lit (.bool true)], args := [d] }
  | _ => none }
def fnSendFinishRow : OpenClaim := { program := "ytkolihdbehjffaa", sum := "1255b7c03ebedb4e39cff19b43f0a3ecf84157cca0d7c9c67d3c11c2fd5583e5", func := "loop.example/multipathtransport/laws.FnSendFinish", spec := "fnSendFinish", unfollowed := true, recurses := true, apart := false }
def FnSendFinishSaid : Prop := fnSendFinishRow.holds Try.pinned (OpenSpec.ofChange fnSendFinishSpec)

/-- ITS FALSE NEIGHBOUR: 'it returns false'. Refute it at one input. -/
def fnSendFinishWrong : ChangeSpec := { name := "fnSendFinish", fn := fun _ => fun
  | [d] => { results := [.lit (.bool false)], args := [d] }
  | _ => none }
def FnSendFinishWrongFalsely : Prop := fnSendFinishRow.holds Try.pinned (OpenSpec.ofChange fnSendFinishWrong)

/-- 'laws.FnExactSendValid': WHATEVER THE INPUT: true; the input reads as it did. -/
def fnExactSendValidSpec : ChangeSpec := { name := "fnExactSendValid", fn := fun _ => fun
  | [d] => { results := [.lit (.bool true)], args := [d] }
  | _ => none }
def fnExactSendValidRow : OpenClaim := { program := "ytkolihdbehjffaa", sum := "1255b7c03ebedb4e39cff19b43f0a3ecf84157cca0d7c9c67d3c11c2fd5583e5", func := "loop.example/multipathtransport/laws.FnExactSendValid", spec := "fnExactSendValid", unfollowed := true, recurses := true, apart := false }
def FnExactSendValidSaid : Prop := fnExactSendValidRow.holds Try.pinned (OpenSpec.ofChange fnExactSendValidSpec)

/-- ITS FALSE NEIGHBOUR: 'it returns false'. Refute it at one input. -/
def fnExactSendValidWrong : ChangeSpec := { name := "fnExactSendValid", fn := fun _ => fun
  | [d] => { results := [.lit (.bool false)], args := [d] }
  | _ => none }
def FnExactSendValidWrongFalsely : Prop := fnExactSendValidRow.holds Try.pinned (OpenSpec.ofChange fnExactSendValidWrong)

/-- 'laws.FnExactSendDone': WHATEVER THE INPUT: true; the input reads as it did. -/
def fnExactSendDoneSpec : ChangeSpec := { name := "fnExactSendDone", fn := fun _ => fun
  | [d] => { results := [.lit (.bool true)], args := [d] }
  | _ => none }
def fnExactSendDoneRow : OpenClaim := { program := "ytkolihdbehjffaa", sum := "1255b7c03ebedb4e39cff19b43f0a3ecf84157cca0d7c9c67d3c11c2fd5583e5", func := "loop.example/multipathtransport/laws.FnExactSendDone", spec := "fnExactSendDone", unfollowed := true, recurses := true, apart := false }
def FnExactSendDoneSaid : Prop := fnExactSendDoneRow.holds Try.pinned (OpenSpec.ofChange fnExactSendDoneSpec)

/-- ITS FALSE NEIGHBOUR: 'it returns false'. Refute it at one input. -/
def fnExactSendDoneWrong : ChangeSpec := { name := "fnExactSendDone", fn := fun _ => fun
  | [d] => { results := [.lit (.bool false)], args := [d] }
  | _ => none }
def FnExactSendDoneWrongFalsely : Prop := fnExactSendDoneRow.holds Try.pinned (OpenSpec.ofChange fnExactSendDoneWrong)

/-- 'laws.FnExactPartSent': WHATEVER THE INPUT: true; the input reads as it did. -/
def fnExactPartSentSpec : ChangeSpec := { name := "fnExactPartSent", fn := fun _ => fun
  | [d1, d2] => { results := [.lit (.bool true)], args := [d1, d2] }
  | _ => none }
def fnExactPartSentRow : OpenClaim := { program := "ytkolihdbehjffaa", sum := "1255b7c03ebedb4e39cff19b43f0a3ecf84157cca0d7c9c67d3c11c2fd5583e5", func := "loop.example/multipathtransport/laws.FnExactPartSent", spec := "fnExactPartSent", unfollowed := true, recurses := true, apart := false }
def FnExactPartSentSaid : Prop := fnExactPartSentRow.holds Try.pinned (OpenSpec.ofChange fnExactPartSentSpec)

/-- ITS FALSE NEIGHBOUR: 'it returns false'. Refute it at one input. -/
def fnExactPartSentWrong : ChangeSpec := { name := "fnExactPartSent", fn := fun _ => fun
  | [d1, d2] => { results := [.lit (.bool false)], args := [d1, d2] }
  | _ => none }
def FnExactPartSentWrongFalsely : Prop := fnExactPartSentRow.holds Try.pinned (OpenSpec.ofChange fnExactPartSentWrong)

/-- 'laws.FnExactSendFinish': WHATEVER THE INPUT: true; the input reads as it did. -/
def fnExactSendFinishSpec : ChangeSpec := { name := "fnExactSendFinish", fn := fun _ => fun
  | [d] => { results := [.lit (.bool true)], args := [d] }
  | _ => none }
def fnExactSendFinishRow : OpenClaim := { program := "ytkolihdbehjffaa", sum := "1255b7c03ebedb4e39cff19b43f0a3ecf84157cca0d7c9c67d3c11c2fd5583e5", func := "loop.example/multipathtransport/laws.FnExactSendFinish", spec := "fnExactSendFinish", unfollowed := true, recurses := true, apart := false }
def FnExactSendFinishSaid : Prop := fnExactSendFinishRow.holds Try.pinned (OpenSpec.ofChange fnExactSendFinishSpec)

/-- ITS FALSE NEIGHBOUR: 'it returns false'. Refute it at one input. -/
def fnExactSendFinishWrong : ChangeSpec := { name := "fnExactSendFinish", fn := fun _ => fun
  | [d] => { results := [.lit (.bool false)], args := [d] }
  | _ => none }
def FnExactSendFinishWrongFalsely : Prop := fnExactSendFinishRow.holds Try.pinned (OpenSpec.ofChange fnExactSendFinishWrong)

/-- 'laws.FnExactSendGrant': WHATEVER THE INPUT: true; the input reads as it did. -/
def fnExactSendGrantSpec : ChangeSpec := { name := "fnExactSendGrant", fn := fun _ => fun
  | [d1, d2] => { results := [.lit (.bool true)], args := [d1, d2] }
  | _ => none }
def fnExactSendGrantRow : OpenClaim := { program := "ytkolihdbehjffaa", sum := "1255b7c03ebedb4e39cff19b43f0a3ecf84157cca0d7c9c67d3c11c2fd5583e5", func := "loop.example/multipathtransport/laws.FnExactSendGrant", spec := "fnExactSendGrant", unfollowed := true, recurses := true, apart := false }
def FnExactSendGrantSaid : Prop := fnExactSendGrantRow.holds Try.pinned (OpenSpec.ofChange fnExactSendGrantSpec)

/-- ITS FALSE NEIGHBOUR: 'it returns false'. Refute it at one input. -/
def fnExactSendGrantWrong : ChangeSpec := { name := "fnExactSendGrant", fn := fun _ => fun
  | [d1, d2] => { results := [.lit (.bool false)], args := [d1, d2] }
  | _ => none }
def FnExactSendGrantWrongFalsely : Prop := fnExactSendGrantRow.holds Try.pinned (OpenSpec.ofChange fnExactSendGrantWrong)

/-- 'laws.FnExactSendWrite': WHATEVER THE INPUT: true; the input reads as it did. -/
def fnExactSendWriteSpec : ChangeSpec := { name := "fnExactSendWrite", fn := fun _ => fun
  | [d1, d2] => { results := [.lit (.bool true)], args := [d1, d2] }
  | _ => none }
def fnExactSendWriteRow : OpenClaim := { program := "ytkolihdbehjffaa", sum := "1255b7c03ebedb4e39cff19b43f0a3ecf84157cca0d7c9c67d3c11c2fd5583e5", func := "loop.example/multipathtransport/laws.FnExactSendWrite", spec := "fnExactSendWrite", unfollowed := true, recurses := true, apart := false }
def FnExactSendWriteSaid : Prop := fnExactSendWriteRow.holds Try.pinned (OpenSpec.ofChange fnExactSendWriteSpec)

/-- ITS FALSE NEIGHBOUR: 'it returns false'. Refute it at one input. -/
def fnExactSendWriteWrong : ChangeSpec := { name := "fnExactSendWrite", fn := fun _ => fun
  | [d1, d2] => { results := [.lit (.bool false)], args := [d1, d2] }
  | _ => none }
def FnExactSendWriteWrongFalsely : Prop := fnExactSendWriteRow.holds Try.pinned (OpenSpec.ofChange fnExactSendWriteWrong)

/- THE SECOND FORM. 'bulk': how many values and letters a reading holds, each counted each time it is reached (what is shared counts as often as it is met; a slice's spare places count too). A statement '..UptoSaid' is the law's where the arguments, and the package variables that the reading takes, are together of bulk at most 1048576: NARROWER than '..Said'. Prove '..Said' where nothing that the law and all that it calls make is longer than what came in: it says more and counts as full. Else prove '..UptoSaid'. A law counts once. -/
mutual
def uptoBulk {H : Type} : DataW H → Nat
  | .lit (.string bytes) => bytes.length + 1
  | .lit _ => 1
  | .nil => 1
  | .ptr d => uptoBulk d + 1
  | .slice elems spare => uptoBulkAll elems + uptoBulkAll spare + 1
  | .agg parts => uptoBulkAll parts + 1
  | .iface _ d => uptoBulk d + 1
  | .map entries => uptoBulkEntries entries + 1
  | .held _ => 1
def uptoBulkAll {H : Type} : List (DataW H) → Nat
  | [] => 0
  | d :: r => uptoBulk d + uptoBulkAll r
def uptoBulkEntries {H : Type} : List (Lit × DataW H) → Nat
  | [] => 0
  | x :: r => uptoBulkEntry x + uptoBulkEntries r
def uptoBulkEntry {H : Type} : Lit × DataW H → Nat
  | (.string bytes, d) => bytes.length + uptoBulk d + 1
  | (_, d) => uptoBulk d + 1
 end
def uptoSmall : (H : Type) → List (DataW H) → Bool := fun _ ds => decide (uptoBulkAll ds ≤ 1048576)
def OpenSpec.upto (s : _root_.Go.ChangeSpec) : _root_.Go.OpenSpec := { _root_.Go.OpenSpec.ofChange s with cond := some uptoSmall }

/-- 'laws.FnExactSendNew', WHERE WHAT IT READS IS OF BULK AT MOST 1048576: true; the input reads as it did. -/
def fnExactSendNewUptoRow : OpenClaim := { program := "ytkolihdbehjffaa", sum := "1255b7c03ebedb4e39cff19b43f0a3ecf84157cca0d7c9c67d3c11c2fd5583e5", func := "loop.example/multipathtransport/laws.FnExactSendNew", spec := "fnExactSendNew", apart := false, narrowed := true }
def FnExactSendNewUptoSaid : Prop := fnExactSendNewUptoRow.holds Try.pinned (OpenSpec.upto fnExactSendNewSpec)

/-- 'laws.FnSendFinish', WHERE WHAT IT READS IS OF BULK AT MOST 1048576: true; the input reads as it did. -/
def fnSendFinishUptoRow : OpenClaim := { program := "ytkolihdbehjffaa", sum := "1255b7c03ebedb4e39cff19b43f0a3ecf84157cca0d7c9c67d3c11c2fd5583e5", func := "loop.example/multipathtransport/laws.FnSendFinish", spec := "fnSendFinish", unfollowed := true, recurses := true, apart := false, narrowed := true }
def FnSendFinishUptoSaid : Prop := fnSendFinishUptoRow.holds Try.pinned (OpenSpec.upto fnSendFinishSpec)

/-- 'laws.FnExactSendValid', WHERE WHAT IT READS IS OF BULK AT MOST 1048576: true; the input reads as it did. -/
def fnExactSendValidUptoRow : OpenClaim := { program := "ytkolihdbehjffaa", sum := "1255b7c03ebedb4e39cff19b43f0a3ecf84157cca0d7c9c67d3c11c2fd5583e5", func := "loop.example/multipathtransport/laws.FnExactSendValid", spec := "fnExactSendValid", unfollowed := true, recurses := true, apart := false, narrowed := true }
def FnExactSendValidUptoSaid : Prop := fnExactSendValidUptoRow.holds Try.pinned (OpenSpec.upto fnExactSendValidSpec)

/-- 'laws.FnExactSendDone', WHERE WHAT IT READS IS OF BULK AT MOST 1048576: true; the input reads as it did. -/
def fnExactSendDoneUptoRow : OpenClaim := { program := "ytkolihdbehjffaa", sum := "1255b7c03ebedb4e39cff19b43f0a3ecf84157cca0d7c9c67d3c11c2fd5583e5", func := "loop.example/multipathtransport/laws.FnExactSendDone", spec := "fnExactSendDone", unfollowed := true, recurses := true, apart := false, narrowed := true }
def FnExactSendDoneUptoSaid : Prop := fnExactSendDoneUptoRow.holds Try.pinned (OpenSpec.upto fnExactSendDoneSpec)

/-- 'laws.FnExactPartSent', WHERE WHAT IT READS IS OF BULK AT MOST 1048576: true; the input reads as it did. -/
def fnExactPartSentUptoRow : OpenClaim := { program := "ytkolihdbehjffaa", sum := "1255b7c03ebedb4e39cff19b43f0a3ecf84157cca0d7c9c67d3c11c2fd5583e5", func := "loop.example/multipathtransport/laws.FnExactPartSent", spec := "fnExactPartSent", unfollowed := true, recurses := true, apart := false, narrowed := true }
def FnExactPartSentUptoSaid : Prop := fnExactPartSentUptoRow.holds Try.pinned (OpenSpec.upto fnExactPartSentSpec)

/-- 'laws.FnExactSendFinish', WHERE WHAT IT READS IS OF BULK AT MOST 1048576: true; the input reads as it did. -/
def fnExactSendFinishUptoRow : OpenClaim := { program := "ytkolihdbehjffaa", sum := "1255b7c03ebedb4e39cff19b43f0a3ecf84157cca0d7c9c67d3c11c2fd5583e5", func := "loop.example/multipathtransport/laws.FnExactSendFinish", spec := "fnExactSendFinish", unfollowed := true, recurses := true, apart := false, narrowed := true }
def FnExactSendFinishUptoSaid : Prop := fnExactSendFinishUptoRow.holds Try.pinned (OpenSpec.upto fnExactSendFinishSpec)

/-- 'laws.FnExactSendGrant', WHERE WHAT IT READS IS OF BULK AT MOST 1048576: true; the input reads as it did. -/
def fnExactSendGrantUptoRow : OpenClaim := { program := "ytkolihdbehjffaa", sum := "1255b7c03ebedb4e39cff19b43f0a3ecf84157cca0d7c9c67d3c11c2fd5583e5", func := "loop.example/multipathtransport/laws.FnExactSendGrant", spec := "fnExactSendGrant", unfollowed := true, recurses := true, apart := false, narrowed := true }
def FnExactSendGrantUptoSaid : Prop := fnExactSendGrantUptoRow.holds Try.pinned (OpenSpec.upto fnExactSendGrantSpec)

/-- 'laws.FnExactSendWrite', WHERE WHAT IT READS IS OF BULK AT MOST 1048576: true; the input reads as it did. -/
def fnExactSendWriteUptoRow : OpenClaim := { program := "ytkolihdbehjffaa", sum := "1255b7c03ebedb4e39cff19b43f0a3ecf84157cca0d7c9c67d3c11c2fd5583e5", func := "loop.example/multipathtransport/laws.FnExactSendWrite", spec := "fnExactSendWrite", unfollowed := true, recurses := true, apart := false, narrowed := true }
def FnExactSendWriteUptoSaid : Prop := fnExactSendWriteUptoRow.holds Try.pinned (OpenSpec.upto fnExactSendWriteSpec)

end Rows
end Go.Proofs.Ytkolihdbehjffaa
