/-
  No cell of these rows narrows 'for every input' (looked for: loops, veiled, ifaces, maps, wideKeys, modest, calm, conditions, laid).
  DERIVED. THE GIVEN ROWS OF THIS SEAT. 20 by the template 'for every input the law returns true; each argument reads behind the call as it read before'; 0 by the template 'total and deterministic' (their statements: YtdilnodgamlpdaaTotals.lean).
  GIVEN WITH THE SEED: the statements are not yours to turn. If you find one false, say at which input.
  Laid BY PROGRAM, IN A SANDBOX (cutbox-rows.mjs): the forced cells as the released guide's own fill.sh prints them over the translation 37477826b1e12831… (all of the seat's roots in one cut). By AI agents, Wed Nov 11 2026. No macro, syntax, notation, axiom, sorry.
-/
import Derived.Test.YtdilnodgamlpdaaChecked
import GoSem.Claim
import GoSem.ClaimJoined
import GoSem.ClaimMapViews
import Derived.JoinedTies
import Derived.KernelRfl
namespace Go.Proofs.Ytdilnodgamlpdaa
/- THE CELL 'sum', in the pinned program and in every row, IS THE sha256 OF THE DUMP (.gsa) THAT YtdilnodgamlpdaaProg.lean LOADS. Nothing in Lean hashes anything: it is a label: what it is worth is what the hold of that sum in a sandbox is worth. -/
noncomputable def Try.pinned : Pinned := { name := "ytdilnodgamlpdaa", sum := "37477826b1e12831730f6598472c32fe49f6210655c05d7c5983aa3a31f41909", checked := Try.checked }
namespace Rows
def none {H : Type} : Left H := { results := [], args := [] }

/-- 'laws.FnExactRecvNew': WHATEVER THE INPUT: true; the input reads as it did. -/
def fnExactRecvNewSpec : ChangeSpec := { name := "fnExactRecvNew", fn := fun _ => fun
  | [d] => { results := [.lit (.bool true)], args := [d] }
  | _ => none }
def fnExactRecvNewRow : OpenClaim := { program := "ytdilnodgamlpdaa", sum := "37477826b1e12831730f6598472c32fe49f6210655c05d7c5983aa3a31f41909", func := "loop.example/multipathtransport/laws.FnExactRecvNew", spec := "fnExactRecvNew", apart := false }
def FnExactRecvNewSaid : Prop := fnExactRecvNewRow.holds Try.pinned (OpenSpec.ofChange fnExactRecvNewSpec)

/-- ITS FALSE NEIGHBOUR: 'it returns false'. Refute it at one input. -/
def fnExactRecvNewWrong : ChangeSpec := { name := "fnExactRecvNew", fn := fun _ => fun
  | [d] => { results := [.lit (.bool false)], args := [d] }
  | _ => none }
def FnExactRecvNewWrongFalsely : Prop := fnExactRecvNewRow.holds Try.pinned (OpenSpec.ofChange fnExactRecvNewWrong)

/-- 'laws.FnExactRecvValid': WHATEVER THE INPUT: true; the input reads as it did. -/
def fnExactRecvValidSpec : ChangeSpec := { name := "fnExactRecvValid", fn := fun _ => fun
  | [d] => { results := [.lit (.bool true)], args := [d] }
  | _ => none }
def fnExactRecvValidRow : OpenClaim := { program := "ytdilnodgamlpdaa", sum := "37477826b1e12831730f6598472c32fe49f6210655c05d7c5983aa3a31f41909", func := "loop.example/multipathtransport/laws.FnExactRecvValid", spec := "fnExactRecvValid", apart := false }
def FnExactRecvValidSaid : Prop := fnExactRecvValidRow.holds Try.pinned (OpenSpec.ofChange fnExactRecvValidSpec)

/-- ITS FALSE NEIGHBOUR: 'it returns false'. Refute it at one input. -/
def fnExactRecvValidWrong : ChangeSpec := { name := "fnExactRecvValid", fn := fun _ => fun
  | [d] => { results := [.lit (.bool false)], args := [d] }
  | _ => none }
def FnExactRecvValidWrongFalsely : Prop := fnExactRecvValidRow.holds Try.pinned (OpenSpec.ofChange fnExactRecvValidWrong)

/-- 'laws.FnExactRecvEnded': WHATEVER THE INPUT: true; the input reads as it did. -/
def fnExactRecvEndedSpec : ChangeSpec := { name := "fnExactRecvEnded", fn := fun _ => fun
  | [d] => { results := [.lit (.bool true)], args := [d] }
  | _ => none }
def fnExactRecvEndedRow : OpenClaim := { program := "ytdilnodgamlpdaa", sum := "37477826b1e12831730f6598472c32fe49f6210655c05d7c5983aa3a31f41909", func := "loop.example/multipathtransport/laws.FnExactRecvEnded", spec := "fnExactRecvEnded", apart := false }
def FnExactRecvEndedSaid : Prop := fnExactRecvEndedRow.holds Try.pinned (OpenSpec.ofChange fnExactRecvEndedSpec)

/-- ITS FALSE NEIGHBOUR: 'it returns false'. Refute it at one input. -/
def fnExactRecvEndedWrong : ChangeSpec := { name := "fnExactRecvEnded", fn := fun _ => fun
  | [d] => { results := [.lit (.bool false)], args := [d] }
  | _ => none }
def FnExactRecvEndedWrongFalsely : Prop := fnExactRecvEndedRow.holds Try.pinned (OpenSpec.ofChange fnExactRecvEndedWrong)

/-- 'laws.FnExactRecvReady': WHATEVER THE INPUT: true; the input reads as it did. -/
def fnExactRecvReadySpec : ChangeSpec := { name := "fnExactRecvReady", fn := fun _ => fun
  | [d] => { results := [.lit (.bool true)], args := [d] }
  | _ => none }
def fnExactRecvReadyRow : OpenClaim := { program := "ytdilnodgamlpdaa", sum := "37477826b1e12831730f6598472c32fe49f6210655c05d7c5983aa3a31f41909", func := "loop.example/multipathtransport/laws.FnExactRecvReady", spec := "fnExactRecvReady", apart := false }
def FnExactRecvReadySaid : Prop := fnExactRecvReadyRow.holds Try.pinned (OpenSpec.ofChange fnExactRecvReadySpec)

/-- ITS FALSE NEIGHBOUR: 'it returns false'. Refute it at one input. -/
def fnExactRecvReadyWrong : ChangeSpec := { name := "fnExactRecvReady", fn := fun _ => fun
  | [d] => { results := [.lit (.bool false)], args := [d] }
  | _ => none }
def FnExactRecvReadyWrongFalsely : Prop := fnExactRecvReadyRow.holds Try.pinned (OpenSpec.ofChange fnExactRecvReadyWrong)

/-- 'laws.FnExactRecvGrant': WHATEVER THE INPUT: true; the input reads as it did. -/
def fnExactRecvGrantSpec : ChangeSpec := { name := "fnExactRecvGrant", fn := fun _ => fun
  | [d1, d2] => { results := [.lit (.bool true)], args := [d1, d2] }
  | _ => none }
def fnExactRecvGrantRow : OpenClaim := { program := "ytdilnodgamlpdaa", sum := "37477826b1e12831730f6598472c32fe49f6210655c05d7c5983aa3a31f41909", func := "loop.example/multipathtransport/laws.FnExactRecvGrant", spec := "fnExactRecvGrant", apart := false }
def FnExactRecvGrantSaid : Prop := fnExactRecvGrantRow.holds Try.pinned (OpenSpec.ofChange fnExactRecvGrantSpec)

/-- ITS FALSE NEIGHBOUR: 'it returns false'. Refute it at one input. -/
def fnExactRecvGrantWrong : ChangeSpec := { name := "fnExactRecvGrant", fn := fun _ => fun
  | [d1, d2] => { results := [.lit (.bool false)], args := [d1, d2] }
  | _ => none }
def FnExactRecvGrantWrongFalsely : Prop := fnExactRecvGrantRow.holds Try.pinned (OpenSpec.ofChange fnExactRecvGrantWrong)

/-- 'laws.FnRecvEnded': WHATEVER THE INPUT: true; the input reads as it did. -/
def fnRecvEndedSpec : ChangeSpec := { name := "fnRecvEnded", fn := fun _ => fun
  | [d] => { results := [.lit (.bool true)], args := [d] }
  | _ => none }
def fnRecvEndedRow : OpenClaim := { program := "ytdilnodgamlpdaa", sum := "37477826b1e12831730f6598472c32fe49f6210655c05d7c5983aa3a31f41909", func := "loop.example/multipathtransport/laws.FnRecvEnded", spec := "fnRecvEnded", apart := false }
def FnRecvEndedSaid : Prop := fnRecvEndedRow.holds Try.pinned (OpenSpec.ofChange fnRecvEndedSpec)

/-- ITS FALSE NEIGHBOUR: 'it returns false'. Refute it at one input. -/
def fnRecvEndedWrong : ChangeSpec := { name := "fnRecvEnded", fn := fun _ => fun
  | [d] => { results := [.lit (.bool false)], args := [d] }
  | _ => none }
def FnRecvEndedWrongFalsely : Prop := fnRecvEndedRow.holds Try.pinned (OpenSpec.ofChange fnRecvEndedWrong)

/-- 'laws.FnRecvGrant': WHATEVER THE INPUT: true; the input reads as it did. -/
def fnRecvGrantSpec : ChangeSpec := { name := "fnRecvGrant", fn := fun _ => fun
  | [d] => { results := [.lit (.bool true)], args := [d] }
  | _ => none }
def fnRecvGrantRow : OpenClaim := { program := "ytdilnodgamlpdaa", sum := "37477826b1e12831730f6598472c32fe49f6210655c05d7c5983aa3a31f41909", func := "loop.example/multipathtransport/laws.FnRecvGrant", spec := "fnRecvGrant", apart := false }
def FnRecvGrantSaid : Prop := fnRecvGrantRow.holds Try.pinned (OpenSpec.ofChange fnRecvGrantSpec)

/-- ITS FALSE NEIGHBOUR: 'it returns false'. Refute it at one input. -/
def fnRecvGrantWrong : ChangeSpec := { name := "fnRecvGrant", fn := fun _ => fun
  | [d] => { results := [.lit (.bool false)], args := [d] }
  | _ => none }
def FnRecvGrantWrongFalsely : Prop := fnRecvGrantRow.holds Try.pinned (OpenSpec.ofChange fnRecvGrantWrong)

/-- 'laws.FnRecvReadSplit': WHATEVER THE INPUT: true; the input reads as it did. -/
def fnRecvReadSplitSpec : ChangeSpec := { name := "fnRecvReadSplit", fn := fun _ => fun
  | [d1, d2] => { results := [.lit (.bool true)], args := [d1, d2] }
  | _ => none }
def fnRecvReadSplitRow : OpenClaim := { program := "ytdilnodgamlpdaa", sum := "37477826b1e12831730f6598472c32fe49f6210655c05d7c5983aa3a31f41909", func := "loop.example/multipathtransport/laws.FnRecvReadSplit", spec := "fnRecvReadSplit", apart := false }
def FnRecvReadSplitSaid : Prop := fnRecvReadSplitRow.holds Try.pinned (OpenSpec.ofChange fnRecvReadSplitSpec)

/-- ITS FALSE NEIGHBOUR: 'it returns false'. Refute it at one input. -/
def fnRecvReadSplitWrong : ChangeSpec := { name := "fnRecvReadSplit", fn := fun _ => fun
  | [d1, d2] => { results := [.lit (.bool false)], args := [d1, d2] }
  | _ => none }
def FnRecvReadSplitWrongFalsely : Prop := fnRecvReadSplitRow.holds Try.pinned (OpenSpec.ofChange fnRecvReadSplitWrong)

/-- 'laws.FnRecvReadLen': WHATEVER THE INPUT: true; the input reads as it did. -/
def fnRecvReadLenSpec : ChangeSpec := { name := "fnRecvReadLen", fn := fun _ => fun
  | [d] => { results := [.lit (.bool true)], args := [d] }
  | _ => none }
def fnRecvReadLenRow : OpenClaim := { program := "ytdilnodgamlpdaa", sum := "37477826b1e12831730f6598472c32fe49f6210655c05d7c5983aa3a31f41909", func := "loop.example/multipathtransport/laws.FnRecvReadLen", spec := "fnRecvReadLen", apart := false }
def FnRecvReadLenSaid : Prop := fnRecvReadLenRow.holds Try.pinned (OpenSpec.ofChange fnRecvReadLenSpec)

/-- ITS FALSE NEIGHBOUR: 'it returns false'. Refute it at one input. -/
def fnRecvReadLenWrong : ChangeSpec := { name := "fnRecvReadLen", fn := fun _ => fun
  | [d] => { results := [.lit (.bool false)], args := [d] }
  | _ => none }
def FnRecvReadLenWrongFalsely : Prop := fnRecvReadLenRow.holds Try.pinned (OpenSpec.ofChange fnRecvReadLenWrong)

/-- 'laws.FnExactRecvRead': WHATEVER THE INPUT: true; the input reads as it did. -/
def fnExactRecvReadSpec : ChangeSpec := { name := "fnExactRecvRead", fn := fun _ => fun
  | [d1, d2] => { results := [.lit (.bool true)], args := [d1, d2] }
  | _ => none }
def fnExactRecvReadRow : OpenClaim := { program := "ytdilnodgamlpdaa", sum := "37477826b1e12831730f6598472c32fe49f6210655c05d7c5983aa3a31f41909", func := "loop.example/multipathtransport/laws.FnExactRecvRead", spec := "fnExactRecvRead", apart := false }
def FnExactRecvReadSaid : Prop := fnExactRecvReadRow.holds Try.pinned (OpenSpec.ofChange fnExactRecvReadSpec)

/-- ITS FALSE NEIGHBOUR: 'it returns false'. Refute it at one input. -/
def fnExactRecvReadWrong : ChangeSpec := { name := "fnExactRecvRead", fn := fun _ => fun
  | [d1, d2] => { results := [.lit (.bool false)], args := [d1, d2] }
  | _ => none }
def FnExactRecvReadWrongFalsely : Prop := fnExactRecvReadRow.holds Try.pinned (OpenSpec.ofChange fnExactRecvReadWrong)

/-- 'laws.FnRecvConflict': WHATEVER THE INPUT: true; the input reads as it did. -/
def fnRecvConflictSpec : ChangeSpec := { name := "fnRecvConflict", fn := fun _ => fun
  | [d1, d2] => { results := [.lit (.bool true)], args := [d1, d2] }
  | _ => none }
def fnRecvConflictRow : OpenClaim := { program := "ytdilnodgamlpdaa", sum := "37477826b1e12831730f6598472c32fe49f6210655c05d7c5983aa3a31f41909", func := "loop.example/multipathtransport/laws.FnRecvConflict", spec := "fnRecvConflict", apart := false }
def FnRecvConflictSaid : Prop := fnRecvConflictRow.holds Try.pinned (OpenSpec.ofChange fnRecvConflictSpec)

/-- ITS FALSE NEIGHBOUR: 'it returns false'. Refute it at one input. -/
def fnRecvConflictWrong : ChangeSpec := { name := "fnRecvConflict", fn := fun _ => fun
  | [d1, d2] => { results := [.lit (.bool false)], args := [d1, d2] }
  | _ => none }
def FnRecvConflictWrongFalsely : Prop := fnRecvConflictRow.holds Try.pinned (OpenSpec.ofChange fnRecvConflictWrong)

/-- 'laws.FnRecvError': WHATEVER THE INPUT: true; the input reads as it did. -/
def fnRecvErrorSpec : ChangeSpec := { name := "fnRecvError", fn := fun _ => fun
  | [d] => { results := [.lit (.bool true)], args := [d] }
  | _ => none }
def fnRecvErrorRow : OpenClaim := { program := "ytdilnodgamlpdaa", sum := "37477826b1e12831730f6598472c32fe49f6210655c05d7c5983aa3a31f41909", func := "loop.example/multipathtransport/laws.FnRecvError", spec := "fnRecvError", apart := false }
def FnRecvErrorSaid : Prop := fnRecvErrorRow.holds Try.pinned (OpenSpec.ofChange fnRecvErrorSpec)

/-- ITS FALSE NEIGHBOUR: 'it returns false'. Refute it at one input. -/
def fnRecvErrorWrong : ChangeSpec := { name := "fnRecvError", fn := fun _ => fun
  | [d] => { results := [.lit (.bool false)], args := [d] }
  | _ => none }
def FnRecvErrorWrongFalsely : Prop := fnRecvErrorRow.holds Try.pinned (OpenSpec.ofChange fnRecvErrorWrong)

/-- 'laws.FnRecvFinal': WHATEVER THE INPUT: true; the input reads as it did. -/
def fnRecvFinalSpec : ChangeSpec := { name := "fnRecvFinal", fn := fun _ => fun
  | [d] => { results := [.lit (.bool true)], args := [d] }
  | _ => none }
def fnRecvFinalRow : OpenClaim := { program := "ytdilnodgamlpdaa", sum := "37477826b1e12831730f6598472c32fe49f6210655c05d7c5983aa3a31f41909", func := "loop.example/multipathtransport/laws.FnRecvFinal", spec := "fnRecvFinal", apart := false }
def FnRecvFinalSaid : Prop := fnRecvFinalRow.holds Try.pinned (OpenSpec.ofChange fnRecvFinalSpec)

/-- ITS FALSE NEIGHBOUR: 'it returns false'. Refute it at one input. -/
def fnRecvFinalWrong : ChangeSpec := { name := "fnRecvFinal", fn := fun _ => fun
  | [d] => { results := [.lit (.bool false)], args := [d] }
  | _ => none }
def FnRecvFinalWrongFalsely : Prop := fnRecvFinalRow.holds Try.pinned (OpenSpec.ofChange fnRecvFinalWrong)

/-- 'laws.FnRecvOrder': WHATEVER THE INPUT: true; the input reads as it did. -/
def fnRecvOrderSpec : ChangeSpec := { name := "fnRecvOrder", fn := fun _ => fun
  | [d1, d2] => { results := [.lit (.bool true)], args := [d1, d2] }
  | _ => none }
def fnRecvOrderRow : OpenClaim := { program := "ytdilnodgamlpdaa", sum := "37477826b1e12831730f6598472c32fe49f6210655c05d7c5983aa3a31f41909", func := "loop.example/multipathtransport/laws.FnRecvOrder", spec := "fnRecvOrder", apart := false }
def FnRecvOrderSaid : Prop := fnRecvOrderRow.holds Try.pinned (OpenSpec.ofChange fnRecvOrderSpec)

/-- ITS FALSE NEIGHBOUR: 'it returns false'. Refute it at one input. -/
def fnRecvOrderWrong : ChangeSpec := { name := "fnRecvOrder", fn := fun _ => fun
  | [d1, d2] => { results := [.lit (.bool false)], args := [d1, d2] }
  | _ => none }
def FnRecvOrderWrongFalsely : Prop := fnRecvOrderRow.holds Try.pinned (OpenSpec.ofChange fnRecvOrderWrong)

/-- 'laws.FnRecvOver': WHATEVER THE INPUT: true; the input reads as it did. -/
def fnRecvOverSpec : ChangeSpec := { name := "fnRecvOver", fn := fun _ => fun
  | [d] => { results := [.lit (.bool true)], args := [d] }
  | _ => none }
def fnRecvOverRow : OpenClaim := { program := "ytdilnodgamlpdaa", sum := "37477826b1e12831730f6598472c32fe49f6210655c05d7c5983aa3a31f41909", func := "loop.example/multipathtransport/laws.FnRecvOver", spec := "fnRecvOver", apart := false }
def FnRecvOverSaid : Prop := fnRecvOverRow.holds Try.pinned (OpenSpec.ofChange fnRecvOverSpec)

/-- ITS FALSE NEIGHBOUR: 'it returns false'. Refute it at one input. -/
def fnRecvOverWrong : ChangeSpec := { name := "fnRecvOver", fn := fun _ => fun
  | [d] => { results := [.lit (.bool false)], args := [d] }
  | _ => none }
def FnRecvOverWrongFalsely : Prop := fnRecvOverRow.holds Try.pinned (OpenSpec.ofChange fnRecvOverWrong)

/-- 'laws.FnRecvPutTwice': WHATEVER THE INPUT: true; the input reads as it did. -/
def fnRecvPutTwiceSpec : ChangeSpec := { name := "fnRecvPutTwice", fn := fun _ => fun
  | [d] => { results := [.lit (.bool true)], args := [d] }
  | _ => none }
def fnRecvPutTwiceRow : OpenClaim := { program := "ytdilnodgamlpdaa", sum := "37477826b1e12831730f6598472c32fe49f6210655c05d7c5983aa3a31f41909", func := "loop.example/multipathtransport/laws.FnRecvPutTwice", spec := "fnRecvPutTwice", apart := false }
def FnRecvPutTwiceSaid : Prop := fnRecvPutTwiceRow.holds Try.pinned (OpenSpec.ofChange fnRecvPutTwiceSpec)

/-- ITS FALSE NEIGHBOUR: 'it returns false'. Refute it at one input. -/
def fnRecvPutTwiceWrong : ChangeSpec := { name := "fnRecvPutTwice", fn := fun _ => fun
  | [d] => { results := [.lit (.bool false)], args := [d] }
  | _ => none }
def FnRecvPutTwiceWrongFalsely : Prop := fnRecvPutTwiceRow.holds Try.pinned (OpenSpec.ofChange fnRecvPutTwiceWrong)

/-- 'laws.FnRecvBytes': WHATEVER THE INPUT: true; the input reads as it did. -/
def fnRecvBytesSpec : ChangeSpec := { name := "fnRecvBytes", fn := fun _ => fun
  | [d] => { results := [.lit (.bool true)], args := [d] }
  | _ => none }
def fnRecvBytesRow : OpenClaim := { program := "ytdilnodgamlpdaa", sum := "37477826b1e12831730f6598472c32fe49f6210655c05d7c5983aa3a31f41909", func := "loop.example/multipathtransport/laws.FnRecvBytes", spec := "fnRecvBytes", apart := false }
def FnRecvBytesSaid : Prop := fnRecvBytesRow.holds Try.pinned (OpenSpec.ofChange fnRecvBytesSpec)

/-- ITS FALSE NEIGHBOUR: 'it returns false'. Refute it at one input. -/
def fnRecvBytesWrong : ChangeSpec := { name := "fnRecvBytes", fn := fun _ => fun
  | [d] => { results := [.lit (.bool false)], args := [d] }
  | _ => none }
def FnRecvBytesWrongFalsely : Prop := fnRecvBytesRow.holds Try.pinned (OpenSpec.ofChange fnRecvBytesWrong)

/-- 'laws.FnRecvGrantPut': WHATEVER THE INPUT: true; the input reads as it did. -/
def fnRecvGrantPutSpec : ChangeSpec := { name := "fnRecvGrantPut", fn := fun _ => fun
  | [d] => { results := [.lit (.bool true)], args := [d] }
  | _ => none }
def fnRecvGrantPutRow : OpenClaim := { program := "ytdilnodgamlpdaa", sum := "37477826b1e12831730f6598472c32fe49f6210655c05d7c5983aa3a31f41909", func := "loop.example/multipathtransport/laws.FnRecvGrantPut", spec := "fnRecvGrantPut", apart := false }
def FnRecvGrantPutSaid : Prop := fnRecvGrantPutRow.holds Try.pinned (OpenSpec.ofChange fnRecvGrantPutSpec)

/-- ITS FALSE NEIGHBOUR: 'it returns false'. Refute it at one input. -/
def fnRecvGrantPutWrong : ChangeSpec := { name := "fnRecvGrantPut", fn := fun _ => fun
  | [d] => { results := [.lit (.bool false)], args := [d] }
  | _ => none }
def FnRecvGrantPutWrongFalsely : Prop := fnRecvGrantPutRow.holds Try.pinned (OpenSpec.ofChange fnRecvGrantPutWrong)

/-- 'laws.FnRecvReadyPut': WHATEVER THE INPUT: true; the input reads as it did. -/
def fnRecvReadyPutSpec : ChangeSpec := { name := "fnRecvReadyPut", fn := fun _ => fun
  | [d] => { results := [.lit (.bool true)], args := [d] }
  | _ => none }
def fnRecvReadyPutRow : OpenClaim := { program := "ytdilnodgamlpdaa", sum := "37477826b1e12831730f6598472c32fe49f6210655c05d7c5983aa3a31f41909", func := "loop.example/multipathtransport/laws.FnRecvReadyPut", spec := "fnRecvReadyPut", apart := false }
def FnRecvReadyPutSaid : Prop := fnRecvReadyPutRow.holds Try.pinned (OpenSpec.ofChange fnRecvReadyPutSpec)

/-- ITS FALSE NEIGHBOUR: 'it returns false'. Refute it at one input. -/
def fnRecvReadyPutWrong : ChangeSpec := { name := "fnRecvReadyPut", fn := fun _ => fun
  | [d] => { results := [.lit (.bool false)], args := [d] }
  | _ => none }
def FnRecvReadyPutWrongFalsely : Prop := fnRecvReadyPutRow.holds Try.pinned (OpenSpec.ofChange fnRecvReadyPutWrong)

/-- 'laws.FnExactRecvPut': WHATEVER THE INPUT: true; the input reads as it did. -/
def fnExactRecvPutSpec : ChangeSpec := { name := "fnExactRecvPut", fn := fun _ => fun
  | [d1, d2, d3, d4] => { results := [.lit (.bool true)], args := [d1, d2, d3, d4] }
  | _ => none }
def fnExactRecvPutRow : OpenClaim := { program := "ytdilnodgamlpdaa", sum := "37477826b1e12831730f6598472c32fe49f6210655c05d7c5983aa3a31f41909", func := "loop.example/multipathtransport/laws.FnExactRecvPut", spec := "fnExactRecvPut", apart := false }
def FnExactRecvPutSaid : Prop := fnExactRecvPutRow.holds Try.pinned (OpenSpec.ofChange fnExactRecvPutSpec)

/-- ITS FALSE NEIGHBOUR: 'it returns false'. Refute it at one input. -/
def fnExactRecvPutWrong : ChangeSpec := { name := "fnExactRecvPut", fn := fun _ => fun
  | [d1, d2, d3, d4] => { results := [.lit (.bool false)], args := [d1, d2, d3, d4] }
  | _ => none }
def FnExactRecvPutWrongFalsely : Prop := fnExactRecvPutRow.holds Try.pinned (OpenSpec.ofChange fnExactRecvPutWrong)

/- THE SECOND FORM. 'bulk': how many values and letters a reading holds, each counted each time it is reached (what is shared counts as often as it is met; a slice's spare places count too). A statement '..UptoSaid' is the law's where the arguments, and the package variables that the reading takes, are together of bulk at most 1048576: NARROWER than '..Said'. Prove '..Said' where nothing that the law and all that it calls make is longer than what came in: it says more and counts as full. Else prove '..UptoSaid'. A law counts once. -/
mutual
def uptoBulk {H : Type} : DataW H → Nat
  | .lit (.string bytes) => bytes.length + 1
  | .lit _ => 1
  | .nil => 1
  | .ptr d => uptoBulk d + 1
  | .slice elems spare => uptoBulkAll elems + uptoBulkAll spare + 1
  | .agg parts => uptoBulkAll parts + 1
  | .iface _ d => uptoBulk d + 1
  | .map entries => uptoBulkEntries entries + 1
  | .held _ => 1
def uptoBulkAll {H : Type} : List (DataW H) → Nat
  | [] => 0
  | d :: r => uptoBulk d + uptoBulkAll r
def uptoBulkEntries {H : Type} : List (Lit × DataW H) → Nat
  | [] => 0
  | x :: r => uptoBulkEntry x + uptoBulkEntries r
def uptoBulkEntry {H : Type} : Lit × DataW H → Nat
  | (.string bytes, d) => bytes.length + uptoBulk d + 1
  | (_, d) => uptoBulk d + 1
 end
def uptoSmall : (H : Type) → List (DataW H) → Bool := fun _ ds => decide (uptoBulkAll ds ≤ 1048576)
def OpenSpec.upto (s : _root_.Go.ChangeSpec) : _root_.Go.OpenSpec := { _root_.Go.OpenSpec.ofChange s with cond := some uptoSmall }

/-- 'laws.FnExactRecvNew', WHERE WHAT IT READS IS OF BULK AT MOST 1048576: true; the input reads as it did. -/
def fnExactRecvNewUptoRow : OpenClaim := { program := "ytdilnodgamlpdaa", sum := "37477826b1e12831730f6598472c32fe49f6210655c05d7c5983aa3a31f41909", func := "loop.example/multipathtransport/laws.FnExactRecvNew", spec := "fnExactRecvNew", apart := false, narrowed := true }
def FnExactRecvNewUptoSaid : Prop := fnExactRecvNewUptoRow.holds Try.pinned (OpenSpec.upto fnExactRecvNewSpec)

/-- 'laws.FnExactRecvValid', WHERE WHAT IT READS IS OF BULK AT MOST 1048576: true; the input reads as it did. -/
def fnExactRecvValidUptoRow : OpenClaim := { program := "ytdilnodgamlpdaa", sum := "37477826b1e12831730f6598472c32fe49f6210655c05d7c5983aa3a31f41909", func := "loop.example/multipathtransport/laws.FnExactRecvValid", spec := "fnExactRecvValid", apart := false, narrowed := true }
def FnExactRecvValidUptoSaid : Prop := fnExactRecvValidUptoRow.holds Try.pinned (OpenSpec.upto fnExactRecvValidSpec)

/-- 'laws.FnExactRecvEnded', WHERE WHAT IT READS IS OF BULK AT MOST 1048576: true; the input reads as it did. -/
def fnExactRecvEndedUptoRow : OpenClaim := { program := "ytdilnodgamlpdaa", sum := "37477826b1e12831730f6598472c32fe49f6210655c05d7c5983aa3a31f41909", func := "loop.example/multipathtransport/laws.FnExactRecvEnded", spec := "fnExactRecvEnded", apart := false, narrowed := true }
def FnExactRecvEndedUptoSaid : Prop := fnExactRecvEndedUptoRow.holds Try.pinned (OpenSpec.upto fnExactRecvEndedSpec)

/-- 'laws.FnExactRecvReady', WHERE WHAT IT READS IS OF BULK AT MOST 1048576: true; the input reads as it did. -/
def fnExactRecvReadyUptoRow : OpenClaim := { program := "ytdilnodgamlpdaa", sum := "37477826b1e12831730f6598472c32fe49f6210655c05d7c5983aa3a31f41909", func := "loop.example/multipathtransport/laws.FnExactRecvReady", spec := "fnExactRecvReady", apart := false, narrowed := true }
def FnExactRecvReadyUptoSaid : Prop := fnExactRecvReadyUptoRow.holds Try.pinned (OpenSpec.upto fnExactRecvReadySpec)

/-- 'laws.FnExactRecvGrant', WHERE WHAT IT READS IS OF BULK AT MOST 1048576: true; the input reads as it did. -/
def fnExactRecvGrantUptoRow : OpenClaim := { program := "ytdilnodgamlpdaa", sum := "37477826b1e12831730f6598472c32fe49f6210655c05d7c5983aa3a31f41909", func := "loop.example/multipathtransport/laws.FnExactRecvGrant", spec := "fnExactRecvGrant", apart := false, narrowed := true }
def FnExactRecvGrantUptoSaid : Prop := fnExactRecvGrantUptoRow.holds Try.pinned (OpenSpec.upto fnExactRecvGrantSpec)

/-- 'laws.FnRecvEnded', WHERE WHAT IT READS IS OF BULK AT MOST 1048576: true; the input reads as it did. -/
def fnRecvEndedUptoRow : OpenClaim := { program := "ytdilnodgamlpdaa", sum := "37477826b1e12831730f6598472c32fe49f6210655c05d7c5983aa3a31f41909", func := "loop.example/multipathtransport/laws.FnRecvEnded", spec := "fnRecvEnded", apart := false, narrowed := true }
def FnRecvEndedUptoSaid : Prop := fnRecvEndedUptoRow.holds Try.pinned (OpenSpec.upto fnRecvEndedSpec)

/-- 'laws.FnRecvGrant', WHERE WHAT IT READS IS OF BULK AT MOST 1048576: true; the input reads as it did. -/
def fnRecvGrantUptoRow : OpenClaim := { program := "ytdilnodgamlpdaa", sum := "37477826b1e12831730f6598472c32fe49f6210655c05d7c5983aa3a31f41909", func := "loop.example/multipathtransport/laws.FnRecvGrant", spec := "fnRecvGrant", apart := false, narrowed := true }
def FnRecvGrantUptoSaid : Prop := fnRecvGrantUptoRow.holds Try.pinned (OpenSpec.upto fnRecvGrantSpec)

/-- 'laws.FnRecvReadSplit', WHERE WHAT IT READS IS OF BULK AT MOST 1048576: true; the input reads as it did. -/
def fnRecvReadSplitUptoRow : OpenClaim := { program := "ytdilnodgamlpdaa", sum := "37477826b1e12831730f6598472c32fe49f6210655c05d7c5983aa3a31f41909", func := "loop.example/multipathtransport/laws.FnRecvReadSplit", spec := "fnRecvReadSplit", apart := false, narrowed := true }
def FnRecvReadSplitUptoSaid : Prop := fnRecvReadSplitUptoRow.holds Try.pinned (OpenSpec.upto fnRecvReadSplitSpec)

/-- 'laws.FnRecvReadLen', WHERE WHAT IT READS IS OF BULK AT MOST 1048576: true; the input reads as it did. -/
def fnRecvReadLenUptoRow : OpenClaim := { program := "ytdilnodgamlpdaa", sum := "37477826b1e12831730f6598472c32fe49f6210655c05d7c5983aa3a31f41909", func := "loop.example/multipathtransport/laws.FnRecvReadLen", spec := "fnRecvReadLen", apart := false, narrowed := true }
def FnRecvReadLenUptoSaid : Prop := fnRecvReadLenUptoRow.holds Try.pinned (OpenSpec.upto fnRecvReadLenSpec)

/-- 'laws.FnExactRecvRead', WHERE WHAT IT READS IS OF BULK AT MOST 1048576: true; the input reads as it did. -/
def fnExactRecvReadUptoRow : OpenClaim := { program := "ytdilnodgamlpdaa", sum := "37477826b1e12831730f6598472c32fe49f6210655c05d7c5983aa3a31f41909", func := "loop.example/multipathtransport/laws.FnExactRecvRead", spec := "fnExactRecvRead", apart := false, narrowed := true }
def FnExactRecvReadUptoSaid : Prop := fnExactRecvReadUptoRow.holds Try.pinned (OpenSpec.upto fnExactRecvReadSpec)

/-- 'laws.FnRecvConflict', WHERE WHAT IT READS IS OF BULK AT MOST 1048576: true; the input reads as it did. -/
def fnRecvConflictUptoRow : OpenClaim := { program := "ytdilnodgamlpdaa", sum := "37477826b1e12831730f6598472c32fe49f6210655c05d7c5983aa3a31f41909", func := "loop.example/multipathtransport/laws.FnRecvConflict", spec := "fnRecvConflict", apart := false, narrowed := true }
def FnRecvConflictUptoSaid : Prop := fnRecvConflictUptoRow.holds Try.pinned (OpenSpec.upto fnRecvConflictSpec)

/-- 'laws.FnRecvError', WHERE WHAT IT READS IS OF BULK AT MOST 1048576: true; the input reads as it did. -/
def fnRecvErrorUptoRow : OpenClaim := { program := "ytdilnodgamlpdaa", sum := "37477826b1e12831730f6598472c32fe49f6210655c05d7c5983aa3a31f41909", func := "loop.example/multipathtransport/laws.FnRecvError", spec := "fnRecvError", apart := false, narrowed := true }
def FnRecvErrorUptoSaid : Prop := fnRecvErrorUptoRow.holds Try.pinned (OpenSpec.upto fnRecvErrorSpec)

/-- 'laws.FnRecvFinal', WHERE WHAT IT READS IS OF BULK AT MOST 1048576: true; the input reads as it did. -/
def fnRecvFinalUptoRow : OpenClaim := { program := "ytdilnodgamlpdaa", sum := "37477826b1e12831730f6598472c32fe49f6210655c05d7c5983aa3a31f41909", func := "loop.example/multipathtransport/laws.FnRecvFinal", spec := "fnRecvFinal", apart := false, narrowed := true }
def FnRecvFinalUptoSaid : Prop := fnRecvFinalUptoRow.holds Try.pinned (OpenSpec.upto fnRecvFinalSpec)

/-- 'laws.FnRecvOrder', WHERE WHAT IT READS IS OF BULK AT MOST 1048576: true; the input reads as it did. -/
def fnRecvOrderUptoRow : OpenClaim := { program := "ytdilnodgamlpdaa", sum := "37477826b1e12831730f6598472c32fe49f6210655c05d7c5983aa3a31f41909", func := "loop.example/multipathtransport/laws.FnRecvOrder", spec := "fnRecvOrder", apart := false, narrowed := true }
def FnRecvOrderUptoSaid : Prop := fnRecvOrderUptoRow.holds Try.pinned (OpenSpec.upto fnRecvOrderSpec)

/-- 'laws.FnRecvOver', WHERE WHAT IT READS IS OF BULK AT MOST 1048576: true; the input reads as it did. -/
def fnRecvOverUptoRow : OpenClaim := { program := "ytdilnodgamlpdaa", sum := "37477826b1e12831730f6598472c32fe49f6210655c05d7c5983aa3a31f41909", func := "loop.example/multipathtransport/laws.FnRecvOver", spec := "fnRecvOver", apart := false, narrowed := true }
def FnRecvOverUptoSaid : Prop := fnRecvOverUptoRow.holds Try.pinned (OpenSpec.upto fnRecvOverSpec)

/-- 'laws.FnRecvPutTwice', WHERE WHAT IT READS IS OF BULK AT MOST 1048576: true; the input reads as it did. -/
def fnRecvPutTwiceUptoRow : OpenClaim := { program := "ytdilnodgamlpdaa", sum := "37477826b1e12831730f6598472c32fe49f6210655c05d7c5983aa3a31f41909", func := "loop.example/multipathtransport/laws.FnRecvPutTwice", spec := "fnRecvPutTwice", apart := false, narrowed := true }
def FnRecvPutTwiceUptoSaid : Prop := fnRecvPutTwiceUptoRow.holds Try.pinned (OpenSpec.upto fnRecvPutTwiceSpec)

/-- 'laws.FnRecvBytes', WHERE WHAT IT READS IS OF BULK AT MOST 1048576: true; the input reads as it did. -/
def fnRecvBytesUptoRow : OpenClaim := { program := "ytdilnodgamlpdaa", sum := "37477826b1e12831730f6598472c32fe49f6210655c05d7c5983aa3a31f41909", func := "loop.example/multipathtransport/laws.FnRecvBytes", spec := "fnRecvBytes", apart := false, narrowed := true }
def FnRecvBytesUptoSaid : Prop := fnRecvBytesUptoRow.holds Try.pinned (OpenSpec.upto fnRecvBytesSpec)

/-- 'laws.FnRecvGrantPut', WHERE WHAT IT READS IS OF BULK AT MOST 1048576: true; the input reads as it did. -/
def fnRecvGrantPutUptoRow : OpenClaim := { program := "ytdilnodgamlpdaa", sum := "37477826b1e12831730f6598472c32fe49f6210655c05d7c5983aa3a31f41909", func := "loop.example/multipathtransport/laws.FnRecvGrantPut", spec := "fnRecvGrantPut", apart := false, narrowed := true }
def FnRecvGrantPutUptoSaid : Prop := fnRecvGrantPutUptoRow.holds Try.pinned (OpenSpec.upto fnRecvGrantPutSpec)

/-- 'laws.FnRecvReadyPut', WHERE WHAT IT READS IS OF BULK AT MOST 1048576: true; the input reads as it did. -/
def fnRecvReadyPutUptoRow : OpenClaim := { program := "ytdilnodgamlpdaa", sum := "37477826b1e12831730f6598472c32fe49f6210655c05d7c5983aa3a31f41909", func := "loop.example/multipathtransport/laws.FnRecvReadyPut", spec := "fnRecvReadyPut", apart := false, narrowed := true }
def FnRecvReadyPutUptoSaid : Prop := fnRecvReadyPutUptoRow.holds Try.pinned (OpenSpec.upto fnRecvReadyPutSpec)

/-- 'laws.FnExactRecvPut', WHERE WHAT IT READS IS OF BULK AT MOST 1048576: true; the input reads as it did. -/
def fnExactRecvPutUptoRow : OpenClaim := { program := "ytdilnodgamlpdaa", sum := "37477826b1e12831730f6598472c32fe49f6210655c05d7c5983aa3a31f41909", func := "loop.example/multipathtransport/laws.FnExactRecvPut", spec := "fnExactRecvPut", apart := false, narrowed := true }
def FnExactRecvPutUptoSaid : Prop := fnExactRecvPutUptoRow.holds Try.pinned (OpenSpec.upto fnExactRecvPutSpec)

end Rows
end Go.Proofs.Ytdilnodgamlpdaa
