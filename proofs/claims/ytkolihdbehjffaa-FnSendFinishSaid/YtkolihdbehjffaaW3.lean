/- Contracts of the laws' copies and sizes of sending sides and parts. No condition. -/
import Derived.Test.YtkolihdbehjffaaW6

namespace Go.Proofs.Ytkolihdbehjffaa
open Go Go.RowKit
set_option linter.unusedSimpArgs false
set_option linter.unusedVariables false
set_option maxRecDepth 20000


def SzR (n : Nat) : Value → Prop := fun v => ∃ m : Int, v = .int .i64 m ∧ (0 ≤ m → n ≤ 1048576 ∧ m ≤ 1048576)
def SzS (R : Snd) : Value → Prop := fun v => ∃ m : Int, v = .int .i64 m ∧ (0 ≤ m → R.ack.length ≤ 1048576 ∧ R.lost.length ≤ 1048576 ∧ m ≤ 1048576)
def wfS (R : Snd) : Prop := R.dat.length ≤ 9223372036854775807
structure Prt where
  off : Int
  dat : List UInt8
  fin : Bool
def Prt.cells (p : Prt) : List Value := [.int .i64 p.off, sv p.dat, .bool p.fin]
end Go.Proofs.Ytkolihdbehjffaa
