/- Contracts of written data, of the count of a set, of the end of sending, the program's and the reference's. No condition. -/
import Derived.Test.YtkolihdbehjffaaW6

namespace Go.Proofs.Ytkolihdbehjffaa
open Go Go.RowKit
set_option linter.unusedSimpArgs false
set_option linter.unusedVariables false
set_option maxRecDepth 20000

open Classical in
noncomputable def wrO (S : Snd) (d : List UInt8) : Snd := if ¬ validS S then Snd.nil else if S.fin = true ∨ (30 : Int) < S.dat.length + d.length then S else S.more d
open Classical in
noncomputable def wrB (S : Snd) (d : List UInt8) : Bool := if ¬ validS S then false else if S.fin = true ∨ (30 : Int) < S.dat.length + d.length then false else true
theorem NormG.take {last : Int} {rs : List Rng} (h : NormG last rs) (k : Nat) : NormG last (rs.take k) := by
  induction rs generalizing last k with
  | nil => simp; exact h
  | cons x l ih =>
    cases k with
    | zero => exact trivial
    | succ k => exact ⟨h.1, h.2.1, h.2.2.1, ih h.2.2.2 k⟩
end Go.Proofs.Ytkolihdbehjffaa
