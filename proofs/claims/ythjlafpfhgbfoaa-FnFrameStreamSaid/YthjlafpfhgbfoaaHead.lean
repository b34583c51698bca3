/- The closed facts on the program's head, by way of its words. No condition. -/
import Derived.Test.YthjlafpfhgbfoaaRows
import Derived.ProofKit
namespace Go.Proofs.Ythjlafpfhgbfoaa
open Go Go.ChangeShapes Go.WideShapes Go.ChangeAt Go.RowKit

def cutSigns : List Char := [99, 117, 116].map Char.ofNat
theorem make_of {P : Program} {R : List (List Char)} (h : behindMainWord (wordsSigns P.initOrder.toList) = cutSigns :: R) : P.make = some Make.cut := by
  unfold Program.make
  rw [h]
  rfl
theorem lifts_of {P : Program} {R : List (List Char)} (h : behindMainWord (wordsSigns P.initOrder.toList) = cutSigns :: R) : P.liftsFinal = false := by
  unfold Program.liftsFinal Program.headLifts
  rw [h]
  rfl
theorem may_of {P : Program} {R : List (List Char)} (h : behindMainWord (wordsSigns P.initOrder.toList) = cutSigns :: R) (h1 : P.laysLater = false) (h2 : P.bearsReflect = false) (h3 : P.doorFits [] = true) : P.mayEnter = true := by
  unfold Program.mayEnter
  rw [h]
  have e : stripLifts liftWords (cutSigns :: R) = ([], cutSigns :: R) := rfl
  simp only [e, h1, h2, h3]
  rfl
def headSigns : List Nat := [104, 97, 114, 110, 101, 115, 115, 32, 98, 99, 52, 97, 52, 102, 55, 53, 101, 48, 49, 53, 98, 99, 100, 49, 55, 56, 99, 97, 54, 49, 98, 56, 49, 99, 56, 55, 51, 100, 99, 100,
  101, 97, 99, 101, 98, 102, 53, 54, 98, 102, 51, 101, 52, 57, 51, 99, 57, 100, 97, 99, 49, 51, 54, 57, 55, 57, 48, 98, 53, 102, 48, 102, 32, 99, 117, 116, 32, 97, 116, 32,
  108, 111, 111, 112, 46, 101, 120, 97, 109, 112, 108, 101, 47, 109, 117, 108, 116, 105, 112, 97, 116, 104, 116, 114, 97, 110, 115, 112, 111, 114, 116, 47, 108, 97, 119, 115, 46, 70, 110, 70,
  114, 97, 109, 101, 83, 116, 114, 101, 97, 109]
theorem headS : Try.prog.initOrder = String.ofList (headSigns.map Char.ofNat) := by kernel_rfl
theorem headL : Try.prog.initOrder.toList = headSigns.map Char.ofNat := by rw [headS, String.toList_ofList]
def headRest : List (List Char) := (behindMainWord (wordsSigns (headSigns.map Char.ofNat))).tail
theorem cons_of_head {α : Type} {l : List α} {a : α} (h : l.head? = some a) : l = a :: l.tail := by cases l <;> simp_all
theorem headW : behindMainWord (wordsSigns Try.prog.initOrder.toList) = cutSigns :: headRest := by
  rw [headL]
  exact cons_of_head (by kernel_rfl)
theorem headMake : Try.prog.make = some Make.cut := make_of headW
theorem headLifts : Try.prog.liftsFinal = false := lifts_of headW
theorem headMay : Try.prog.mayEnter = true := may_of headW (by kernel_rfl) (by kernel_rfl) (by kernel_rfl)
end Go.Proofs.Ythjlafpfhgbfoaa
