/- The facts on the types and the calls of this program that the walks use, read off the loaded program. No condition. -/
import Derived.Test.YtiandcilkmdfnaaChecked
import Derived.Test.YtiandcilkmdfnaaMem
import Derived.KernelRfl
namespace Go.Proofs.Ytiandcilkmdfnaa
open Go Go.RowKit

theorem info_of {P : Program} {t : TypeId} {z : Option Value} {s b : Nat} (h : (P.info? t).map (fun i => (i.zero, i.size, i.bytes)) = some (z, s, b)) : ∃ i, P.info? t = some i ∧ i.zero = z ∧ i.size = s ∧ i.bytes = b := by
  cases hi : P.info? t with
  | none => rw [hi] at h; cases h
  | some i =>
    rw [hi] at h
    simp only [Option.map_some, Option.some.injEq, Prod.mk.injEq] at h
    exact ⟨i, rfl, h.1, h.2.1, h.2.2⟩

theorem info2 : (Try.prog.info? 2).map (fun i => (i.zero, i.size, i.bytes)) = some (some (.int .i64 0), 1, 8) := by kernel_rfl
theorem info3 : (Try.prog.info? 3).map (fun i => (i.zero, i.size, i.bytes)) = some (some (.int .i64 0), 1, 8) := by kernel_rfl
theorem info4 : (Try.prog.info? 4).map (fun i => (i.zero, i.size, i.bytes)) = some (some (.bool false), 1, 1) := by kernel_rfl
theorem info5 : (Try.prog.info? 5).map (fun i => (i.zero, i.size, i.bytes)) = some (some (.int .u8 0), 1, 1) := by kernel_rfl
theorem info9 : (Try.prog.info? 9).map (fun i => (i.zero, i.size, i.bytes)) = some (some (.string .empty), 1, 16) := by kernel_rfl
theorem info22 : (Try.prog.info? 22).map (fun i => (i.zero, i.size, i.bytes)) = some (some (.slice none 0 0), 1, 24) := by kernel_rfl
theorem info25 : (Try.prog.info? 25).map (fun i => (i.zero, i.size, i.bytes)) = some (some (.slice none 0 0), 1, 24) := by kernel_rfl
theorem info32 : (Try.prog.info? 32).map (fun i => (i.zero, i.size, i.bytes)) = some (some (.slice none 0 0), 1, 24) := by kernel_rfl
theorem info36 : (Try.prog.info? 36).map (fun i => (i.zero, i.size, i.bytes)) = some (some (.agg #[.int .i64 0, .int .i64 0, .int .i64 0, .int .i64 0]), 4, 32) := by kernel_rfl
theorem info44 : (Try.prog.info? 44).map (fun i => (i.zero, i.size, i.bytes)) = some (some (.agg #[.int .i64 0, .int .i64 0, .int .i64 0, .int .i64 0]), 4, 32) := by kernel_rfl
theorem info47 : (Try.prog.info? 47).map (fun i => (i.zero, i.size, i.bytes)) = some (some (.pointer none), 1, 8) := by kernel_rfl
theorem info53 : (Try.prog.info? 53).map (fun i => (i.zero, i.size, i.bytes)) = some (some (.pointer none), 1, 8) := by kernel_rfl
theorem info55 : (Try.prog.info? 55).map (fun i => (i.zero, i.size, i.bytes)) = some (some (.agg #[.slice none 0 0, .int .i64 0]), 2, 32) := by kernel_rfl
theorem info57 : (Try.prog.info? 57).map (fun i => (i.zero, i.size, i.bytes)) = some (some (.slice none 0 0), 1, 24) := by kernel_rfl
theorem info69 : (Try.prog.info? 69).map (fun i => (i.zero, i.size, i.bytes)) = some (some (.pointer none), 1, 8) := by kernel_rfl
-- 2: int64
instance : TZero Try.prog 2 [.int .i64 0] := ⟨by obtain ⟨i, h1, h2, h3, h4⟩ := info_of info2; exact ⟨i, _, h1, h2, rfl, h3⟩⟩
instance : TOne Try.prog 2 := ⟨by obtain ⟨i, h1, h2, h3, h4⟩ := info_of info2; exact ⟨_, i, Try.underlying2, rfl, h1, h3⟩⟩
-- 3: int
instance : TZero Try.prog 3 [.int .i64 0] := ⟨by obtain ⟨i, h1, h2, h3, h4⟩ := info_of info3; exact ⟨i, _, h1, h2, rfl, h3⟩⟩
instance : TOne Try.prog 3 := ⟨by obtain ⟨i, h1, h2, h3, h4⟩ := info_of info3; exact ⟨_, i, Try.underlying3, rfl, h1, h3⟩⟩
-- 4: bool
instance : TZero Try.prog 4 [.bool false] := ⟨by obtain ⟨i, h1, h2, h3, h4⟩ := info_of info4; exact ⟨i, _, h1, h2, rfl, h3⟩⟩
instance : TOne Try.prog 4 := ⟨by obtain ⟨i, h1, h2, h3, h4⟩ := info_of info4; exact ⟨_, i, Try.underlying4, rfl, h1, h3⟩⟩
-- 5: uint8
instance : TZero Try.prog 5 [.int .u8 0] := ⟨by obtain ⟨i, h1, h2, h3, h4⟩ := info_of info5; exact ⟨i, _, h1, h2, rfl, h3⟩⟩
instance : TOne Try.prog 5 := ⟨by obtain ⟨i, h1, h2, h3, h4⟩ := info_of info5; exact ⟨_, i, Try.underlying5, rfl, h1, h3⟩⟩
-- 9: string
instance : TZero Try.prog 9 [.string .empty] := ⟨by obtain ⟨i, h1, h2, h3, h4⟩ := info_of info9; exact ⟨i, _, h1, h2, rfl, h3⟩⟩
instance : TOne Try.prog 9 := ⟨by obtain ⟨i, h1, h2, h3, h4⟩ := info_of info9; exact ⟨_, i, Try.underlying9, rfl, h1, h3⟩⟩
-- 22: []laws.Window
instance : TZero Try.prog 22 [.slice none 0 0] := ⟨by obtain ⟨i, h1, h2, h3, h4⟩ := info_of info22; exact ⟨i, _, h1, h2, rfl, h3⟩⟩
instance : TOne Try.prog 22 := ⟨by obtain ⟨i, h1, h2, h3, h4⟩ := info_of info22; exact ⟨_, i, Try.underlying22, rfl, h1, h3⟩⟩
instance : TSlice Try.prog 22 44 4 32 := ⟨by obtain ⟨i, h1, h2, h3, h4⟩ := info_of info44; exact ⟨i, _, Try.underlying22, h1, h3, h4, h2, rfl, by decide⟩⟩
-- 25: []impl.Window
instance : TZero Try.prog 25 [.slice none 0 0] := ⟨by obtain ⟨i, h1, h2, h3, h4⟩ := info_of info25; exact ⟨i, _, h1, h2, rfl, h3⟩⟩
instance : TOne Try.prog 25 := ⟨by obtain ⟨i, h1, h2, h3, h4⟩ := info_of info25; exact ⟨_, i, Try.underlying25, rfl, h1, h3⟩⟩
instance : TSlice Try.prog 25 36 4 32 := ⟨by obtain ⟨i, h1, h2, h3, h4⟩ := info_of info36; exact ⟨i, _, Try.underlying25, h1, h3, h4, h2, rfl, by decide⟩⟩
-- 32: []uint8
instance : TZero Try.prog 32 [.slice none 0 0] := ⟨by obtain ⟨i, h1, h2, h3, h4⟩ := info_of info32; exact ⟨i, _, h1, h2, rfl, h3⟩⟩
instance : TOne Try.prog 32 := ⟨by obtain ⟨i, h1, h2, h3, h4⟩ := info_of info32; exact ⟨_, i, Try.underlying32, rfl, h1, h3⟩⟩
instance : TSlice Try.prog 32 5 1 1 := ⟨by obtain ⟨i, h1, h2, h3, h4⟩ := info_of info5; exact ⟨i, _, Try.underlying32, h1, h3, h4, h2, rfl, by decide⟩⟩
-- 36: impl.Window
instance : TZero Try.prog 36 [.int .i64 0, .int .i64 0, .int .i64 0, .int .i64 0] := ⟨by obtain ⟨i, h1, h2, h3, h4⟩ := info_of info36; exact ⟨i, _, h1, h2, rfl, h3⟩⟩
instance : TAgg Try.prog 36 4 := ⟨by obtain ⟨i, h1, h2, h3, h4⟩ := info_of info36; exact ⟨_, i, Try.underlying36, rfl, h1, h3⟩⟩
instance : TField Try.prog 36 0 0 := ⟨by obtain ⟨i, h1, h2, h3, h4⟩ := info_of info3; exact ⟨_, _, i, Try.underlying36, rfl, rfl, h1, by rw [h3]; decide⟩⟩
instance : TField Try.prog 36 1 1 := ⟨by obtain ⟨i, h1, h2, h3, h4⟩ := info_of info3; exact ⟨_, _, i, Try.underlying36, rfl, rfl, h1, by rw [h3]; decide⟩⟩
instance : TField Try.prog 36 2 2 := ⟨by obtain ⟨i, h1, h2, h3, h4⟩ := info_of info3; exact ⟨_, _, i, Try.underlying36, rfl, rfl, h1, by rw [h3]; decide⟩⟩
instance : TField Try.prog 36 3 3 := ⟨by obtain ⟨i, h1, h2, h3, h4⟩ := info_of info3; exact ⟨_, _, i, Try.underlying36, rfl, rfl, h1, by rw [h3]; decide⟩⟩
-- 44: laws.Window
instance : TZero Try.prog 44 [.int .i64 0, .int .i64 0, .int .i64 0, .int .i64 0] := ⟨by obtain ⟨i, h1, h2, h3, h4⟩ := info_of info44; exact ⟨i, _, h1, h2, rfl, h3⟩⟩
instance : TAgg Try.prog 44 4 := ⟨by obtain ⟨i, h1, h2, h3, h4⟩ := info_of info44; exact ⟨_, i, Try.underlying44, rfl, h1, h3⟩⟩
instance : TField Try.prog 44 0 0 := ⟨by obtain ⟨i, h1, h2, h3, h4⟩ := info_of info3; exact ⟨_, _, i, Try.underlying44, rfl, rfl, h1, by rw [h3]; decide⟩⟩
instance : TField Try.prog 44 1 1 := ⟨by obtain ⟨i, h1, h2, h3, h4⟩ := info_of info3; exact ⟨_, _, i, Try.underlying44, rfl, rfl, h1, by rw [h3]; decide⟩⟩
instance : TField Try.prog 44 2 2 := ⟨by obtain ⟨i, h1, h2, h3, h4⟩ := info_of info3; exact ⟨_, _, i, Try.underlying44, rfl, rfl, h1, by rw [h3]; decide⟩⟩
instance : TField Try.prog 44 3 3 := ⟨by obtain ⟨i, h1, h2, h3, h4⟩ := info_of info3; exact ⟨_, _, i, Try.underlying44, rfl, rfl, h1, by rw [h3]; decide⟩⟩
-- 47: *spec.l6Rd
instance : TZero Try.prog 47 [.pointer none] := ⟨by obtain ⟨i, h1, h2, h3, h4⟩ := info_of info47; exact ⟨i, _, h1, h2, rfl, h3⟩⟩
instance : TOne Try.prog 47 := ⟨by obtain ⟨i, h1, h2, h3, h4⟩ := info_of info47; exact ⟨_, i, Try.underlying47, rfl, h1, h3⟩⟩
-- 53: *impl.Window
instance : TZero Try.prog 53 [.pointer none] := ⟨by obtain ⟨i, h1, h2, h3, h4⟩ := info_of info53; exact ⟨i, _, h1, h2, rfl, h3⟩⟩
instance : TOne Try.prog 53 := ⟨by obtain ⟨i, h1, h2, h3, h4⟩ := info_of info53; exact ⟨_, i, Try.underlying53, rfl, h1, h3⟩⟩
-- 55: spec.l6Rd
instance : TZero Try.prog 55 [.slice none 0 0, .int .i64 0] := ⟨by obtain ⟨i, h1, h2, h3, h4⟩ := info_of info55; exact ⟨i, _, h1, h2, rfl, h3⟩⟩
instance : TAgg Try.prog 55 2 := ⟨by obtain ⟨i, h1, h2, h3, h4⟩ := info_of info55; exact ⟨_, i, Try.underlying55, rfl, h1, h3⟩⟩
instance : TField Try.prog 55 0 0 := ⟨by obtain ⟨i, h1, h2, h3, h4⟩ := info_of info32; exact ⟨_, _, i, Try.underlying55, rfl, rfl, h1, by rw [h3]; decide⟩⟩
instance : TField Try.prog 55 1 1 := ⟨by obtain ⟨i, h1, h2, h3, h4⟩ := info_of info3; exact ⟨_, _, i, Try.underlying55, rfl, rfl, h1, by rw [h3]; decide⟩⟩
-- 57: []int
instance : TZero Try.prog 57 [.slice none 0 0] := ⟨by obtain ⟨i, h1, h2, h3, h4⟩ := info_of info57; exact ⟨i, _, h1, h2, rfl, h3⟩⟩
instance : TOne Try.prog 57 := ⟨by obtain ⟨i, h1, h2, h3, h4⟩ := info_of info57; exact ⟨_, i, Try.underlying57, rfl, h1, h3⟩⟩
instance : TSlice Try.prog 57 3 1 8 := ⟨by obtain ⟨i, h1, h2, h3, h4⟩ := info_of info3; exact ⟨i, _, Try.underlying57, h1, h3, h4, h2, rfl, by decide⟩⟩
-- 69: *uint8
instance : TZero Try.prog 69 [.pointer none] := ⟨by obtain ⟨i, h1, h2, h3, h4⟩ := info_of info69; exact ⟨i, _, h1, h2, rfl, h3⟩⟩
instance : TOne Try.prog 69 := ⟨by obtain ⟨i, h1, h2, h3, h4⟩ := info_of info69; exact ⟨_, i, Try.underlying69, rfl, h1, h3⟩⟩

theorem mix : Try.prog.follows .mixedOrders = true := by kernel_rfl
-- loop.example/multipathtransport/laws.FnExactWindowsValid
theorem call3 : CallOK Try.prog 3 := fun _ _ => by kernel_rfl
-- loop.example/multipathtransport/laws.FnExactWindowTotal
theorem call4 : CallOK Try.prog 4 := fun _ _ => by kernel_rfl
-- loop.example/multipathtransport/laws.FnExactWindowIncrease
theorem call5 : CallOK Try.prog 5 := fun _ _ => by kernel_rfl
-- loop.example/multipathtransport/laws.FnWindowCopies
theorem call6 : CallOK Try.prog 6 := fun _ _ => by kernel_rfl
-- loop.example/multipathtransport/laws.FnWindowFair
theorem call7 : CallOK Try.prog 7 := fun _ _ => by kernel_rfl
-- loop.example/multipathtransport/laws.FnWindowOrder
theorem call8 : CallOK Try.prog 8 := fun _ _ => by kernel_rfl
-- loop.example/multipathtransport/laws.FnWindowSingle
theorem call9 : CallOK Try.prog 9 := fun _ _ => by kernel_rfl
-- loop.example/multipathtransport/laws.FnWindowLoss
theorem call10 : CallOK Try.prog 10 := fun _ _ => by kernel_rfl
-- loop.example/multipathtransport/laws.FnWindowLosses
theorem call11 : CallOK Try.prog 11 := fun _ _ => by kernel_rfl
-- loop.example/multipathtransport/laws.FnExactWindowLoss
theorem call12 : CallOK Try.prog 12 := fun _ _ => by kernel_rfl
-- loop.example/multipathtransport/laws.FnWindowTotal
theorem call13 : CallOK Try.prog 13 := fun _ _ => by kernel_rfl
-- loop.example/multipathtransport/laws.FnWindowAckOne
theorem call14 : CallOK Try.prog 14 := fun _ _ => by kernel_rfl
-- loop.example/multipathtransport/laws.FnWindowCredit
theorem call15 : CallOK Try.prog 15 := fun _ _ => by kernel_rfl
-- loop.example/multipathtransport/laws.FnWindowSlowStart
theorem call16 : CallOK Try.prog 16 := fun _ _ => by kernel_rfl
-- loop.example/multipathtransport/laws.FnWindowValid
theorem call17 : CallOK Try.prog 17 := fun _ _ => by kernel_rfl
-- loop.example/multipathtransport/laws.FnExactWindowAck
theorem call18 : CallOK Try.prog 18 := fun _ _ => by kernel_rfl
-- loop.example/multipathtransport/laws.szWindowS
theorem call19 : CallOK Try.prog 19 := fun _ _ => by kernel_rfl
-- loop.example/multipathtransport/spec.WindowsValid
theorem call20 : CallOK Try.prog 20 := fun _ _ => by kernel_rfl
-- loop.example/multipathtransport/laws.toWindowS
theorem call21 : CallOK Try.prog 21 := fun _ _ => by kernel_rfl
-- loop.example/multipathtransport/impl.WindowsValid
theorem call22 : CallOK Try.prog 22 := fun _ _ => by kernel_rfl
-- loop.example/multipathtransport/laws.eqWindowS
theorem call23 : CallOK Try.prog 23 := fun _ _ => by kernel_rfl
-- loop.example/multipathtransport/spec.WindowTotal
theorem call24 : CallOK Try.prog 24 := fun _ _ => by kernel_rfl
-- loop.example/multipathtransport/impl.WindowTotal
theorem call25 : CallOK Try.prog 25 := fun _ _ => by kernel_rfl
-- loop.example/multipathtransport/spec.WindowIncrease
theorem call26 : CallOK Try.prog 26 := fun _ _ => by kernel_rfl
-- loop.example/multipathtransport/impl.WindowIncrease
theorem call27 : CallOK Try.prog 27 := fun _ _ => by kernel_rfl
-- loop.example/multipathtransport/spec.DrawWindowIncrease
theorem call28 : CallOK Try.prog 28 := fun _ _ => by kernel_rfl
-- loop.example/multipathtransport/spec.DrawWindowLoss
theorem call29 : CallOK Try.prog 29 := fun _ _ => by kernel_rfl
-- loop.example/multipathtransport/impl.WindowLoss
theorem call30 : CallOK Try.prog 30 := fun _ _ => by kernel_rfl
-- loop.example/multipathtransport/spec.WindowLoss
theorem call31 : CallOK Try.prog 31 := fun _ _ => by kernel_rfl
-- loop.example/multipathtransport/laws.sameWindows
theorem call32 : CallOK Try.prog 32 := fun _ _ => by kernel_rfl
-- loop.example/multipathtransport/laws.markWindowS
theorem call33 : CallOK Try.prog 33 := fun _ _ => by kernel_rfl
-- loop.example/multipathtransport/laws.heldWindowS
theorem call34 : CallOK Try.prog 34 := fun _ _ => by kernel_rfl
-- loop.example/multipathtransport/spec.DrawWindowTotal
theorem call35 : CallOK Try.prog 35 := fun _ _ => by kernel_rfl
-- loop.example/multipathtransport/impl.WindowAck
theorem call36 : CallOK Try.prog 36 := fun _ _ => by kernel_rfl
-- loop.example/multipathtransport/spec.DrawWindowAck
theorem call37 : CallOK Try.prog 37 := fun _ _ => by kernel_rfl
-- loop.example/multipathtransport/spec.WindowAck
theorem call38 : CallOK Try.prog 38 := fun _ _ => by kernel_rfl
-- loop.example/multipathtransport/spec.l6In
theorem call39 : CallOK Try.prog 39 := fun _ _ => by kernel_rfl
-- loop.example/multipathtransport/laws.toWindow
theorem call40 : CallOK Try.prog 40 := fun _ _ => by kernel_rfl
-- loop.example/multipathtransport/impl.within
theorem call41 : CallOK Try.prog 41 := fun _ _ => by kernel_rfl
-- loop.example/multipathtransport/laws.eqWindow
theorem call42 : CallOK Try.prog 42 := fun _ _ => by kernel_rfl
-- loop.example/multipathtransport/spec.l23Increase
theorem call43 : CallOK Try.prog 43 := fun _ _ => by kernel_rfl
-- loop.example/multipathtransport/impl.hasWindow
theorem call44 : CallOK Try.prog 44 := fun _ _ => by kernel_rfl
-- loop.example/multipathtransport/spec.l6Open
theorem call45 : CallOK Try.prog 45 := fun _ _ => by kernel_rfl
-- loop.example/multipathtransport/spec.l92Windows
theorem call46 : CallOK Try.prog 46 := fun _ _ => by kernel_rfl
-- loop.example/multipathtransport/spec.l92At
theorem call47 : CallOK Try.prog 47 := fun _ _ => by kernel_rfl
-- slices.Clone[[]loop.example/multipathtransport/impl.Window,loop.example/multipathtransport/impl.Window]
theorem call48 : CallOK Try.prog 48 := fun _ _ => by kernel_rfl
-- loop.example/multipathtransport/spec.l23Loss
theorem call49 : CallOK Try.prog 49 := fun _ _ => by kernel_rfl
-- loop.example/multipathtransport/spec.l23Ack
theorem call50 : CallOK Try.prog 50 := fun _ _ => by kernel_rfl
-- (*loop.example/multipathtransport/spec.l6Rd).pick
theorem call51 : CallOK Try.prog 51 := fun _ _ => by kernel_rfl

end Go.Proofs.Ytiandcilkmdfnaa
