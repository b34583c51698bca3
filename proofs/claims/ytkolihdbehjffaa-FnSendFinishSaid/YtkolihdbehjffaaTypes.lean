/- The facts on the types and the calls of this program that the walks use, read off the loaded program. No condition. -/
import Derived.Test.YtkolihdbehjffaaChecked
import Derived.Test.YtkolihdbehjffaaMem
import Derived.KernelRfl
import Derived.Test.YtkolihdbehjffaaStr
namespace Go.Proofs.Ytkolihdbehjffaa
open Go Go.RowKit

theorem info_of {P : Program} {t : TypeId} {z : Option Value} {s b : Nat} (h : (P.info? t).map (fun i => (i.zero, i.size, i.bytes)) = some (z, s, b)) : ∃ i, P.info? t = some i ∧ i.zero = z ∧ i.size = s ∧ i.bytes = b := by
  cases hi : P.info? t with
  | none => rw [hi] at h; cases h
  | some i =>
    rw [hi] at h
    simp only [Option.map_some, Option.some.injEq, Prod.mk.injEq] at h
    exact ⟨i, rfl, h.1, h.2.1, h.2.2⟩

theorem info2 : (Try.prog.info? 2).map (fun i => (i.zero, i.size, i.bytes)) = some (some (.int .i64 0), 1, 8) := by kernel_rfl
theorem info3 : (Try.prog.info? 3).map (fun i => (i.zero, i.size, i.bytes)) = some (some (.int .i64 0), 1, 8) := by kernel_rfl
theorem info4 : (Try.prog.info? 4).map (fun i => (i.zero, i.size, i.bytes)) = some (some (.bool false), 1, 1) := by kernel_rfl
theorem info5 : (Try.prog.info? 5).map (fun i => (i.zero, i.size, i.bytes)) = some (some (.int .u8 0), 1, 1) := by kernel_rfl
theorem info9 : (Try.prog.info? 9).map (fun i => (i.zero, i.size, i.bytes)) = some (some (.string .empty), 1, 16) := by kernel_rfl
theorem info22 : (Try.prog.info? 22).map (fun i => (i.zero, i.size, i.bytes)) = some (some (.slice none 0 0), 1, 24) := by kernel_rfl
theorem info24 : (Try.prog.info? 24).map (fun i => (i.zero, i.size, i.bytes)) = some (some (.agg #[.string .empty, .bool false, .int .i64 0, .int .i64 0, .slice none 0 0, .slice none 0 0]), 6, 88) := by kernel_rfl
theorem info30 : (Try.prog.info? 30).map (fun i => (i.zero, i.size, i.bytes)) = some (some (.slice none 0 0), 1, 24) := by kernel_rfl
theorem info35 : (Try.prog.info? 35).map (fun i => (i.zero, i.size, i.bytes)) = some (some (.slice none 0 0), 1, 24) := by kernel_rfl
theorem info37 : (Try.prog.info? 37).map (fun i => (i.zero, i.size, i.bytes)) = some (some (.agg #[.string .empty, .bool false, .int .i64 0, .int .i64 0, .slice none 0 0, .slice none 0 0]), 6, 88) := by kernel_rfl
theorem info42 : (Try.prog.info? 42).map (fun i => (i.zero, i.size, i.bytes)) = some (some (.agg #[.int .i64 0, .string .empty, .bool false]), 3, 32) := by kernel_rfl
theorem info45 : (Try.prog.info? 45).map (fun i => (i.zero, i.size, i.bytes)) = some (some (.agg #[.int .i64 0, .string .empty, .bool false]), 3, 32) := by kernel_rfl
theorem info57 : (Try.prog.info? 57).map (fun i => (i.zero, i.size, i.bytes)) = some (some (.slice none 0 0), 1, 24) := by kernel_rfl
theorem info60 : (Try.prog.info? 60).map (fun i => (i.zero, i.size, i.bytes)) = some (some (.agg #[.int .i64 0, .int .i64 0]), 2, 16) := by kernel_rfl
theorem info67 : (Try.prog.info? 67).map (fun i => (i.zero, i.size, i.bytes)) = some (some (.slice none 0 0), 1, 24) := by kernel_rfl
theorem info70 : (Try.prog.info? 70).map (fun i => (i.zero, i.size, i.bytes)) = some (some (.pointer none), 1, 8) := by kernel_rfl
theorem info76 : (Try.prog.info? 76).map (fun i => (i.zero, i.size, i.bytes)) = some (some (.agg #[.int .i64 0, .int .i64 0]), 2, 16) := by kernel_rfl
theorem info83 : (Try.prog.info? 83).map (fun i => (i.zero, i.size, i.bytes)) = some (some (.agg #[.slice none 0 0, .int .i64 0]), 2, 32) := by kernel_rfl
theorem info89 : (Try.prog.info? 89).map (fun i => (i.zero, i.size, i.bytes)) = some (some (.slice none 0 0), 1, 24) := by kernel_rfl
theorem info91 : (Try.prog.info? 91).map (fun i => (i.zero, i.size, i.bytes)) = some (some (.slice none 0 0), 1, 24) := by kernel_rfl
theorem info103 : (Try.prog.info? 103).map (fun i => (i.zero, i.size, i.bytes)) = some (some (.pointer none), 1, 8) := by kernel_rfl
-- 2: int64
instance : TZero Try.prog 2 [.int .i64 0] := ⟨by obtain ⟨i, h1, h2, h3, h4⟩ := info_of info2; exact ⟨i, _, h1, h2, rfl, h3⟩⟩
instance : TOne Try.prog 2 := ⟨by obtain ⟨i, h1, h2, h3, h4⟩ := info_of info2; exact ⟨_, i, Try.underlying2, rfl, h1, h3⟩⟩
-- 3: int
instance : TZero Try.prog 3 [.int .i64 0] := ⟨by obtain ⟨i, h1, h2, h3, h4⟩ := info_of info3; exact ⟨i, _, h1, h2, rfl, h3⟩⟩
instance : TOne Try.prog 3 := ⟨by obtain ⟨i, h1, h2, h3, h4⟩ := info_of info3; exact ⟨_, i, Try.underlying3, rfl, h1, h3⟩⟩
-- 4: bool
instance : TZero Try.prog 4 [.bool false] := ⟨by obtain ⟨i, h1, h2, h3, h4⟩ := info_of info4; exact ⟨i, _, h1, h2, rfl, h3⟩⟩
instance : TOne Try.prog 4 := ⟨by obtain ⟨i, h1, h2, h3, h4⟩ := info_of info4; exact ⟨_, i, Try.underlying4, rfl, h1, h3⟩⟩
-- 5: uint8
instance : TZero Try.prog 5 [.int .u8 0] := ⟨by obtain ⟨i, h1, h2, h3, h4⟩ := info_of info5; exact ⟨i, _, h1, h2, rfl, h3⟩⟩
instance : TOne Try.prog 5 := ⟨by obtain ⟨i, h1, h2, h3, h4⟩ := info_of info5; exact ⟨_, i, Try.underlying5, rfl, h1, h3⟩⟩
-- 9: string
instance : TZero Try.prog 9 [.string .empty] := ⟨by obtain ⟨i, h1, h2, h3, h4⟩ := info_of info9; exact ⟨i, _, h1, h2, rfl, h3⟩⟩
instance : TOne Try.prog 9 := ⟨by obtain ⟨i, h1, h2, h3, h4⟩ := info_of info9; exact ⟨_, i, Try.underlying9, rfl, h1, h3⟩⟩
instance : TStr Try.prog 9 := ⟨Try.underlying9⟩
-- 22: []impl.Range
instance : TZero Try.prog 22 [.slice none 0 0] := ⟨by obtain ⟨i, h1, h2, h3, h4⟩ := info_of info22; exact ⟨i, _, h1, h2, rfl, h3⟩⟩
instance : TOne Try.prog 22 := ⟨by obtain ⟨i, h1, h2, h3, h4⟩ := info_of info22; exact ⟨_, i, Try.underlying22, rfl, h1, h3⟩⟩
instance : TSlice Try.prog 22 60 2 16 := ⟨by obtain ⟨i, h1, h2, h3, h4⟩ := info_of info60; exact ⟨i, _, Try.underlying22, h1, h3, h4, h2, rfl, by decide⟩⟩
-- 24: impl.Send
instance : TZero Try.prog 24 [.string .empty, .bool false, .int .i64 0, .int .i64 0, .slice none 0 0, .slice none 0 0] := ⟨by obtain ⟨i, h1, h2, h3, h4⟩ := info_of info24; exact ⟨i, _, h1, h2, rfl, h3⟩⟩
instance : TAgg Try.prog 24 6 := ⟨by obtain ⟨i, h1, h2, h3, h4⟩ := info_of info24; exact ⟨_, i, Try.underlying24, rfl, h1, h3⟩⟩
instance : TField Try.prog 24 0 0 := ⟨by obtain ⟨i, h1, h2, h3, h4⟩ := info_of info9; exact ⟨_, _, i, Try.underlying24, rfl, rfl, h1, by rw [h3]; decide⟩⟩
instance : TField Try.prog 24 1 1 := ⟨by obtain ⟨i, h1, h2, h3, h4⟩ := info_of info4; exact ⟨_, _, i, Try.underlying24, rfl, rfl, h1, by rw [h3]; decide⟩⟩
instance : TField Try.prog 24 2 2 := ⟨by obtain ⟨i, h1, h2, h3, h4⟩ := info_of info3; exact ⟨_, _, i, Try.underlying24, rfl, rfl, h1, by rw [h3]; decide⟩⟩
instance : TField Try.prog 24 3 3 := ⟨by obtain ⟨i, h1, h2, h3, h4⟩ := info_of info3; exact ⟨_, _, i, Try.underlying24, rfl, rfl, h1, by rw [h3]; decide⟩⟩
instance : TField Try.prog 24 4 4 := ⟨by obtain ⟨i, h1, h2, h3, h4⟩ := info_of info22; exact ⟨_, _, i, Try.underlying24, rfl, rfl, h1, by rw [h3]; decide⟩⟩
instance : TField Try.prog 24 5 5 := ⟨by obtain ⟨i, h1, h2, h3, h4⟩ := info_of info22; exact ⟨_, _, i, Try.underlying24, rfl, rfl, h1, by rw [h3]; decide⟩⟩
-- 30: []uint8
instance : TZero Try.prog 30 [.slice none 0 0] := ⟨by obtain ⟨i, h1, h2, h3, h4⟩ := info_of info30; exact ⟨i, _, h1, h2, rfl, h3⟩⟩
instance : TOne Try.prog 30 := ⟨by obtain ⟨i, h1, h2, h3, h4⟩ := info_of info30; exact ⟨_, i, Try.underlying30, rfl, h1, h3⟩⟩
instance : TSlice Try.prog 30 5 1 1 := ⟨by obtain ⟨i, h1, h2, h3, h4⟩ := info_of info5; exact ⟨i, _, Try.underlying30, h1, h3, h4, h2, rfl, by decide⟩⟩
-- 35: []laws.Range
instance : TZero Try.prog 35 [.slice none 0 0] := ⟨by obtain ⟨i, h1, h2, h3, h4⟩ := info_of info35; exact ⟨i, _, h1, h2, rfl, h3⟩⟩
instance : TOne Try.prog 35 := ⟨by obtain ⟨i, h1, h2, h3, h4⟩ := info_of info35; exact ⟨_, i, Try.underlying35, rfl, h1, h3⟩⟩
instance : TSlice Try.prog 35 76 2 16 := ⟨by obtain ⟨i, h1, h2, h3, h4⟩ := info_of info76; exact ⟨i, _, Try.underlying35, h1, h3, h4, h2, rfl, by decide⟩⟩
-- 37: laws.Send
instance : TZero Try.prog 37 [.string .empty, .bool false, .int .i64 0, .int .i64 0, .slice none 0 0, .slice none 0 0] := ⟨by obtain ⟨i, h1, h2, h3, h4⟩ := info_of info37; exact ⟨i, _, h1, h2, rfl, h3⟩⟩
instance : TAgg Try.prog 37 6 := ⟨by obtain ⟨i, h1, h2, h3, h4⟩ := info_of info37; exact ⟨_, i, Try.underlying37, rfl, h1, h3⟩⟩
instance : TField Try.prog 37 0 0 := ⟨by obtain ⟨i, h1, h2, h3, h4⟩ := info_of info9; exact ⟨_, _, i, Try.underlying37, rfl, rfl, h1, by rw [h3]; decide⟩⟩
instance : TField Try.prog 37 1 1 := ⟨by obtain ⟨i, h1, h2, h3, h4⟩ := info_of info4; exact ⟨_, _, i, Try.underlying37, rfl, rfl, h1, by rw [h3]; decide⟩⟩
instance : TField Try.prog 37 2 2 := ⟨by obtain ⟨i, h1, h2, h3, h4⟩ := info_of info3; exact ⟨_, _, i, Try.underlying37, rfl, rfl, h1, by rw [h3]; decide⟩⟩
instance : TField Try.prog 37 3 3 := ⟨by obtain ⟨i, h1, h2, h3, h4⟩ := info_of info3; exact ⟨_, _, i, Try.underlying37, rfl, rfl, h1, by rw [h3]; decide⟩⟩
instance : TField Try.prog 37 4 4 := ⟨by obtain ⟨i, h1, h2, h3, h4⟩ := info_of info35; exact ⟨_, _, i, Try.underlying37, rfl, rfl, h1, by rw [h3]; decide⟩⟩
instance : TField Try.prog 37 5 5 := ⟨by obtain ⟨i, h1, h2, h3, h4⟩ := info_of info35; exact ⟨_, _, i, Try.underlying37, rfl, rfl, h1, by rw [h3]; decide⟩⟩
-- 42: laws.Part
instance : TZero Try.prog 42 [.int .i64 0, .string .empty, .bool false] := ⟨by obtain ⟨i, h1, h2, h3, h4⟩ := info_of info42; exact ⟨i, _, h1, h2, rfl, h3⟩⟩
instance : TAgg Try.prog 42 3 := ⟨by obtain ⟨i, h1, h2, h3, h4⟩ := info_of info42; exact ⟨_, i, Try.underlying42, rfl, h1, h3⟩⟩
instance : TField Try.prog 42 0 0 := ⟨by obtain ⟨i, h1, h2, h3, h4⟩ := info_of info3; exact ⟨_, _, i, Try.underlying42, rfl, rfl, h1, by rw [h3]; decide⟩⟩
instance : TField Try.prog 42 1 1 := ⟨by obtain ⟨i, h1, h2, h3, h4⟩ := info_of info9; exact ⟨_, _, i, Try.underlying42, rfl, rfl, h1, by rw [h3]; decide⟩⟩
instance : TField Try.prog 42 2 2 := ⟨by obtain ⟨i, h1, h2, h3, h4⟩ := info_of info4; exact ⟨_, _, i, Try.underlying42, rfl, rfl, h1, by rw [h3]; decide⟩⟩
-- 45: impl.Part
instance : TZero Try.prog 45 [.int .i64 0, .string .empty, .bool false] := ⟨by obtain ⟨i, h1, h2, h3, h4⟩ := info_of info45; exact ⟨i, _, h1, h2, rfl, h3⟩⟩
instance : TAgg Try.prog 45 3 := ⟨by obtain ⟨i, h1, h2, h3, h4⟩ := info_of info45; exact ⟨_, i, Try.underlying45, rfl, h1, h3⟩⟩
instance : TField Try.prog 45 0 0 := ⟨by obtain ⟨i, h1, h2, h3, h4⟩ := info_of info3; exact ⟨_, _, i, Try.underlying45, rfl, rfl, h1, by rw [h3]; decide⟩⟩
instance : TField Try.prog 45 1 1 := ⟨by obtain ⟨i, h1, h2, h3, h4⟩ := info_of info9; exact ⟨_, _, i, Try.underlying45, rfl, rfl, h1, by rw [h3]; decide⟩⟩
instance : TField Try.prog 45 2 2 := ⟨by obtain ⟨i, h1, h2, h3, h4⟩ := info_of info4; exact ⟨_, _, i, Try.underlying45, rfl, rfl, h1, by rw [h3]; decide⟩⟩
-- 57: [][]impl.Range
instance : TZero Try.prog 57 [.slice none 0 0] := ⟨by obtain ⟨i, h1, h2, h3, h4⟩ := info_of info57; exact ⟨i, _, h1, h2, rfl, h3⟩⟩
instance : TOne Try.prog 57 := ⟨by obtain ⟨i, h1, h2, h3, h4⟩ := info_of info57; exact ⟨_, i, Try.underlying57, rfl, h1, h3⟩⟩
instance : TSlice Try.prog 57 22 1 24 := ⟨by obtain ⟨i, h1, h2, h3, h4⟩ := info_of info22; exact ⟨i, _, Try.underlying57, h1, h3, h4, h2, rfl, by decide⟩⟩
-- 60: impl.Range
instance : TZero Try.prog 60 [.int .i64 0, .int .i64 0] := ⟨by obtain ⟨i, h1, h2, h3, h4⟩ := info_of info60; exact ⟨i, _, h1, h2, rfl, h3⟩⟩
instance : TAgg Try.prog 60 2 := ⟨by obtain ⟨i, h1, h2, h3, h4⟩ := info_of info60; exact ⟨_, i, Try.underlying60, rfl, h1, h3⟩⟩
instance : TField Try.prog 60 0 0 := ⟨by obtain ⟨i, h1, h2, h3, h4⟩ := info_of info3; exact ⟨_, _, i, Try.underlying60, rfl, rfl, h1, by rw [h3]; decide⟩⟩
instance : TField Try.prog 60 1 1 := ⟨by obtain ⟨i, h1, h2, h3, h4⟩ := info_of info3; exact ⟨_, _, i, Try.underlying60, rfl, rfl, h1, by rw [h3]; decide⟩⟩
-- 67: []impl.Part
instance : TZero Try.prog 67 [.slice none 0 0] := ⟨by obtain ⟨i, h1, h2, h3, h4⟩ := info_of info67; exact ⟨i, _, h1, h2, rfl, h3⟩⟩
instance : TOne Try.prog 67 := ⟨by obtain ⟨i, h1, h2, h3, h4⟩ := info_of info67; exact ⟨_, i, Try.underlying67, rfl, h1, h3⟩⟩
instance : TSlice Try.prog 67 45 3 32 := ⟨by obtain ⟨i, h1, h2, h3, h4⟩ := info_of info45; exact ⟨i, _, Try.underlying67, h1, h3, h4, h2, rfl, by decide⟩⟩
-- 70: *spec.l6Rd
instance : TZero Try.prog 70 [.pointer none] := ⟨by obtain ⟨i, h1, h2, h3, h4⟩ := info_of info70; exact ⟨i, _, h1, h2, rfl, h3⟩⟩
instance : TOne Try.prog 70 := ⟨by obtain ⟨i, h1, h2, h3, h4⟩ := info_of info70; exact ⟨_, i, Try.underlying70, rfl, h1, h3⟩⟩
-- 76: laws.Range
instance : TZero Try.prog 76 [.int .i64 0, .int .i64 0] := ⟨by obtain ⟨i, h1, h2, h3, h4⟩ := info_of info76; exact ⟨i, _, h1, h2, rfl, h3⟩⟩
instance : TAgg Try.prog 76 2 := ⟨by obtain ⟨i, h1, h2, h3, h4⟩ := info_of info76; exact ⟨_, i, Try.underlying76, rfl, h1, h3⟩⟩
instance : TField Try.prog 76 0 0 := ⟨by obtain ⟨i, h1, h2, h3, h4⟩ := info_of info3; exact ⟨_, _, i, Try.underlying76, rfl, rfl, h1, by rw [h3]; decide⟩⟩
instance : TField Try.prog 76 1 1 := ⟨by obtain ⟨i, h1, h2, h3, h4⟩ := info_of info3; exact ⟨_, _, i, Try.underlying76, rfl, rfl, h1, by rw [h3]; decide⟩⟩
-- 83: spec.l6Rd
instance : TZero Try.prog 83 [.slice none 0 0, .int .i64 0] := ⟨by obtain ⟨i, h1, h2, h3, h4⟩ := info_of info83; exact ⟨i, _, h1, h2, rfl, h3⟩⟩
instance : TAgg Try.prog 83 2 := ⟨by obtain ⟨i, h1, h2, h3, h4⟩ := info_of info83; exact ⟨_, i, Try.underlying83, rfl, h1, h3⟩⟩
instance : TField Try.prog 83 0 0 := ⟨by obtain ⟨i, h1, h2, h3, h4⟩ := info_of info30; exact ⟨_, _, i, Try.underlying83, rfl, rfl, h1, by rw [h3]; decide⟩⟩
instance : TField Try.prog 83 1 1 := ⟨by obtain ⟨i, h1, h2, h3, h4⟩ := info_of info3; exact ⟨_, _, i, Try.underlying83, rfl, rfl, h1, by rw [h3]; decide⟩⟩
-- 89: []int
instance : TZero Try.prog 89 [.slice none 0 0] := ⟨by obtain ⟨i, h1, h2, h3, h4⟩ := info_of info89; exact ⟨i, _, h1, h2, rfl, h3⟩⟩
instance : TOne Try.prog 89 := ⟨by obtain ⟨i, h1, h2, h3, h4⟩ := info_of info89; exact ⟨_, i, Try.underlying89, rfl, h1, h3⟩⟩
instance : TSlice Try.prog 89 3 1 8 := ⟨by obtain ⟨i, h1, h2, h3, h4⟩ := info_of info3; exact ⟨i, _, Try.underlying89, h1, h3, h4, h2, rfl, by decide⟩⟩
-- 91: []string
instance : TZero Try.prog 91 [.slice none 0 0] := ⟨by obtain ⟨i, h1, h2, h3, h4⟩ := info_of info91; exact ⟨i, _, h1, h2, rfl, h3⟩⟩
instance : TOne Try.prog 91 := ⟨by obtain ⟨i, h1, h2, h3, h4⟩ := info_of info91; exact ⟨_, i, Try.underlying91, rfl, h1, h3⟩⟩
instance : TSlice Try.prog 91 9 1 16 := ⟨by obtain ⟨i, h1, h2, h3, h4⟩ := info_of info9; exact ⟨i, _, Try.underlying91, h1, h3, h4, h2, rfl, by decide⟩⟩
-- 103: *uint8
instance : TZero Try.prog 103 [.pointer none] := ⟨by obtain ⟨i, h1, h2, h3, h4⟩ := info_of info103; exact ⟨i, _, h1, h2, rfl, h3⟩⟩
instance : TOne Try.prog 103 := ⟨by obtain ⟨i, h1, h2, h3, h4⟩ := info_of info103; exact ⟨_, i, Try.underlying103, rfl, h1, h3⟩⟩

theorem mix : Try.prog.follows .mixedOrders = true := by kernel_rfl
-- loop.example/multipathtransport/laws.FnExactSendNew
-- loop.example/multipathtransport/laws.FnSendFinish
-- loop.example/multipathtransport/laws.FnExactSendValid
-- loop.example/multipathtransport/laws.FnExactSendDone
-- loop.example/multipathtransport/laws.FnExactPartSent
-- loop.example/multipathtransport/laws.FnExactSendFinish
-- loop.example/multipathtransport/laws.FnExactSendGrant
-- loop.example/multipathtransport/laws.FnExactSendWrite
-- loop.example/multipathtransport/spec.SendNew
theorem call11 : CallOK Try.prog 11 := fun _ _ => by kernel_rfl
-- loop.example/multipathtransport/impl.SendNew
-- loop.example/multipathtransport/laws.eqSend
-- loop.example/multipathtransport/laws.markSend
-- loop.example/multipathtransport/laws.heldSend
-- loop.example/multipathtransport/spec.DrawSendFinish
theorem call16 : CallOK Try.prog 16 := fun _ _ => by kernel_rfl
-- loop.example/multipathtransport/impl.SendFinish
theorem call17 : CallOK Try.prog 17 := fun _ _ => by kernel_rfl
-- loop.example/multipathtransport/spec.SendFinish
theorem call18 : CallOK Try.prog 18 := fun _ _ => by kernel_rfl
-- loop.example/multipathtransport/laws.sameSend
theorem call19 : CallOK Try.prog 19 := fun _ _ => by kernel_rfl
-- loop.example/multipathtransport/impl.SendValid
theorem call20 : CallOK Try.prog 20 := fun _ _ => by kernel_rfl
-- loop.example/multipathtransport/laws.szSend
-- loop.example/multipathtransport/spec.SendValid
theorem call22 : CallOK Try.prog 22 := fun _ _ => by kernel_rfl
-- loop.example/multipathtransport/laws.toSend
-- loop.example/multipathtransport/spec.SendDone
-- loop.example/multipathtransport/impl.SendDone
-- loop.example/multipathtransport/laws.szPart
-- loop.example/multipathtransport/spec.PartSent
-- loop.example/multipathtransport/laws.toPart
-- loop.example/multipathtransport/impl.PartSent
-- loop.example/multipathtransport/spec.SendGrant
-- loop.example/multipathtransport/impl.SendGrant
-- loop.example/multipathtransport/spec.SendWrite
-- loop.example/multipathtransport/impl.SendWrite
-- loop.example/multipathtransport/spec.l6In
theorem call34 : CallOK Try.prog 34 := fun _ _ => by kernel_rfl
-- loop.example/multipathtransport/impl.within
theorem call35 : CallOK Try.prog 35 := fun _ _ => by kernel_rfl
-- loop.example/multipathtransport/laws.eqRangeS
-- loop.example/multipathtransport/laws.markRangeS
-- loop.example/multipathtransport/laws.heldRangeS
-- loop.example/multipathtransport/spec.DrawSendValid
theorem call39 : CallOK Try.prog 39 := fun _ _ => by kernel_rfl
-- loop.example/multipathtransport/impl.copySend
theorem call40 : CallOK Try.prog 40 := fun _ _ => by kernel_rfl
-- loop.example/multipathtransport/spec.l32Copy
theorem call41 : CallOK Try.prog 41 := fun _ _ => by kernel_rfl
-- loop.example/multipathtransport/laws.sameRanges
theorem call42 : CallOK Try.prog 42 := fun _ _ => by kernel_rfl
-- (loop.example/multipathtransport/impl.Send).positions
theorem call43 : CallOK Try.prog 43 := fun _ _ => by kernel_rfl
-- loop.example/multipathtransport/impl.RangesValid
theorem call44 : CallOK Try.prog 44 := fun _ _ => by kernel_rfl
-- loop.example/multipathtransport/impl.has
theorem call45 : CallOK Try.prog 45 := fun _ _ => by kernel_rfl
-- loop.example/multipathtransport/laws.szRangeS
-- loop.example/multipathtransport/spec.l32End
theorem call47 : CallOK Try.prog 47 := fun _ _ => by kernel_rfl
-- loop.example/multipathtransport/spec.RangesValid
theorem call48 : CallOK Try.prog 48 := fun _ _ => by kernel_rfl
-- loop.example/multipathtransport/spec.l2Has
theorem call49 : CallOK Try.prog 49 := fun _ _ => by kernel_rfl
-- loop.example/multipathtransport/laws.toRangeS
-- loop.example/multipathtransport/impl.RangesCount
-- loop.example/multipathtransport/spec.l32Sent
-- loop.example/multipathtransport/impl.partSent
-- loop.example/multipathtransport/laws.eqRange
-- loop.example/multipathtransport/spec.l92Spoilt
theorem call55 : CallOK Try.prog 55 := fun _ _ => by kernel_rfl
-- loop.example/multipathtransport/spec.l6Open
theorem call56 : CallOK Try.prog 56 := fun _ _ => by kernel_rfl
-- slices.Clone[[]loop.example/multipathtransport/impl.Range,loop.example/multipathtransport/impl.Range]
theorem call57 : CallOK Try.prog 57 := fun _ _ => by kernel_rfl
-- slices.ContainsFunc[[]loop.example/multipathtransport/impl.Range,loop.example/multipathtransport/impl.Range]
theorem call58 : CallOK Try.prog 58 := fun _ _ => by kernel_rfl
-- loop.example/multipathtransport/impl.has$1
theorem call59 : CallOK Try.prog 59 := fun _ _ => by kernel_rfl
-- loop.example/multipathtransport/laws.toRange
-- loop.example/multipathtransport/spec.l32Last
theorem call61 : CallOK Try.prog 61 := fun _ _ => by kernel_rfl
-- (loop.example/multipathtransport/impl.Part).last
-- loop.example/multipathtransport/spec.l92Send
theorem call64 : CallOK Try.prog 64 := fun _ _ => by kernel_rfl
-- (*loop.example/multipathtransport/spec.l6Rd).pick
theorem call65 : CallOK Try.prog 65 := fun _ _ => by kernel_rfl
-- loop.example/multipathtransport/spec.l92Limit
theorem call66 : CallOK Try.prog 66 := fun _ _ => by kernel_rfl
-- loop.example/multipathtransport/spec.l91Data
theorem call67 : CallOK Try.prog 67 := fun _ _ => by kernel_rfl
-- slices.IndexFunc[[]loop.example/multipathtransport/impl.Range,loop.example/multipathtransport/impl.Range]
theorem call68 : CallOK Try.prog 68 := fun _ _ => by kernel_rfl
-- loop.example/multipathtransport/spec.l92Stream
theorem call70 : CallOK Try.prog 70 := fun _ _ => by kernel_rfl
-- loop.example/multipathtransport/spec.l32Next
theorem call71 : CallOK Try.prog 71 := fun _ _ => by kernel_rfl
-- loop.example/multipathtransport/spec.l32Ack
theorem call72 : CallOK Try.prog 72 := fun _ _ => by kernel_rfl
-- loop.example/multipathtransport/spec.l32Loss
theorem call73 : CallOK Try.prog 73 := fun _ _ => by kernel_rfl
-- (*loop.example/multipathtransport/spec.l6Rd).of
theorem call74 : CallOK Try.prog 74 := fun _ _ => by kernel_rfl
-- loop.example/multipathtransport/spec.l2Remove
theorem call75 : CallOK Try.prog 75 := fun _ _ => by kernel_rfl
-- loop.example/multipathtransport/spec.l32Part
theorem call76 : CallOK Try.prog 76 := fun _ _ => by kernel_rfl
-- loop.example/multipathtransport/spec.l2Add
theorem call77 : CallOK Try.prog 77 := fun _ _ => by kernel_rfl

end Go.Proofs.Ytkolihdbehjffaa
