/- The facts on the types and the calls of this program that the walks use, read off the loaded program. No condition. -/
import Derived.Test.YthjlafpfhgbfoaaChecked
import Derived.Test.YthjlafpfhgbfoaaMem
import Derived.KernelRfl
import Derived.Test.YthjlafpfhgbfoaaStr
namespace Go.Proofs.Ythjlafpfhgbfoaa
open Go Go.RowKit

theorem info_of {P : Program} {t : TypeId} {z : Option Value} {s b : Nat} (h : (P.info? t).map (fun i => (i.zero, i.size, i.bytes)) = some (z, s, b)) : ∃ i, P.info? t = some i ∧ i.zero = z ∧ i.size = s ∧ i.bytes = b := by
  cases hi : P.info? t with
  | none => rw [hi] at h; cases h
  | some i =>
    rw [hi] at h
    simp only [Option.map_some, Option.some.injEq, Prod.mk.injEq] at h
    exact ⟨i, rfl, h.1, h.2.1, h.2.2⟩

theorem info2 : (Try.prog.info? 2).map (fun i => (i.zero, i.size, i.bytes)) = some (some (.int .i64 0), 1, 8) := by kernel_rfl
theorem info3 : (Try.prog.info? 3).map (fun i => (i.zero, i.size, i.bytes)) = some (some (.int .i64 0), 1, 8) := by kernel_rfl
theorem info4 : (Try.prog.info? 4).map (fun i => (i.zero, i.size, i.bytes)) = some (some (.bool false), 1, 1) := by kernel_rfl
theorem info5 : (Try.prog.info? 5).map (fun i => (i.zero, i.size, i.bytes)) = some (some (.int .u8 0), 1, 1) := by kernel_rfl
theorem info9 : (Try.prog.info? 9).map (fun i => (i.zero, i.size, i.bytes)) = some (some (.string .empty), 1, 16) := by kernel_rfl
theorem info22 : (Try.prog.info? 22).map (fun i => (i.zero, i.size, i.bytes)) = some (some (.slice none 0 0), 1, 24) := by kernel_rfl
theorem info23 : (Try.prog.info? 23).map (fun i => (i.zero, i.size, i.bytes)) = some (some (.slice none 0 0), 1, 24) := by kernel_rfl
theorem info25 : (Try.prog.info? 25).map (fun i => (i.zero, i.size, i.bytes)) = some (some (.agg #[.int .i64 0, .slice none 0 0, .int .i64 0, .int .i64 0]), 4, 48) := by kernel_rfl
theorem info28 : (Try.prog.info? 28).map (fun i => (i.zero, i.size, i.bytes)) = some (some (.slice none 0 0), 1, 24) := by kernel_rfl
theorem info30 : (Try.prog.info? 30).map (fun i => (i.zero, i.size, i.bytes)) = some (some (.agg #[.int .i64 0, .int .i64 0, .int .i64 0, .int .i64 0, .string .empty, .slice none 0 0]), 6, 72) := by kernel_rfl
theorem info33 : (Try.prog.info? 33).map (fun i => (i.zero, i.size, i.bytes)) = some (some (.pointer none), 1, 8) := by kernel_rfl
theorem info42 : (Try.prog.info? 42).map (fun i => (i.zero, i.size, i.bytes)) = some (some (.agg #[.slice none 0 0, .int .i64 0]), 2, 32) := by kernel_rfl
theorem info51 : (Try.prog.info? 51).map (fun i => (i.zero, i.size, i.bytes)) = some (some (.agg #[.int .i64 0, .string .empty]), 2, 24) := by kernel_rfl
theorem info53 : (Try.prog.info? 53).map (fun i => (i.zero, i.size, i.bytes)) = some (some (.slice none 0 0), 1, 24) := by kernel_rfl
theorem info55 : (Try.prog.info? 55).map (fun i => (i.zero, i.size, i.bytes)) = some (some (.agg #[.int .i64 0, .int .i64 0]), 2, 16) := by kernel_rfl
theorem info58 : (Try.prog.info? 58).map (fun i => (i.zero, i.size, i.bytes)) = some (some (.slice none 0 0), 1, 24) := by kernel_rfl
theorem info71 : (Try.prog.info? 71).map (fun i => (i.zero, i.size, i.bytes)) = some (some (.pointer none), 1, 8) := by kernel_rfl
-- 2: int64
instance : TZero Try.prog 2 [.int .i64 0] := ⟨by obtain ⟨i, h1, h2, h3, h4⟩ := info_of info2; exact ⟨i, _, h1, h2, rfl, h3⟩⟩
instance : TOne Try.prog 2 := ⟨by obtain ⟨i, h1, h2, h3, h4⟩ := info_of info2; exact ⟨_, i, Try.underlying2, rfl, h1, h3⟩⟩
-- 3: int
instance : TZero Try.prog 3 [.int .i64 0] := ⟨by obtain ⟨i, h1, h2, h3, h4⟩ := info_of info3; exact ⟨i, _, h1, h2, rfl, h3⟩⟩
instance : TOne Try.prog 3 := ⟨by obtain ⟨i, h1, h2, h3, h4⟩ := info_of info3; exact ⟨_, i, Try.underlying3, rfl, h1, h3⟩⟩
-- 4: bool
instance : TZero Try.prog 4 [.bool false] := ⟨by obtain ⟨i, h1, h2, h3, h4⟩ := info_of info4; exact ⟨i, _, h1, h2, rfl, h3⟩⟩
instance : TOne Try.prog 4 := ⟨by obtain ⟨i, h1, h2, h3, h4⟩ := info_of info4; exact ⟨_, i, Try.underlying4, rfl, h1, h3⟩⟩
-- 5: uint8
instance : TZero Try.prog 5 [.int .u8 0] := ⟨by obtain ⟨i, h1, h2, h3, h4⟩ := info_of info5; exact ⟨i, _, h1, h2, rfl, h3⟩⟩
instance : TOne Try.prog 5 := ⟨by obtain ⟨i, h1, h2, h3, h4⟩ := info_of info5; exact ⟨_, i, Try.underlying5, rfl, h1, h3⟩⟩
-- 9: string
instance : TZero Try.prog 9 [.string .empty] := ⟨by obtain ⟨i, h1, h2, h3, h4⟩ := info_of info9; exact ⟨i, _, h1, h2, rfl, h3⟩⟩
instance : TOne Try.prog 9 := ⟨by obtain ⟨i, h1, h2, h3, h4⟩ := info_of info9; exact ⟨_, i, Try.underlying9, rfl, h1, h3⟩⟩
instance : TStr Try.prog 9 := ⟨Try.underlying9⟩
-- 22: []uint8
instance : TZero Try.prog 22 [.slice none 0 0] := ⟨by obtain ⟨i, h1, h2, h3, h4⟩ := info_of info22; exact ⟨i, _, h1, h2, rfl, h3⟩⟩
instance : TOne Try.prog 22 := ⟨by obtain ⟨i, h1, h2, h3, h4⟩ := info_of info22; exact ⟨_, i, Try.underlying22, rfl, h1, h3⟩⟩
instance : TSlice Try.prog 22 5 1 1 := ⟨by obtain ⟨i, h1, h2, h3, h4⟩ := info_of info5; exact ⟨i, _, Try.underlying22, h1, h3, h4, h2, rfl, by decide⟩⟩
-- 23: []impl.Piece
instance : TZero Try.prog 23 [.slice none 0 0] := ⟨by obtain ⟨i, h1, h2, h3, h4⟩ := info_of info23; exact ⟨i, _, h1, h2, rfl, h3⟩⟩
instance : TOne Try.prog 23 := ⟨by obtain ⟨i, h1, h2, h3, h4⟩ := info_of info23; exact ⟨_, i, Try.underlying23, rfl, h1, h3⟩⟩
instance : TSlice Try.prog 23 51 2 24 := ⟨by obtain ⟨i, h1, h2, h3, h4⟩ := info_of info51; exact ⟨i, _, Try.underlying23, h1, h3, h4, h2, rfl, by decide⟩⟩
-- 25: impl.Recv
instance : TZero Try.prog 25 [.int .i64 0, .slice none 0 0, .int .i64 0, .int .i64 0] := ⟨by obtain ⟨i, h1, h2, h3, h4⟩ := info_of info25; exact ⟨i, _, h1, h2, rfl, h3⟩⟩
instance : TAgg Try.prog 25 4 := ⟨by obtain ⟨i, h1, h2, h3, h4⟩ := info_of info25; exact ⟨_, i, Try.underlying25, rfl, h1, h3⟩⟩
instance : TField Try.prog 25 0 0 := ⟨by obtain ⟨i, h1, h2, h3, h4⟩ := info_of info3; exact ⟨_, _, i, Try.underlying25, rfl, rfl, h1, by rw [h3]; decide⟩⟩
instance : TField Try.prog 25 1 1 := ⟨by obtain ⟨i, h1, h2, h3, h4⟩ := info_of info23; exact ⟨_, _, i, Try.underlying25, rfl, rfl, h1, by rw [h3]; decide⟩⟩
instance : TField Try.prog 25 2 2 := ⟨by obtain ⟨i, h1, h2, h3, h4⟩ := info_of info3; exact ⟨_, _, i, Try.underlying25, rfl, rfl, h1, by rw [h3]; decide⟩⟩
instance : TField Try.prog 25 3 3 := ⟨by obtain ⟨i, h1, h2, h3, h4⟩ := info_of info3; exact ⟨_, _, i, Try.underlying25, rfl, rfl, h1, by rw [h3]; decide⟩⟩
-- 28: []impl.Range
instance : TZero Try.prog 28 [.slice none 0 0] := ⟨by obtain ⟨i, h1, h2, h3, h4⟩ := info_of info28; exact ⟨i, _, h1, h2, rfl, h3⟩⟩
instance : TOne Try.prog 28 := ⟨by obtain ⟨i, h1, h2, h3, h4⟩ := info_of info28; exact ⟨_, i, Try.underlying28, rfl, h1, h3⟩⟩
instance : TSlice Try.prog 28 55 2 16 := ⟨by obtain ⟨i, h1, h2, h3, h4⟩ := info_of info55; exact ⟨i, _, Try.underlying28, h1, h3, h4, h2, rfl, by decide⟩⟩
-- 30: impl.Frame
instance : TZero Try.prog 30 [.int .i64 0, .int .i64 0, .int .i64 0, .int .i64 0, .string .empty, .slice none 0 0] := ⟨by obtain ⟨i, h1, h2, h3, h4⟩ := info_of info30; exact ⟨i, _, h1, h2, rfl, h3⟩⟩
instance : TAgg Try.prog 30 6 := ⟨by obtain ⟨i, h1, h2, h3, h4⟩ := info_of info30; exact ⟨_, i, Try.underlying30, rfl, h1, h3⟩⟩
instance : TField Try.prog 30 0 0 := ⟨by obtain ⟨i, h1, h2, h3, h4⟩ := info_of info3; exact ⟨_, _, i, Try.underlying30, rfl, rfl, h1, by rw [h3]; decide⟩⟩
instance : TField Try.prog 30 1 1 := ⟨by obtain ⟨i, h1, h2, h3, h4⟩ := info_of info3; exact ⟨_, _, i, Try.underlying30, rfl, rfl, h1, by rw [h3]; decide⟩⟩
instance : TField Try.prog 30 2 2 := ⟨by obtain ⟨i, h1, h2, h3, h4⟩ := info_of info3; exact ⟨_, _, i, Try.underlying30, rfl, rfl, h1, by rw [h3]; decide⟩⟩
instance : TField Try.prog 30 3 3 := ⟨by obtain ⟨i, h1, h2, h3, h4⟩ := info_of info3; exact ⟨_, _, i, Try.underlying30, rfl, rfl, h1, by rw [h3]; decide⟩⟩
instance : TField Try.prog 30 4 4 := ⟨by obtain ⟨i, h1, h2, h3, h4⟩ := info_of info9; exact ⟨_, _, i, Try.underlying30, rfl, rfl, h1, by rw [h3]; decide⟩⟩
instance : TField Try.prog 30 5 5 := ⟨by obtain ⟨i, h1, h2, h3, h4⟩ := info_of info28; exact ⟨_, _, i, Try.underlying30, rfl, rfl, h1, by rw [h3]; decide⟩⟩
-- 33: *spec.l6Rd
instance : TZero Try.prog 33 [.pointer none] := ⟨by obtain ⟨i, h1, h2, h3, h4⟩ := info_of info33; exact ⟨i, _, h1, h2, rfl, h3⟩⟩
instance : TOne Try.prog 33 := ⟨by obtain ⟨i, h1, h2, h3, h4⟩ := info_of info33; exact ⟨_, i, Try.underlying33, rfl, h1, h3⟩⟩
-- 42: spec.l6Rd
instance : TZero Try.prog 42 [.slice none 0 0, .int .i64 0] := ⟨by obtain ⟨i, h1, h2, h3, h4⟩ := info_of info42; exact ⟨i, _, h1, h2, rfl, h3⟩⟩
instance : TAgg Try.prog 42 2 := ⟨by obtain ⟨i, h1, h2, h3, h4⟩ := info_of info42; exact ⟨_, i, Try.underlying42, rfl, h1, h3⟩⟩
instance : TField Try.prog 42 0 0 := ⟨by obtain ⟨i, h1, h2, h3, h4⟩ := info_of info22; exact ⟨_, _, i, Try.underlying42, rfl, rfl, h1, by rw [h3]; decide⟩⟩
instance : TField Try.prog 42 1 1 := ⟨by obtain ⟨i, h1, h2, h3, h4⟩ := info_of info3; exact ⟨_, _, i, Try.underlying42, rfl, rfl, h1, by rw [h3]; decide⟩⟩
-- 51: impl.Piece
instance : TZero Try.prog 51 [.int .i64 0, .string .empty] := ⟨by obtain ⟨i, h1, h2, h3, h4⟩ := info_of info51; exact ⟨i, _, h1, h2, rfl, h3⟩⟩
instance : TAgg Try.prog 51 2 := ⟨by obtain ⟨i, h1, h2, h3, h4⟩ := info_of info51; exact ⟨_, i, Try.underlying51, rfl, h1, h3⟩⟩
instance : TField Try.prog 51 0 0 := ⟨by obtain ⟨i, h1, h2, h3, h4⟩ := info_of info3; exact ⟨_, _, i, Try.underlying51, rfl, rfl, h1, by rw [h3]; decide⟩⟩
instance : TField Try.prog 51 1 1 := ⟨by obtain ⟨i, h1, h2, h3, h4⟩ := info_of info9; exact ⟨_, _, i, Try.underlying51, rfl, rfl, h1, by rw [h3]; decide⟩⟩
-- 53: []string
instance : TZero Try.prog 53 [.slice none 0 0] := ⟨by obtain ⟨i, h1, h2, h3, h4⟩ := info_of info53; exact ⟨i, _, h1, h2, rfl, h3⟩⟩
instance : TOne Try.prog 53 := ⟨by obtain ⟨i, h1, h2, h3, h4⟩ := info_of info53; exact ⟨_, i, Try.underlying53, rfl, h1, h3⟩⟩
instance : TSlice Try.prog 53 9 1 16 := ⟨by obtain ⟨i, h1, h2, h3, h4⟩ := info_of info9; exact ⟨i, _, Try.underlying53, h1, h3, h4, h2, rfl, by decide⟩⟩
-- 55: impl.Range
instance : TZero Try.prog 55 [.int .i64 0, .int .i64 0] := ⟨by obtain ⟨i, h1, h2, h3, h4⟩ := info_of info55; exact ⟨i, _, h1, h2, rfl, h3⟩⟩
instance : TAgg Try.prog 55 2 := ⟨by obtain ⟨i, h1, h2, h3, h4⟩ := info_of info55; exact ⟨_, i, Try.underlying55, rfl, h1, h3⟩⟩
instance : TField Try.prog 55 0 0 := ⟨by obtain ⟨i, h1, h2, h3, h4⟩ := info_of info3; exact ⟨_, _, i, Try.underlying55, rfl, rfl, h1, by rw [h3]; decide⟩⟩
instance : TField Try.prog 55 1 1 := ⟨by obtain ⟨i, h1, h2, h3, h4⟩ := info_of info3; exact ⟨_, _, i, Try.underlying55, rfl, rfl, h1, by rw [h3]; decide⟩⟩
-- 58: []int
instance : TZero Try.prog 58 [.slice none 0 0] := ⟨by obtain ⟨i, h1, h2, h3, h4⟩ := info_of info58; exact ⟨i, _, h1, h2, rfl, h3⟩⟩
instance : TOne Try.prog 58 := ⟨by obtain ⟨i, h1, h2, h3, h4⟩ := info_of info58; exact ⟨_, i, Try.underlying58, rfl, h1, h3⟩⟩
instance : TSlice Try.prog 58 3 1 8 := ⟨by obtain ⟨i, h1, h2, h3, h4⟩ := info_of info3; exact ⟨i, _, Try.underlying58, h1, h3, h4, h2, rfl, by decide⟩⟩
-- 71: *uint8
instance : TZero Try.prog 71 [.pointer none] := ⟨by obtain ⟨i, h1, h2, h3, h4⟩ := info_of info71; exact ⟨i, _, h1, h2, rfl, h3⟩⟩
instance : TOne Try.prog 71 := ⟨by obtain ⟨i, h1, h2, h3, h4⟩ := info_of info71; exact ⟨_, i, Try.underlying71, rfl, h1, h3⟩⟩

theorem mix : Try.prog.follows .mixedOrders = true := by kernel_rfl
-- loop.example/multipathtransport/laws.FnFrameStream
theorem call3 : CallOK Try.prog 3 := fun _ _ => by kernel_rfl
-- loop.example/multipathtransport/spec.DrawRecvPut
theorem call4 : CallOK Try.prog 4 := fun _ _ => by kernel_rfl
-- loop.example/multipathtransport/impl.FrameValid
theorem call5 : CallOK Try.prog 5 := fun _ _ => by kernel_rfl
-- loop.example/multipathtransport/spec.l6Open
theorem call6 : CallOK Try.prog 6 := fun _ _ => by kernel_rfl
-- loop.example/multipathtransport/spec.l92Recv
theorem call7 : CallOK Try.prog 7 := fun _ _ => by kernel_rfl
-- (*loop.example/multipathtransport/spec.l6Rd).pick
theorem call8 : CallOK Try.prog 8 := fun _ _ => by kernel_rfl
-- loop.example/multipathtransport/spec.l92Stream
theorem call9 : CallOK Try.prog 9 := fun _ _ => by kernel_rfl
-- loop.example/multipathtransport/spec.l91Data
theorem call10 : CallOK Try.prog 10 := fun _ _ => by kernel_rfl
-- loop.example/multipathtransport/impl.FrameValid$1
theorem call11 : CallOK Try.prog 11 := fun _ _ => by kernel_rfl
-- loop.example/multipathtransport/impl.within
theorem call12 : CallOK Try.prog 12 := fun _ _ => by kernel_rfl
-- loop.example/multipathtransport/impl.RangesValid
theorem call13 : CallOK Try.prog 13 := fun _ _ => by kernel_rfl
-- loop.example/multipathtransport/spec.RecvNew
theorem call14 : CallOK Try.prog 14 := fun _ _ => by kernel_rfl
-- loop.example/multipathtransport/spec.l31Put
theorem call15 : CallOK Try.prog 15 := fun _ _ => by kernel_rfl
-- loop.example/multipathtransport/spec.l31Read
theorem call16 : CallOK Try.prog 16 := fun _ _ => by kernel_rfl
-- loop.example/multipathtransport/spec.l92Limit
theorem call17 : CallOK Try.prog 17 := fun _ _ => by kernel_rfl
-- (*loop.example/multipathtransport/spec.l6Rd).of
theorem call18 : CallOK Try.prog 18 := fun _ _ => by kernel_rfl
-- loop.example/multipathtransport/spec.l6In
theorem call19 : CallOK Try.prog 19 := fun _ _ => by kernel_rfl
-- loop.example/multipathtransport/spec.l31Copy
theorem call20 : CallOK Try.prog 20 := fun _ _ => by kernel_rfl
-- loop.example/multipathtransport/spec.l31End
theorem call21 : CallOK Try.prog 21 := fun _ _ => by kernel_rfl
-- loop.example/multipathtransport/spec.l31Bytes
theorem call22 : CallOK Try.prog 22 := fun _ _ => by kernel_rfl
-- loop.example/multipathtransport/spec.l31Pieces
theorem call23 : CallOK Try.prog 23 := fun _ _ => by kernel_rfl
-- loop.example/multipathtransport/spec.l31Ready
theorem call24 : CallOK Try.prog 24 := fun _ _ => by kernel_rfl
-- (loop.example/multipathtransport/impl.Recv).end
-- (loop.example/multipathtransport/impl.Piece).end

end Go.Proofs.Ythjlafpfhgbfoaa
