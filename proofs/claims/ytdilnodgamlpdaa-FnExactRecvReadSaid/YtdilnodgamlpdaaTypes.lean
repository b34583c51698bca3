/- The facts on the types and the calls of this program that the walks use, read off the loaded program. No condition. -/
import Derived.Test.YtdilnodgamlpdaaChecked
import Derived.Test.YtdilnodgamlpdaaMem
import Derived.KernelRfl
import Derived.Test.YtdilnodgamlpdaaStr
namespace Go.Proofs.Ytdilnodgamlpdaa
open Go Go.RowKit

theorem info_of {P : Program} {t : TypeId} {z : Option Value} {s b : Nat} (h : (P.info? t).map (fun i => (i.zero, i.size, i.bytes)) = some (z, s, b)) : ∃ i, P.info? t = some i ∧ i.zero = z ∧ i.size = s ∧ i.bytes = b := by
  cases hi : P.info? t with
  | none => rw [hi] at h; cases h
  | some i =>
    rw [hi] at h
    simp only [Option.map_some, Option.some.injEq, Prod.mk.injEq] at h
    exact ⟨i, rfl, h.1, h.2.1, h.2.2⟩

theorem info2 : (Try.prog.info? 2).map (fun i => (i.zero, i.size, i.bytes)) = some (some (.int .i64 0), 1, 8) := by kernel_rfl
theorem info3 : (Try.prog.info? 3).map (fun i => (i.zero, i.size, i.bytes)) = some (some (.int .i64 0), 1, 8) := by kernel_rfl
theorem info4 : (Try.prog.info? 4).map (fun i => (i.zero, i.size, i.bytes)) = some (some (.bool false), 1, 1) := by kernel_rfl
theorem info5 : (Try.prog.info? 5).map (fun i => (i.zero, i.size, i.bytes)) = some (some (.int .u8 0), 1, 1) := by kernel_rfl
theorem info9 : (Try.prog.info? 9).map (fun i => (i.zero, i.size, i.bytes)) = some (some (.string .empty), 1, 16) := by kernel_rfl
theorem info22 : (Try.prog.info? 22).map (fun i => (i.zero, i.size, i.bytes)) = some (some (.slice none 0 0), 1, 24) := by kernel_rfl
theorem info24 : (Try.prog.info? 24).map (fun i => (i.zero, i.size, i.bytes)) = some (some (.agg #[.int .i64 0, .slice none 0 0, .int .i64 0, .int .i64 0]), 4, 48) := by kernel_rfl
theorem info30 : (Try.prog.info? 30).map (fun i => (i.zero, i.size, i.bytes)) = some (some (.slice none 0 0), 1, 24) := by kernel_rfl
theorem info32 : (Try.prog.info? 32).map (fun i => (i.zero, i.size, i.bytes)) = some (some (.agg #[.int .i64 0, .slice none 0 0, .int .i64 0, .int .i64 0]), 4, 48) := by kernel_rfl
theorem info40 : (Try.prog.info? 40).map (fun i => (i.zero, i.size, i.bytes)) = some (some (.slice none 0 0), 1, 24) := by kernel_rfl
theorem info58 : (Try.prog.info? 58).map (fun i => (i.zero, i.size, i.bytes)) = some (some (.agg #[.int .i64 0, .string .empty]), 2, 24) := by kernel_rfl
theorem info62 : (Try.prog.info? 62).map (fun i => (i.zero, i.size, i.bytes)) = some (some (.pointer none), 1, 8) := by kernel_rfl
theorem info68 : (Try.prog.info? 68).map (fun i => (i.zero, i.size, i.bytes)) = some (some (.pointer none), 1, 8) := by kernel_rfl
theorem info76 : (Try.prog.info? 76).map (fun i => (i.zero, i.size, i.bytes)) = some (some (.agg #[.int .i64 0, .string .empty]), 2, 24) := by kernel_rfl
theorem info80 : (Try.prog.info? 80).map (fun i => (i.zero, i.size, i.bytes)) = some (some (.agg #[.slice none 0 0, .int .i64 0]), 2, 32) := by kernel_rfl
theorem info81 : (Try.prog.info? 81).map (fun i => (i.zero, i.size, i.bytes)) = some (some (.slice none 0 0), 1, 24) := by kernel_rfl
theorem info85 : (Try.prog.info? 85).map (fun i => (i.zero, i.size, i.bytes)) = some (some (.slice none 0 0), 1, 24) := by kernel_rfl
theorem info97 : (Try.prog.info? 97).map (fun i => (i.zero, i.size, i.bytes)) = some (some (.pointer none), 1, 8) := by kernel_rfl
-- 2: int64
instance : TZero Try.prog 2 [.int .i64 0] := ⟨by obtain ⟨i, h1, h2, h3, h4⟩ := info_of info2; exact ⟨i, _, h1, h2, rfl, h3⟩⟩
instance : TOne Try.prog 2 := ⟨by obtain ⟨i, h1, h2, h3, h4⟩ := info_of info2; exact ⟨_, i, Try.underlying2, rfl, h1, h3⟩⟩
-- 3: int
instance : TZero Try.prog 3 [.int .i64 0] := ⟨by obtain ⟨i, h1, h2, h3, h4⟩ := info_of info3; exact ⟨i, _, h1, h2, rfl, h3⟩⟩
instance : TOne Try.prog 3 := ⟨by obtain ⟨i, h1, h2, h3, h4⟩ := info_of info3; exact ⟨_, i, Try.underlying3, rfl, h1, h3⟩⟩
-- 4: bool
instance : TZero Try.prog 4 [.bool false] := ⟨by obtain ⟨i, h1, h2, h3, h4⟩ := info_of info4; exact ⟨i, _, h1, h2, rfl, h3⟩⟩
instance : TOne Try.prog 4 := ⟨by obtain ⟨i, h1, h2, h3, h4⟩ := info_of info4; exact ⟨_, i, Try.underlying4, rfl, h1, h3⟩⟩
-- 5: uint8
instance : TZero Try.prog 5 [.int .u8 0] := ⟨by obtain ⟨i, h1, h2, h3, h4⟩ := info_of info5; exact ⟨i, _, h1, h2, rfl, h3⟩⟩
instance : TOne Try.prog 5 := ⟨by obtain ⟨i, h1, h2, h3, h4⟩ := info_of info5; exact ⟨_, i, Try.underlying5, rfl, h1, h3⟩⟩
-- 9: string
instance : TZero Try.prog 9 [.string .empty] := ⟨by obtain ⟨i, h1, h2, h3, h4⟩ := info_of info9; exact ⟨i, _, h1, h2, rfl, h3⟩⟩
instance : TOne Try.prog 9 := ⟨by obtain ⟨i, h1, h2, h3, h4⟩ := info_of info9; exact ⟨_, i, Try.underlying9, rfl, h1, h3⟩⟩
instance : TStr Try.prog 9 := ⟨Try.underlying9⟩
-- 22: []impl.Piece
instance : TZero Try.prog 22 [.slice none 0 0] := ⟨by obtain ⟨i, h1, h2, h3, h4⟩ := info_of info22; exact ⟨i, _, h1, h2, rfl, h3⟩⟩
instance : TOne Try.prog 22 := ⟨by obtain ⟨i, h1, h2, h3, h4⟩ := info_of info22; exact ⟨_, i, Try.underlying22, rfl, h1, h3⟩⟩
instance : TSlice Try.prog 22 58 2 24 := ⟨by obtain ⟨i, h1, h2, h3, h4⟩ := info_of info58; exact ⟨i, _, Try.underlying22, h1, h3, h4, h2, rfl, by decide⟩⟩
-- 24: impl.Recv
instance : TZero Try.prog 24 [.int .i64 0, .slice none 0 0, .int .i64 0, .int .i64 0] := ⟨by obtain ⟨i, h1, h2, h3, h4⟩ := info_of info24; exact ⟨i, _, h1, h2, rfl, h3⟩⟩
instance : TAgg Try.prog 24 4 := ⟨by obtain ⟨i, h1, h2, h3, h4⟩ := info_of info24; exact ⟨_, i, Try.underlying24, rfl, h1, h3⟩⟩
instance : TField Try.prog 24 0 0 := ⟨by obtain ⟨i, h1, h2, h3, h4⟩ := info_of info3; exact ⟨_, _, i, Try.underlying24, rfl, rfl, h1, by rw [h3]; decide⟩⟩
instance : TField Try.prog 24 1 1 := ⟨by obtain ⟨i, h1, h2, h3, h4⟩ := info_of info22; exact ⟨_, _, i, Try.underlying24, rfl, rfl, h1, by rw [h3]; decide⟩⟩
instance : TField Try.prog 24 2 2 := ⟨by obtain ⟨i, h1, h2, h3, h4⟩ := info_of info3; exact ⟨_, _, i, Try.underlying24, rfl, rfl, h1, by rw [h3]; decide⟩⟩
instance : TField Try.prog 24 3 3 := ⟨by obtain ⟨i, h1, h2, h3, h4⟩ := info_of info3; exact ⟨_, _, i, Try.underlying24, rfl, rfl, h1, by rw [h3]; decide⟩⟩
-- 30: []laws.Piece
instance : TZero Try.prog 30 [.slice none 0 0] := ⟨by obtain ⟨i, h1, h2, h3, h4⟩ := info_of info30; exact ⟨i, _, h1, h2, rfl, h3⟩⟩
instance : TOne Try.prog 30 := ⟨by obtain ⟨i, h1, h2, h3, h4⟩ := info_of info30; exact ⟨_, i, Try.underlying30, rfl, h1, h3⟩⟩
instance : TSlice Try.prog 30 76 2 24 := ⟨by obtain ⟨i, h1, h2, h3, h4⟩ := info_of info76; exact ⟨i, _, Try.underlying30, h1, h3, h4, h2, rfl, by decide⟩⟩
-- 32: laws.Recv
instance : TZero Try.prog 32 [.int .i64 0, .slice none 0 0, .int .i64 0, .int .i64 0] := ⟨by obtain ⟨i, h1, h2, h3, h4⟩ := info_of info32; exact ⟨i, _, h1, h2, rfl, h3⟩⟩
instance : TAgg Try.prog 32 4 := ⟨by obtain ⟨i, h1, h2, h3, h4⟩ := info_of info32; exact ⟨_, i, Try.underlying32, rfl, h1, h3⟩⟩
instance : TField Try.prog 32 0 0 := ⟨by obtain ⟨i, h1, h2, h3, h4⟩ := info_of info3; exact ⟨_, _, i, Try.underlying32, rfl, rfl, h1, by rw [h3]; decide⟩⟩
instance : TField Try.prog 32 1 1 := ⟨by obtain ⟨i, h1, h2, h3, h4⟩ := info_of info30; exact ⟨_, _, i, Try.underlying32, rfl, rfl, h1, by rw [h3]; decide⟩⟩
instance : TField Try.prog 32 2 2 := ⟨by obtain ⟨i, h1, h2, h3, h4⟩ := info_of info3; exact ⟨_, _, i, Try.underlying32, rfl, rfl, h1, by rw [h3]; decide⟩⟩
instance : TField Try.prog 32 3 3 := ⟨by obtain ⟨i, h1, h2, h3, h4⟩ := info_of info3; exact ⟨_, _, i, Try.underlying32, rfl, rfl, h1, by rw [h3]; decide⟩⟩
-- 40: []uint8
instance : TZero Try.prog 40 [.slice none 0 0] := ⟨by obtain ⟨i, h1, h2, h3, h4⟩ := info_of info40; exact ⟨i, _, h1, h2, rfl, h3⟩⟩
instance : TOne Try.prog 40 := ⟨by obtain ⟨i, h1, h2, h3, h4⟩ := info_of info40; exact ⟨_, i, Try.underlying40, rfl, h1, h3⟩⟩
instance : TSlice Try.prog 40 5 1 1 := ⟨by obtain ⟨i, h1, h2, h3, h4⟩ := info_of info5; exact ⟨i, _, Try.underlying40, h1, h3, h4, h2, rfl, by decide⟩⟩
-- 58: impl.Piece
instance : TZero Try.prog 58 [.int .i64 0, .string .empty] := ⟨by obtain ⟨i, h1, h2, h3, h4⟩ := info_of info58; exact ⟨i, _, h1, h2, rfl, h3⟩⟩
instance : TAgg Try.prog 58 2 := ⟨by obtain ⟨i, h1, h2, h3, h4⟩ := info_of info58; exact ⟨_, i, Try.underlying58, rfl, h1, h3⟩⟩
instance : TField Try.prog 58 0 0 := ⟨by obtain ⟨i, h1, h2, h3, h4⟩ := info_of info3; exact ⟨_, _, i, Try.underlying58, rfl, rfl, h1, by rw [h3]; decide⟩⟩
instance : TField Try.prog 58 1 1 := ⟨by obtain ⟨i, h1, h2, h3, h4⟩ := info_of info9; exact ⟨_, _, i, Try.underlying58, rfl, rfl, h1, by rw [h3]; decide⟩⟩
-- 62: *spec.l6Rd
instance : TZero Try.prog 62 [.pointer none] := ⟨by obtain ⟨i, h1, h2, h3, h4⟩ := info_of info62; exact ⟨i, _, h1, h2, rfl, h3⟩⟩
instance : TOne Try.prog 62 := ⟨by obtain ⟨i, h1, h2, h3, h4⟩ := info_of info62; exact ⟨_, i, Try.underlying62, rfl, h1, h3⟩⟩
-- 68: *impl.Piece
instance : TZero Try.prog 68 [.pointer none] := ⟨by obtain ⟨i, h1, h2, h3, h4⟩ := info_of info68; exact ⟨i, _, h1, h2, rfl, h3⟩⟩
instance : TOne Try.prog 68 := ⟨by obtain ⟨i, h1, h2, h3, h4⟩ := info_of info68; exact ⟨_, i, Try.underlying68, rfl, h1, h3⟩⟩
-- 76: laws.Piece
instance : TZero Try.prog 76 [.int .i64 0, .string .empty] := ⟨by obtain ⟨i, h1, h2, h3, h4⟩ := info_of info76; exact ⟨i, _, h1, h2, rfl, h3⟩⟩
instance : TAgg Try.prog 76 2 := ⟨by obtain ⟨i, h1, h2, h3, h4⟩ := info_of info76; exact ⟨_, i, Try.underlying76, rfl, h1, h3⟩⟩
instance : TField Try.prog 76 0 0 := ⟨by obtain ⟨i, h1, h2, h3, h4⟩ := info_of info3; exact ⟨_, _, i, Try.underlying76, rfl, rfl, h1, by rw [h3]; decide⟩⟩
instance : TField Try.prog 76 1 1 := ⟨by obtain ⟨i, h1, h2, h3, h4⟩ := info_of info9; exact ⟨_, _, i, Try.underlying76, rfl, rfl, h1, by rw [h3]; decide⟩⟩
-- 80: spec.l6Rd
instance : TZero Try.prog 80 [.slice none 0 0, .int .i64 0] := ⟨by obtain ⟨i, h1, h2, h3, h4⟩ := info_of info80; exact ⟨i, _, h1, h2, rfl, h3⟩⟩
instance : TAgg Try.prog 80 2 := ⟨by obtain ⟨i, h1, h2, h3, h4⟩ := info_of info80; exact ⟨_, i, Try.underlying80, rfl, h1, h3⟩⟩
instance : TField Try.prog 80 0 0 := ⟨by obtain ⟨i, h1, h2, h3, h4⟩ := info_of info40; exact ⟨_, _, i, Try.underlying80, rfl, rfl, h1, by rw [h3]; decide⟩⟩
instance : TField Try.prog 80 1 1 := ⟨by obtain ⟨i, h1, h2, h3, h4⟩ := info_of info3; exact ⟨_, _, i, Try.underlying80, rfl, rfl, h1, by rw [h3]; decide⟩⟩
-- 81: []int
instance : TZero Try.prog 81 [.slice none 0 0] := ⟨by obtain ⟨i, h1, h2, h3, h4⟩ := info_of info81; exact ⟨i, _, h1, h2, rfl, h3⟩⟩
instance : TOne Try.prog 81 := ⟨by obtain ⟨i, h1, h2, h3, h4⟩ := info_of info81; exact ⟨_, i, Try.underlying81, rfl, h1, h3⟩⟩
instance : TSlice Try.prog 81 3 1 8 := ⟨by obtain ⟨i, h1, h2, h3, h4⟩ := info_of info3; exact ⟨i, _, Try.underlying81, h1, h3, h4, h2, rfl, by decide⟩⟩
-- 85: []string
instance : TZero Try.prog 85 [.slice none 0 0] := ⟨by obtain ⟨i, h1, h2, h3, h4⟩ := info_of info85; exact ⟨i, _, h1, h2, rfl, h3⟩⟩
instance : TOne Try.prog 85 := ⟨by obtain ⟨i, h1, h2, h3, h4⟩ := info_of info85; exact ⟨_, i, Try.underlying85, rfl, h1, h3⟩⟩
instance : TSlice Try.prog 85 9 1 16 := ⟨by obtain ⟨i, h1, h2, h3, h4⟩ := info_of info9; exact ⟨i, _, Try.underlying85, h1, h3, h4, h2, rfl, by decide⟩⟩
-- 97: *uint8
instance : TZero Try.prog 97 [.pointer none] := ⟨by obtain ⟨i, h1, h2, h3, h4⟩ := info_of info97; exact ⟨i, _, h1, h2, rfl, h3⟩⟩
instance : TOne Try.prog 97 := ⟨by obtain ⟨i, h1, h2, h3, h4⟩ := info_of info97; exact ⟨_, i, Try.underlying97, rfl, h1, h3⟩⟩

theorem mix : Try.prog.follows .mixedOrders = true := by kernel_rfl
-- loop.example/multipathtransport/laws.FnExactRecvNew
theorem call3 : CallOK Try.prog 3 := fun _ _ => by kernel_rfl
-- loop.example/multipathtransport/laws.FnExactRecvValid
theorem call4 : CallOK Try.prog 4 := fun _ _ => by kernel_rfl
-- loop.example/multipathtransport/laws.FnExactRecvEnded
theorem call5 : CallOK Try.prog 5 := fun _ _ => by kernel_rfl
-- loop.example/multipathtransport/laws.FnExactRecvReady
theorem call6 : CallOK Try.prog 6 := fun _ _ => by kernel_rfl
-- loop.example/multipathtransport/laws.FnExactRecvGrant
theorem call7 : CallOK Try.prog 7 := fun _ _ => by kernel_rfl
-- loop.example/multipathtransport/laws.FnRecvEnded
theorem call8 : CallOK Try.prog 8 := fun _ _ => by kernel_rfl
-- loop.example/multipathtransport/laws.FnRecvGrant
theorem call9 : CallOK Try.prog 9 := fun _ _ => by kernel_rfl
-- loop.example/multipathtransport/laws.FnRecvReadSplit
theorem call10 : CallOK Try.prog 10 := fun _ _ => by kernel_rfl
-- loop.example/multipathtransport/laws.FnRecvReadLen
theorem call11 : CallOK Try.prog 11 := fun _ _ => by kernel_rfl
-- loop.example/multipathtransport/laws.FnExactRecvRead
theorem call12 : CallOK Try.prog 12 := fun _ _ => by kernel_rfl
-- loop.example/multipathtransport/laws.FnRecvConflict
theorem call13 : CallOK Try.prog 13 := fun _ _ => by kernel_rfl
-- loop.example/multipathtransport/laws.FnRecvError
theorem call14 : CallOK Try.prog 14 := fun _ _ => by kernel_rfl
-- loop.example/multipathtransport/laws.FnRecvFinal
theorem call15 : CallOK Try.prog 15 := fun _ _ => by kernel_rfl
-- loop.example/multipathtransport/laws.FnRecvOrder
theorem call16 : CallOK Try.prog 16 := fun _ _ => by kernel_rfl
-- loop.example/multipathtransport/laws.FnRecvOver
theorem call17 : CallOK Try.prog 17 := fun _ _ => by kernel_rfl
-- loop.example/multipathtransport/laws.FnRecvPutTwice
theorem call18 : CallOK Try.prog 18 := fun _ _ => by kernel_rfl
-- loop.example/multipathtransport/laws.FnRecvBytes
theorem call19 : CallOK Try.prog 19 := fun _ _ => by kernel_rfl
-- loop.example/multipathtransport/laws.FnRecvGrantPut
theorem call20 : CallOK Try.prog 20 := fun _ _ => by kernel_rfl
-- loop.example/multipathtransport/laws.FnRecvReadyPut
theorem call21 : CallOK Try.prog 21 := fun _ _ => by kernel_rfl
-- loop.example/multipathtransport/laws.FnExactRecvPut
theorem call22 : CallOK Try.prog 22 := fun _ _ => by kernel_rfl
-- loop.example/multipathtransport/spec.RecvNew
theorem call23 : CallOK Try.prog 23 := fun _ _ => by kernel_rfl
-- loop.example/multipathtransport/impl.RecvNew
theorem call24 : CallOK Try.prog 24 := fun _ _ => by kernel_rfl
-- loop.example/multipathtransport/laws.eqRecv
theorem call25 : CallOK Try.prog 25 := fun _ _ => by kernel_rfl
-- loop.example/multipathtransport/laws.markRecv
theorem call26 : CallOK Try.prog 26 := fun _ _ => by kernel_rfl
-- loop.example/multipathtransport/laws.heldRecv
theorem call27 : CallOK Try.prog 27 := fun _ _ => by kernel_rfl
-- loop.example/multipathtransport/laws.szRecv
theorem call28 : CallOK Try.prog 28 := fun _ _ => by kernel_rfl
-- loop.example/multipathtransport/spec.RecvValid
theorem call29 : CallOK Try.prog 29 := fun _ _ => by kernel_rfl
-- loop.example/multipathtransport/laws.toRecv
theorem call30 : CallOK Try.prog 30 := fun _ _ => by kernel_rfl
-- loop.example/multipathtransport/impl.RecvValid
theorem call31 : CallOK Try.prog 31 := fun _ _ => by kernel_rfl
-- loop.example/multipathtransport/spec.RecvEnded
theorem call32 : CallOK Try.prog 32 := fun _ _ => by kernel_rfl
-- loop.example/multipathtransport/impl.RecvEnded
theorem call33 : CallOK Try.prog 33 := fun _ _ => by kernel_rfl
-- loop.example/multipathtransport/spec.RecvReady
theorem call34 : CallOK Try.prog 34 := fun _ _ => by kernel_rfl
-- loop.example/multipathtransport/impl.RecvReady
theorem call35 : CallOK Try.prog 35 := fun _ _ => by kernel_rfl
-- loop.example/multipathtransport/spec.RecvGrant
theorem call36 : CallOK Try.prog 36 := fun _ _ => by kernel_rfl
-- loop.example/multipathtransport/impl.RecvGrant
theorem call37 : CallOK Try.prog 37 := fun _ _ => by kernel_rfl
-- loop.example/multipathtransport/spec.DrawRecvEnded
theorem call38 : CallOK Try.prog 38 := fun _ _ => by kernel_rfl
-- loop.example/multipathtransport/spec.DrawRecvGrant
theorem call39 : CallOK Try.prog 39 := fun _ _ => by kernel_rfl
-- loop.example/multipathtransport/laws.sameRecv
theorem call40 : CallOK Try.prog 40 := fun _ _ => by kernel_rfl
-- loop.example/multipathtransport/spec.DrawRecvRead
theorem call41 : CallOK Try.prog 41 := fun _ _ => by kernel_rfl
-- loop.example/multipathtransport/impl.RecvRead
theorem call42 : CallOK Try.prog 42 := fun _ _ => by kernel_rfl
-- loop.example/multipathtransport/spec.RecvRead
theorem call43 : CallOK Try.prog 43 := fun _ _ => by kernel_rfl
-- loop.example/multipathtransport/spec.DrawRecvPut
theorem call44 : CallOK Try.prog 44 := fun _ _ => by kernel_rfl
-- loop.example/multipathtransport/impl.RecvPut
theorem call45 : CallOK Try.prog 45 := fun _ _ => by kernel_rfl
-- loop.example/multipathtransport/spec.RecvPut
theorem call46 : CallOK Try.prog 46 := fun _ _ => by kernel_rfl
-- loop.example/multipathtransport/laws.recvHas
theorem call47 : CallOK Try.prog 47 := fun _ _ => by kernel_rfl
-- loop.example/multipathtransport/spec.l6In
theorem call48 : CallOK Try.prog 48 := fun _ _ => by kernel_rfl
-- loop.example/multipathtransport/impl.within
theorem call49 : CallOK Try.prog 49 := fun _ _ => by kernel_rfl
-- loop.example/multipathtransport/laws.eqPieceS
theorem call50 : CallOK Try.prog 50 := fun _ _ => by kernel_rfl
-- loop.example/multipathtransport/laws.markPieceS
theorem call51 : CallOK Try.prog 51 := fun _ _ => by kernel_rfl
-- loop.example/multipathtransport/laws.heldPieceS
theorem call52 : CallOK Try.prog 52 := fun _ _ => by kernel_rfl
-- loop.example/multipathtransport/laws.szPieceS
theorem call53 : CallOK Try.prog 53 := fun _ _ => by kernel_rfl
-- loop.example/multipathtransport/spec.l31End
theorem call54 : CallOK Try.prog 54 := fun _ _ => by kernel_rfl
-- loop.example/multipathtransport/laws.toPieceS
theorem call55 : CallOK Try.prog 55 := fun _ _ => by kernel_rfl
-- (loop.example/multipathtransport/impl.Piece).end
theorem call56 : CallOK Try.prog 56 := fun _ _ => by kernel_rfl
-- (loop.example/multipathtransport/impl.Recv).end
theorem call57 : CallOK Try.prog 57 := fun _ _ => by kernel_rfl
-- loop.example/multipathtransport/spec.l31Ready
theorem call58 : CallOK Try.prog 58 := fun _ _ => by kernel_rfl
-- (loop.example/multipathtransport/impl.Recv).ready
theorem call59 : CallOK Try.prog 59 := fun _ _ => by kernel_rfl
-- loop.example/multipathtransport/spec.l31Copy
theorem call60 : CallOK Try.prog 60 := fun _ _ => by kernel_rfl
-- loop.example/multipathtransport/impl.copyRecv
theorem call61 : CallOK Try.prog 61 := fun _ _ => by kernel_rfl
-- loop.example/multipathtransport/spec.l6Open
theorem call62 : CallOK Try.prog 62 := fun _ _ => by kernel_rfl
-- (*loop.example/multipathtransport/spec.l6Rd).pick
theorem call63 : CallOK Try.prog 63 := fun _ _ => by kernel_rfl
-- loop.example/multipathtransport/spec.l31Put
theorem call64 : CallOK Try.prog 64 := fun _ _ => by kernel_rfl
-- loop.example/multipathtransport/spec.l92Stream
theorem call65 : CallOK Try.prog 65 := fun _ _ => by kernel_rfl
-- loop.example/multipathtransport/spec.l31Read
theorem call66 : CallOK Try.prog 66 := fun _ _ => by kernel_rfl
-- loop.example/multipathtransport/spec.l92Recv
theorem call67 : CallOK Try.prog 67 := fun _ _ => by kernel_rfl
-- loop.example/multipathtransport/spec.l92Limit
theorem call68 : CallOK Try.prog 68 := fun _ _ => by kernel_rfl
-- slices.Delete[[]loop.example/multipathtransport/impl.Piece,loop.example/multipathtransport/impl.Piece]
theorem call69 : CallOK Try.prog 69 := fun _ _ => by kernel_rfl
-- loop.example/multipathtransport/spec.l91Data
theorem call70 : CallOK Try.prog 70 := fun _ _ => by kernel_rfl
-- (loop.example/multipathtransport/impl.Recv).conflicts
theorem call71 : CallOK Try.prog 71 := fun _ _ => by kernel_rfl
-- loop.example/multipathtransport/impl.mergedPieces
theorem call72 : CallOK Try.prog 72 := fun _ _ => by kernel_rfl
-- loop.example/multipathtransport/laws.eqPiece
theorem call73 : CallOK Try.prog 73 := fun _ _ => by kernel_rfl
-- loop.example/multipathtransport/laws.markText
theorem call74 : CallOK Try.prog 74 := fun _ _ => by kernel_rfl
-- loop.example/multipathtransport/laws.szPiece
theorem call75 : CallOK Try.prog 75 := fun _ _ => by kernel_rfl
-- loop.example/multipathtransport/laws.toPiece
theorem call76 : CallOK Try.prog 76 := fun _ _ => by kernel_rfl
-- slices.Clone[[]loop.example/multipathtransport/impl.Piece,loop.example/multipathtransport/impl.Piece]
theorem call77 : CallOK Try.prog 77 := fun _ _ => by kernel_rfl
-- loop.example/multipathtransport/spec.l31Bytes
theorem call78 : CallOK Try.prog 78 := fun _ _ => by kernel_rfl
-- loop.example/multipathtransport/spec.l31Pieces
theorem call79 : CallOK Try.prog 79 := fun _ _ => by kernel_rfl
-- (*loop.example/multipathtransport/spec.l6Rd).of
theorem call80 : CallOK Try.prog 80 := fun _ _ => by kernel_rfl
-- (loop.example/multipathtransport/impl.Recv).waiting
theorem call81 : CallOK Try.prog 81 := fun _ _ => by kernel_rfl

end Go.Proofs.Ytdilnodgamlpdaa
