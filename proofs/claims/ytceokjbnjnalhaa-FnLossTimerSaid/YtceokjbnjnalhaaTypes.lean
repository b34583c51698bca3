/- The facts on the types and the calls of this program that the walks use, read off the loaded program. No condition. -/
import Derived.Test.YtceokjbnjnalhaaChecked
import Derived.Test.YtceokjbnjnalhaaMem
import Derived.KernelRfl
namespace Go.Proofs.Ytceokjbnjnalhaa
open Go Go.RowKit

theorem info_of {P : Program} {t : TypeId} {z : Option Value} {s b : Nat} (h : (P.info? t).map (fun i => (i.zero, i.size, i.bytes)) = some (z, s, b)) : ∃ i, P.info? t = some i ∧ i.zero = z ∧ i.size = s ∧ i.bytes = b := by
  cases hi : P.info? t with
  | none => rw [hi] at h; cases h
  | some i =>
    rw [hi] at h
    simp only [Option.map_some, Option.some.injEq, Prod.mk.injEq] at h
    exact ⟨i, rfl, h.1, h.2.1, h.2.2⟩

theorem info2 : (Try.prog.info? 2).map (fun i => (i.zero, i.size, i.bytes)) = some (some (.int .i64 0), 1, 8) := by kernel_rfl
theorem info3 : (Try.prog.info? 3).map (fun i => (i.zero, i.size, i.bytes)) = some (some (.int .i64 0), 1, 8) := by kernel_rfl
theorem info4 : (Try.prog.info? 4).map (fun i => (i.zero, i.size, i.bytes)) = some (some (.bool false), 1, 1) := by kernel_rfl
theorem info5 : (Try.prog.info? 5).map (fun i => (i.zero, i.size, i.bytes)) = some (some (.int .u8 0), 1, 1) := by kernel_rfl
theorem info9 : (Try.prog.info? 9).map (fun i => (i.zero, i.size, i.bytes)) = some (some (.string .empty), 1, 16) := by kernel_rfl
theorem info22 : (Try.prog.info? 22).map (fun i => (i.zero, i.size, i.bytes)) = some (some (.slice none 0 0), 1, 24) := by kernel_rfl
theorem info24 : (Try.prog.info? 24).map (fun i => (i.zero, i.size, i.bytes)) = some (some (.agg #[.int .i64 0, .slice none 0 0, .int .i64 0]), 3, 40) := by kernel_rfl
theorem info25 : (Try.prog.info? 25).map (fun i => (i.zero, i.size, i.bytes)) = some (some (.slice none 0 0), 1, 24) := by kernel_rfl
theorem info28 : (Try.prog.info? 28).map (fun i => (i.zero, i.size, i.bytes)) = some (some (.slice none 0 0), 1, 24) := by kernel_rfl
theorem info30 : (Try.prog.info? 30).map (fun i => (i.zero, i.size, i.bytes)) = some (some (.agg #[.int .i64 0, .slice none 0 0, .int .i64 0]), 3, 40) := by kernel_rfl
theorem info31 : (Try.prog.info? 31).map (fun i => (i.zero, i.size, i.bytes)) = some (some (.slice none 0 0), 1, 24) := by kernel_rfl
theorem info35 : (Try.prog.info? 35).map (fun i => (i.zero, i.size, i.bytes)) = some (some (.slice none 0 0), 1, 24) := by kernel_rfl
theorem info47 : (Try.prog.info? 47).map (fun i => (i.zero, i.size, i.bytes)) = some (some (.slice none 0 0), 1, 24) := by kernel_rfl
theorem info52 : (Try.prog.info? 52).map (fun i => (i.zero, i.size, i.bytes)) = some (some (.agg #[.int .i64 0, .int .i64 0, .int .i64 0]), 3, 24) := by kernel_rfl
theorem info64 : (Try.prog.info? 64).map (fun i => (i.zero, i.size, i.bytes)) = some (some (.agg #[.int .i64 0, .int .i64 0]), 2, 16) := by kernel_rfl
theorem info73 : (Try.prog.info? 73).map (fun i => (i.zero, i.size, i.bytes)) = some (some (.agg #[.int .i64 0, .int .i64 0]), 2, 16) := by kernel_rfl
theorem info77 : (Try.prog.info? 77).map (fun i => (i.zero, i.size, i.bytes)) = some (some (.pointer none), 1, 8) := by kernel_rfl
theorem info86 : (Try.prog.info? 86).map (fun i => (i.zero, i.size, i.bytes)) = some (some (.agg #[.int .i64 0, .int .i64 0, .int .i64 0]), 3, 24) := by kernel_rfl
theorem info91 : (Try.prog.info? 91).map (fun i => (i.zero, i.size, i.bytes)) = some (some (.agg #[.slice none 0 0, .int .i64 0]), 2, 32) := by kernel_rfl
theorem info107 : (Try.prog.info? 107).map (fun i => (i.zero, i.size, i.bytes)) = some (some (.pointer none), 1, 8) := by kernel_rfl
-- 2: int64
instance : TZero Try.prog 2 [.int .i64 0] := ⟨by obtain ⟨i, h1, h2, h3, h4⟩ := info_of info2; exact ⟨i, _, h1, h2, rfl, h3⟩⟩
instance : TOne Try.prog 2 := ⟨by obtain ⟨i, h1, h2, h3, h4⟩ := info_of info2; exact ⟨_, i, Try.underlying2, rfl, h1, h3⟩⟩
-- 3: int
instance : TZero Try.prog 3 [.int .i64 0] := ⟨by obtain ⟨i, h1, h2, h3, h4⟩ := info_of info3; exact ⟨i, _, h1, h2, rfl, h3⟩⟩
instance : TOne Try.prog 3 := ⟨by obtain ⟨i, h1, h2, h3, h4⟩ := info_of info3; exact ⟨_, i, Try.underlying3, rfl, h1, h3⟩⟩
-- 4: bool
instance : TZero Try.prog 4 [.bool false] := ⟨by obtain ⟨i, h1, h2, h3, h4⟩ := info_of info4; exact ⟨i, _, h1, h2, rfl, h3⟩⟩
instance : TOne Try.prog 4 := ⟨by obtain ⟨i, h1, h2, h3, h4⟩ := info_of info4; exact ⟨_, i, Try.underlying4, rfl, h1, h3⟩⟩
-- 5: uint8
instance : TZero Try.prog 5 [.int .u8 0] := ⟨by obtain ⟨i, h1, h2, h3, h4⟩ := info_of info5; exact ⟨i, _, h1, h2, rfl, h3⟩⟩
instance : TOne Try.prog 5 := ⟨by obtain ⟨i, h1, h2, h3, h4⟩ := info_of info5; exact ⟨_, i, Try.underlying5, rfl, h1, h3⟩⟩
-- 9: string
instance : TZero Try.prog 9 [.string .empty] := ⟨by obtain ⟨i, h1, h2, h3, h4⟩ := info_of info9; exact ⟨i, _, h1, h2, rfl, h3⟩⟩
instance : TOne Try.prog 9 := ⟨by obtain ⟨i, h1, h2, h3, h4⟩ := info_of info9; exact ⟨_, i, Try.underlying9, rfl, h1, h3⟩⟩
-- 22: []laws.SentPacket
instance : TZero Try.prog 22 [.slice none 0 0] := ⟨by obtain ⟨i, h1, h2, h3, h4⟩ := info_of info22; exact ⟨i, _, h1, h2, rfl, h3⟩⟩
instance : TOne Try.prog 22 := ⟨by obtain ⟨i, h1, h2, h3, h4⟩ := info_of info22; exact ⟨_, i, Try.underlying22, rfl, h1, h3⟩⟩
instance : TSlice Try.prog 22 86 3 24 := ⟨by obtain ⟨i, h1, h2, h3, h4⟩ := info_of info86; exact ⟨i, _, Try.underlying22, h1, h3, h4, h2, rfl, by decide⟩⟩
-- 24: laws.Loss
instance : TZero Try.prog 24 [.int .i64 0, .slice none 0 0, .int .i64 0] := ⟨by obtain ⟨i, h1, h2, h3, h4⟩ := info_of info24; exact ⟨i, _, h1, h2, rfl, h3⟩⟩
instance : TAgg Try.prog 24 3 := ⟨by obtain ⟨i, h1, h2, h3, h4⟩ := info_of info24; exact ⟨_, i, Try.underlying24, rfl, h1, h3⟩⟩
instance : TField Try.prog 24 0 0 := ⟨by obtain ⟨i, h1, h2, h3, h4⟩ := info_of info3; exact ⟨_, _, i, Try.underlying24, rfl, rfl, h1, by rw [h3]; decide⟩⟩
instance : TField Try.prog 24 1 1 := ⟨by obtain ⟨i, h1, h2, h3, h4⟩ := info_of info22; exact ⟨_, _, i, Try.underlying24, rfl, rfl, h1, by rw [h3]; decide⟩⟩
instance : TField Try.prog 24 2 2 := ⟨by obtain ⟨i, h1, h2, h3, h4⟩ := info_of info3; exact ⟨_, _, i, Try.underlying24, rfl, rfl, h1, by rw [h3]; decide⟩⟩
-- 25: []laws.Range
instance : TZero Try.prog 25 [.slice none 0 0] := ⟨by obtain ⟨i, h1, h2, h3, h4⟩ := info_of info25; exact ⟨i, _, h1, h2, rfl, h3⟩⟩
instance : TOne Try.prog 25 := ⟨by obtain ⟨i, h1, h2, h3, h4⟩ := info_of info25; exact ⟨_, i, Try.underlying25, rfl, h1, h3⟩⟩
instance : TSlice Try.prog 25 73 2 16 := ⟨by obtain ⟨i, h1, h2, h3, h4⟩ := info_of info73; exact ⟨i, _, Try.underlying25, h1, h3, h4, h2, rfl, by decide⟩⟩
-- 28: []impl.SentPacket
instance : TZero Try.prog 28 [.slice none 0 0] := ⟨by obtain ⟨i, h1, h2, h3, h4⟩ := info_of info28; exact ⟨i, _, h1, h2, rfl, h3⟩⟩
instance : TOne Try.prog 28 := ⟨by obtain ⟨i, h1, h2, h3, h4⟩ := info_of info28; exact ⟨_, i, Try.underlying28, rfl, h1, h3⟩⟩
instance : TSlice Try.prog 28 52 3 24 := ⟨by obtain ⟨i, h1, h2, h3, h4⟩ := info_of info52; exact ⟨i, _, Try.underlying28, h1, h3, h4, h2, rfl, by decide⟩⟩
-- 30: impl.Loss
instance : TZero Try.prog 30 [.int .i64 0, .slice none 0 0, .int .i64 0] := ⟨by obtain ⟨i, h1, h2, h3, h4⟩ := info_of info30; exact ⟨i, _, h1, h2, rfl, h3⟩⟩
instance : TAgg Try.prog 30 3 := ⟨by obtain ⟨i, h1, h2, h3, h4⟩ := info_of info30; exact ⟨_, i, Try.underlying30, rfl, h1, h3⟩⟩
instance : TField Try.prog 30 0 0 := ⟨by obtain ⟨i, h1, h2, h3, h4⟩ := info_of info3; exact ⟨_, _, i, Try.underlying30, rfl, rfl, h1, by rw [h3]; decide⟩⟩
instance : TField Try.prog 30 1 1 := ⟨by obtain ⟨i, h1, h2, h3, h4⟩ := info_of info28; exact ⟨_, _, i, Try.underlying30, rfl, rfl, h1, by rw [h3]; decide⟩⟩
instance : TField Try.prog 30 2 2 := ⟨by obtain ⟨i, h1, h2, h3, h4⟩ := info_of info3; exact ⟨_, _, i, Try.underlying30, rfl, rfl, h1, by rw [h3]; decide⟩⟩
-- 31: []int
instance : TZero Try.prog 31 [.slice none 0 0] := ⟨by obtain ⟨i, h1, h2, h3, h4⟩ := info_of info31; exact ⟨i, _, h1, h2, rfl, h3⟩⟩
instance : TOne Try.prog 31 := ⟨by obtain ⟨i, h1, h2, h3, h4⟩ := info_of info31; exact ⟨_, i, Try.underlying31, rfl, h1, h3⟩⟩
instance : TSlice Try.prog 31 3 1 8 := ⟨by obtain ⟨i, h1, h2, h3, h4⟩ := info_of info3; exact ⟨i, _, Try.underlying31, h1, h3, h4, h2, rfl, by decide⟩⟩
-- 35: []impl.Range
instance : TZero Try.prog 35 [.slice none 0 0] := ⟨by obtain ⟨i, h1, h2, h3, h4⟩ := info_of info35; exact ⟨i, _, h1, h2, rfl, h3⟩⟩
instance : TOne Try.prog 35 := ⟨by obtain ⟨i, h1, h2, h3, h4⟩ := info_of info35; exact ⟨_, i, Try.underlying35, rfl, h1, h3⟩⟩
instance : TSlice Try.prog 35 64 2 16 := ⟨by obtain ⟨i, h1, h2, h3, h4⟩ := info_of info64; exact ⟨i, _, Try.underlying35, h1, h3, h4, h2, rfl, by decide⟩⟩
-- 47: []uint8
instance : TZero Try.prog 47 [.slice none 0 0] := ⟨by obtain ⟨i, h1, h2, h3, h4⟩ := info_of info47; exact ⟨i, _, h1, h2, rfl, h3⟩⟩
instance : TOne Try.prog 47 := ⟨by obtain ⟨i, h1, h2, h3, h4⟩ := info_of info47; exact ⟨_, i, Try.underlying47, rfl, h1, h3⟩⟩
instance : TSlice Try.prog 47 5 1 1 := ⟨by obtain ⟨i, h1, h2, h3, h4⟩ := info_of info5; exact ⟨i, _, Try.underlying47, h1, h3, h4, h2, rfl, by decide⟩⟩
-- 52: impl.SentPacket
instance : TZero Try.prog 52 [.int .i64 0, .int .i64 0, .int .i64 0] := ⟨by obtain ⟨i, h1, h2, h3, h4⟩ := info_of info52; exact ⟨i, _, h1, h2, rfl, h3⟩⟩
instance : TAgg Try.prog 52 3 := ⟨by obtain ⟨i, h1, h2, h3, h4⟩ := info_of info52; exact ⟨_, i, Try.underlying52, rfl, h1, h3⟩⟩
instance : TField Try.prog 52 0 0 := ⟨by obtain ⟨i, h1, h2, h3, h4⟩ := info_of info3; exact ⟨_, _, i, Try.underlying52, rfl, rfl, h1, by rw [h3]; decide⟩⟩
instance : TField Try.prog 52 1 1 := ⟨by obtain ⟨i, h1, h2, h3, h4⟩ := info_of info3; exact ⟨_, _, i, Try.underlying52, rfl, rfl, h1, by rw [h3]; decide⟩⟩
instance : TField Try.prog 52 2 2 := ⟨by obtain ⟨i, h1, h2, h3, h4⟩ := info_of info3; exact ⟨_, _, i, Try.underlying52, rfl, rfl, h1, by rw [h3]; decide⟩⟩
-- 64: impl.Range
instance : TZero Try.prog 64 [.int .i64 0, .int .i64 0] := ⟨by obtain ⟨i, h1, h2, h3, h4⟩ := info_of info64; exact ⟨i, _, h1, h2, rfl, h3⟩⟩
instance : TAgg Try.prog 64 2 := ⟨by obtain ⟨i, h1, h2, h3, h4⟩ := info_of info64; exact ⟨_, i, Try.underlying64, rfl, h1, h3⟩⟩
instance : TField Try.prog 64 0 0 := ⟨by obtain ⟨i, h1, h2, h3, h4⟩ := info_of info3; exact ⟨_, _, i, Try.underlying64, rfl, rfl, h1, by rw [h3]; decide⟩⟩
instance : TField Try.prog 64 1 1 := ⟨by obtain ⟨i, h1, h2, h3, h4⟩ := info_of info3; exact ⟨_, _, i, Try.underlying64, rfl, rfl, h1, by rw [h3]; decide⟩⟩
-- 73: laws.Range
instance : TZero Try.prog 73 [.int .i64 0, .int .i64 0] := ⟨by obtain ⟨i, h1, h2, h3, h4⟩ := info_of info73; exact ⟨i, _, h1, h2, rfl, h3⟩⟩
instance : TAgg Try.prog 73 2 := ⟨by obtain ⟨i, h1, h2, h3, h4⟩ := info_of info73; exact ⟨_, i, Try.underlying73, rfl, h1, h3⟩⟩
instance : TField Try.prog 73 0 0 := ⟨by obtain ⟨i, h1, h2, h3, h4⟩ := info_of info3; exact ⟨_, _, i, Try.underlying73, rfl, rfl, h1, by rw [h3]; decide⟩⟩
instance : TField Try.prog 73 1 1 := ⟨by obtain ⟨i, h1, h2, h3, h4⟩ := info_of info3; exact ⟨_, _, i, Try.underlying73, rfl, rfl, h1, by rw [h3]; decide⟩⟩
-- 77: *spec.l6Rd
instance : TZero Try.prog 77 [.pointer none] := ⟨by obtain ⟨i, h1, h2, h3, h4⟩ := info_of info77; exact ⟨i, _, h1, h2, rfl, h3⟩⟩
instance : TOne Try.prog 77 := ⟨by obtain ⟨i, h1, h2, h3, h4⟩ := info_of info77; exact ⟨_, i, Try.underlying77, rfl, h1, h3⟩⟩
-- 86: laws.SentPacket
instance : TZero Try.prog 86 [.int .i64 0, .int .i64 0, .int .i64 0] := ⟨by obtain ⟨i, h1, h2, h3, h4⟩ := info_of info86; exact ⟨i, _, h1, h2, rfl, h3⟩⟩
instance : TAgg Try.prog 86 3 := ⟨by obtain ⟨i, h1, h2, h3, h4⟩ := info_of info86; exact ⟨_, i, Try.underlying86, rfl, h1, h3⟩⟩
instance : TField Try.prog 86 0 0 := ⟨by obtain ⟨i, h1, h2, h3, h4⟩ := info_of info3; exact ⟨_, _, i, Try.underlying86, rfl, rfl, h1, by rw [h3]; decide⟩⟩
instance : TField Try.prog 86 1 1 := ⟨by obtain ⟨i, h1, h2, h3, h4⟩ := info_of info3; exact ⟨_, _, i, Try.underlying86, rfl, rfl, h1, by rw [h3]; decide⟩⟩
instance : TField Try.prog 86 2 2 := ⟨by obtain ⟨i, h1, h2, h3, h4⟩ := info_of info3; exact ⟨_, _, i, Try.underlying86, rfl, rfl, h1, by rw [h3]; decide⟩⟩
-- 91: spec.l6Rd
instance : TZero Try.prog 91 [.slice none 0 0, .int .i64 0] := ⟨by obtain ⟨i, h1, h2, h3, h4⟩ := info_of info91; exact ⟨i, _, h1, h2, rfl, h3⟩⟩
instance : TAgg Try.prog 91 2 := ⟨by obtain ⟨i, h1, h2, h3, h4⟩ := info_of info91; exact ⟨_, i, Try.underlying91, rfl, h1, h3⟩⟩
instance : TField Try.prog 91 0 0 := ⟨by obtain ⟨i, h1, h2, h3, h4⟩ := info_of info47; exact ⟨_, _, i, Try.underlying91, rfl, rfl, h1, by rw [h3]; decide⟩⟩
instance : TField Try.prog 91 1 1 := ⟨by obtain ⟨i, h1, h2, h3, h4⟩ := info_of info3; exact ⟨_, _, i, Try.underlying91, rfl, rfl, h1, by rw [h3]; decide⟩⟩
-- 107: *uint8
instance : TZero Try.prog 107 [.pointer none] := ⟨by obtain ⟨i, h1, h2, h3, h4⟩ := info_of info107; exact ⟨i, _, h1, h2, rfl, h3⟩⟩
instance : TOne Try.prog 107 := ⟨by obtain ⟨i, h1, h2, h3, h4⟩ := info_of info107; exact ⟨_, i, Try.underlying107, rfl, h1, h3⟩⟩

theorem mix : Try.prog.follows .mixedOrders = true := by kernel_rfl
-- loop.example/multipathtransport/laws.FnExactLossAck
theorem call3 : CallOK Try.prog 3 := fun _ _ => by kernel_rfl
-- loop.example/multipathtransport/laws.FnExactLossTimer
theorem call4 : CallOK Try.prog 4 := fun _ _ => by kernel_rfl
-- loop.example/multipathtransport/laws.FnExactLossBytes
theorem call5 : CallOK Try.prog 5 := fun _ _ => by kernel_rfl
-- loop.example/multipathtransport/laws.FnLossBytes
theorem call6 : CallOK Try.prog 6 := fun _ _ => by kernel_rfl
-- loop.example/multipathtransport/laws.FnLossSend
theorem call7 : CallOK Try.prog 7 := fun _ _ => by kernel_rfl
-- loop.example/multipathtransport/laws.FnLossSendFull
theorem call8 : CallOK Try.prog 8 := fun _ _ => by kernel_rfl
-- loop.example/multipathtransport/laws.FnExactLossSend
theorem call9 : CallOK Try.prog 9 := fun _ _ => by kernel_rfl
-- loop.example/multipathtransport/laws.FnLossTimer
theorem call10 : CallOK Try.prog 10 := fun _ _ => by kernel_rfl
-- loop.example/multipathtransport/laws.FnLossAll
theorem call11 : CallOK Try.prog 11 := fun _ _ => by kernel_rfl
-- loop.example/multipathtransport/laws.FnLossKept
theorem call12 : CallOK Try.prog 12 := fun _ _ => by kernel_rfl
-- loop.example/multipathtransport/laws.FnLossLargest
theorem call13 : CallOK Try.prog 13 := fun _ _ => by kernel_rfl
-- loop.example/multipathtransport/laws.FnLossTwice
theorem call14 : CallOK Try.prog 14 := fun _ _ => by kernel_rfl
-- loop.example/multipathtransport/laws.FnLossUnsent
theorem call15 : CallOK Try.prog 15 := fun _ _ => by kernel_rfl
-- loop.example/multipathtransport/laws.FnLossLost
theorem call16 : CallOK Try.prog 16 := fun _ _ => by kernel_rfl
-- loop.example/multipathtransport/laws.FnLossAcked
theorem call17 : CallOK Try.prog 17 := fun _ _ => by kernel_rfl
-- loop.example/multipathtransport/laws.FnLossPartition
theorem call18 : CallOK Try.prog 18 := fun _ _ => by kernel_rfl
-- loop.example/multipathtransport/laws.szLoss
theorem call19 : CallOK Try.prog 19 := fun _ _ => by kernel_rfl
-- loop.example/multipathtransport/laws.szRangeS
theorem call20 : CallOK Try.prog 20 := fun _ _ => by kernel_rfl
-- loop.example/multipathtransport/spec.LossAck
theorem call21 : CallOK Try.prog 21 := fun _ _ => by kernel_rfl
-- loop.example/multipathtransport/laws.toLoss
theorem call22 : CallOK Try.prog 22 := fun _ _ => by kernel_rfl
-- loop.example/multipathtransport/laws.toRangeS
theorem call23 : CallOK Try.prog 23 := fun _ _ => by kernel_rfl
-- loop.example/multipathtransport/impl.LossAck
theorem call24 : CallOK Try.prog 24 := fun _ _ => by kernel_rfl
-- loop.example/multipathtransport/laws.eqLoss
theorem call25 : CallOK Try.prog 25 := fun _ _ => by kernel_rfl
-- loop.example/multipathtransport/laws.eqIntS
theorem call26 : CallOK Try.prog 26 := fun _ _ => by kernel_rfl
-- loop.example/multipathtransport/laws.eqRangeS
theorem call27 : CallOK Try.prog 27 := fun _ _ => by kernel_rfl
-- loop.example/multipathtransport/laws.markLoss
theorem call28 : CallOK Try.prog 28 := fun _ _ => by kernel_rfl
-- loop.example/multipathtransport/laws.markRangeS
theorem call29 : CallOK Try.prog 29 := fun _ _ => by kernel_rfl
-- loop.example/multipathtransport/laws.markIntS
theorem call30 : CallOK Try.prog 30 := fun _ _ => by kernel_rfl
-- loop.example/multipathtransport/laws.heldLoss
theorem call31 : CallOK Try.prog 31 := fun _ _ => by kernel_rfl
-- loop.example/multipathtransport/laws.heldIntS
theorem call32 : CallOK Try.prog 32 := fun _ _ => by kernel_rfl
-- loop.example/multipathtransport/spec.LossTimer
theorem call33 : CallOK Try.prog 33 := fun _ _ => by kernel_rfl
-- loop.example/multipathtransport/impl.LossTimer
theorem call34 : CallOK Try.prog 34 := fun _ _ => by kernel_rfl
-- loop.example/multipathtransport/spec.LossBytes
theorem call35 : CallOK Try.prog 35 := fun _ _ => by kernel_rfl
-- loop.example/multipathtransport/impl.LossBytes
theorem call36 : CallOK Try.prog 36 := fun _ _ => by kernel_rfl
-- loop.example/multipathtransport/spec.DrawLossAck
theorem call37 : CallOK Try.prog 37 := fun _ _ => by kernel_rfl
-- loop.example/multipathtransport/laws.sameLoss
theorem call38 : CallOK Try.prog 38 := fun _ _ => by kernel_rfl
-- loop.example/multipathtransport/laws.sameInts
theorem call39 : CallOK Try.prog 39 := fun _ _ => by kernel_rfl
-- loop.example/multipathtransport/laws.inFlight
theorem call40 : CallOK Try.prog 40 := fun _ _ => by kernel_rfl
-- loop.example/multipathtransport/impl.LossSend
theorem call41 : CallOK Try.prog 41 := fun _ _ => by kernel_rfl
-- loop.example/multipathtransport/spec.DrawLossSend
theorem call42 : CallOK Try.prog 42 := fun _ _ => by kernel_rfl
-- loop.example/multipathtransport/spec.LossSend
theorem call43 : CallOK Try.prog 43 := fun _ _ => by kernel_rfl
-- loop.example/multipathtransport/impl.LossValid
theorem call44 : CallOK Try.prog 44 := fun _ _ => by kernel_rfl
-- loop.example/multipathtransport/spec.LossValid
theorem call45 : CallOK Try.prog 45 := fun _ _ => by kernel_rfl
-- loop.example/multipathtransport/spec.DrawLossTimer
theorem call46 : CallOK Try.prog 46 := fun _ _ => by kernel_rfl
-- loop.example/multipathtransport/laws.hasInt
theorem call47 : CallOK Try.prog 47 := fun _ _ => by kernel_rfl
-- loop.example/multipathtransport/impl.RangesHas
theorem call48 : CallOK Try.prog 48 := fun _ _ => by kernel_rfl
-- loop.example/multipathtransport/laws.szSentPacketS
theorem call49 : CallOK Try.prog 49 := fun _ _ => by kernel_rfl
-- loop.example/multipathtransport/spec.RangesValid
theorem call50 : CallOK Try.prog 50 := fun _ _ => by kernel_rfl
-- loop.example/multipathtransport/spec.l6In
theorem call51 : CallOK Try.prog 51 := fun _ _ => by kernel_rfl
-- loop.example/multipathtransport/spec.l22Ack
theorem call52 : CallOK Try.prog 52 := fun _ _ => by kernel_rfl
-- loop.example/multipathtransport/laws.toSentPacketS
theorem call53 : CallOK Try.prog 53 := fun _ _ => by kernel_rfl
-- loop.example/multipathtransport/laws.toRange
theorem call54 : CallOK Try.prog 54 := fun _ _ => by kernel_rfl
-- loop.example/multipathtransport/impl.RangesValid
theorem call55 : CallOK Try.prog 55 := fun _ _ => by kernel_rfl
-- loop.example/multipathtransport/impl.within
theorem call56 : CallOK Try.prog 56 := fun _ _ => by kernel_rfl
-- loop.example/multipathtransport/impl.has
theorem call57 : CallOK Try.prog 57 := fun _ _ => by kernel_rfl
-- loop.example/multipathtransport/laws.eqSentPacketS
theorem call58 : CallOK Try.prog 58 := fun _ _ => by kernel_rfl
-- loop.example/multipathtransport/laws.eqRange
theorem call59 : CallOK Try.prog 59 := fun _ _ => by kernel_rfl
-- loop.example/multipathtransport/laws.markSentPacketS
theorem call60 : CallOK Try.prog 60 := fun _ _ => by kernel_rfl
-- loop.example/multipathtransport/laws.heldSentPacketS
theorem call61 : CallOK Try.prog 61 := fun _ _ => by kernel_rfl
-- loop.example/multipathtransport/spec.l6Open
theorem call62 : CallOK Try.prog 62 := fun _ _ => by kernel_rfl
-- loop.example/multipathtransport/spec.l92Loss
theorem call63 : CallOK Try.prog 63 := fun _ _ => by kernel_rfl
-- loop.example/multipathtransport/spec.l91Set
theorem call64 : CallOK Try.prog 64 := fun _ _ => by kernel_rfl
-- (*loop.example/multipathtransport/spec.l6Rd).pick
theorem call65 : CallOK Try.prog 65 := fun _ _ => by kernel_rfl
-- loop.example/multipathtransport/spec.l91Ranges
theorem call66 : CallOK Try.prog 66 := fun _ _ => by kernel_rfl
-- loop.example/multipathtransport/spec.l92Now
theorem call67 : CallOK Try.prog 67 := fun _ _ => by kernel_rfl
-- loop.example/multipathtransport/impl.copyLoss
theorem call68 : CallOK Try.prog 68 := fun _ _ => by kernel_rfl
-- loop.example/multipathtransport/spec.l22Send
theorem call69 : CallOK Try.prog 69 := fun _ _ => by kernel_rfl
-- loop.example/multipathtransport/spec.l2Has
theorem call70 : CallOK Try.prog 70 := fun _ _ => by kernel_rfl
-- loop.example/multipathtransport/laws.toSentPacket
theorem call71 : CallOK Try.prog 71 := fun _ _ => by kernel_rfl
-- slices.ContainsFunc[[]loop.example/multipathtransport/impl.Range,loop.example/multipathtransport/impl.Range]
theorem call72 : CallOK Try.prog 72 := fun _ _ => by kernel_rfl
-- loop.example/multipathtransport/impl.has$1
theorem call73 : CallOK Try.prog 73 := fun _ _ => by kernel_rfl
-- loop.example/multipathtransport/laws.eqSentPacket
theorem call74 : CallOK Try.prog 74 := fun _ _ => by kernel_rfl
-- loop.example/multipathtransport/spec.LossNew
theorem call75 : CallOK Try.prog 75 := fun _ _ => by kernel_rfl
-- loop.example/multipathtransport/spec.l2Add
theorem call76 : CallOK Try.prog 76 := fun _ _ => by kernel_rfl
-- slices.Clone[[]loop.example/multipathtransport/impl.SentPacket,loop.example/multipathtransport/impl.SentPacket]
theorem call77 : CallOK Try.prog 77 := fun _ _ => by kernel_rfl
-- loop.example/multipathtransport/spec.l22Copy
theorem call78 : CallOK Try.prog 78 := fun _ _ => by kernel_rfl
-- slices.IndexFunc[[]loop.example/multipathtransport/impl.Range,loop.example/multipathtransport/impl.Range]
theorem call79 : CallOK Try.prog 79 := fun _ _ => by kernel_rfl

end Go.Proofs.Ytceokjbnjnalhaa
