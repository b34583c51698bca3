/- Reading in two steps, and its length, as plain data. No condition. -/
import Derived.Test.YtdilnodgamlpdaaR8
namespace Go.Proofs.Ytdilnodgamlpdaa
open Go Go.RowKit
set_option linter.unusedVariables false
theorem rd_split {R : Rcv} {n b : Int} (h : validR R) (hn : 0 ≤ n) (hb : 0 ≤ b) (hs : n + b ≤ 30) : rdO R (n + b) = rdO (rdO R n) b ∧ rdS R (n + b) = rdS R n ++ rdS (rdO R n) b := by
  have hv2 := read_valid h (Nat.min_le_right n.toNat (readyR R))
  have e := ready_read h (Nat.min_le_right n.toNat (readyR R))
  obtain ⟨a1, a2⟩ := rd_yes (R := R) (n := n) ⟨h, by omega⟩
  obtain ⟨b1, b2⟩ := rd_yes (R := readR R (min n.toNat (readyR R))) (n := b) ⟨hv2, by omega⟩
  obtain ⟨c1, c2⟩ := rd_yes (R := R) (n := n + b) ⟨h, by omega⟩
  have e2 : min (n + b).toNat (readyR R) = min n.toNat (readyR R) + min b.toNat (readyR (readR R (min n.toNat (readyR R)))) := by rw [e]; omega
  rw [a2, a1, b1, b2, c1, c2, e2]
  exact ⟨(read_two h (by omega)).symm, (readS_two h (by omega)).symm⟩
theorem rd_valid {R : Rcv} {n : Int} (h : validR R) (hn : 0 ≤ n ∧ n ≤ 30) : validR (rdO R n) := by
  rw [(rd_yes ⟨h, hn⟩).1]; exact read_valid h (Nat.min_le_right _ _)
theorem rdS_len {R : Rcv} {n : Int} (h : validR R) (hn : 0 ≤ n ∧ n ≤ 30) : ((rdS R n).length : Int) = min n (readyR R) := by
  rw [(rd_yes ⟨h, hn⟩).2, readS_len h (Nat.min_le_right _ _)]; omega
theorem rd_ready {R : Rcv} {n : Int} (h : validR R) (hn : 0 ≤ n ∧ n ≤ 30) : (readyR (rdO R n) : Int) = readyR R - min n (readyR R) := by
  rw [(rd_yes ⟨h, hn⟩).1, ready_read h (Nat.min_le_right _ _)]; omega
theorem rd_read {R : Rcv} {n : Int} (h : validR R) (hn : 0 ≤ n ∧ n ≤ 30) : (rdO R n).read = R.read + min n (readyR R) := by
  rw [(rd_yes ⟨h, hn⟩).1]
  unfold readR
  split
  · rename_i e
    show R.read = _
    omega
  · show R.read + ((min n.toNat (readyR R) : Nat) : Int) = _
    omega
theorem rdS_30 {R : Rcv} {n : Int} (h : validR R) (hn : 0 ≤ n ∧ n ≤ 30) : (rdS R n).length ≤ 30 := by
  have := rdS_len h hn; omega
theorem neqSame (l : List UInt8) : (!decide (l = l)) = false := by simp
theorem eqSame (l : List UInt8) : decide (l = l) = true := by simp
end Go.Proofs.Ytdilnodgamlpdaa
