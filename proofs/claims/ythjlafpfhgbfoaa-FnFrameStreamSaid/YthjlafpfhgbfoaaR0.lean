/- The receiving side of a stream in the walks. No condition. -/
import Derived.Test.YthjlafpfhgbfoaaN5
import Derived.Test.YthjlafpfhgbfoaaStr2
import Derived.Test.YthjlafpfhgbfoaaS5
import Derived.Test.YthjlafpfhgbfoaaTypes
namespace Go.Proofs.Ythjlafpfhgbfoaa
open Go Go.RowKit
set_option linter.unusedSimpArgs false
set_option linter.unusedVariables false

theorem get_of {α : Type} {l : List α} {k : Nat} (h : k < l.length) : ∃ x, l[k]? = some x := ⟨_, List.getElem?_eq_getElem h⟩
theorem take_succ_of {α : Type} {l : List α} {k : Nat} {x : α} (h : l[k]? = some x) : l.take (k + 1) = l.take k ++ [x] := by
  rw [List.take_add_one, h]; rfl
theorem drop_of {α : Type} {l : List α} {k : Nat} {x : α} (h : l[k]? = some x) : l.drop k = x :: l.drop (k + 1) := by
  obtain ⟨h1, rfl⟩ := List.getElem?_eq_some_iff.1 h
  exact List.drop_eq_getElem_cons h1
theorem take_eq_succ {α : Type} {l m : List α} {k : Nat} {x : α} (h : l.take k = m.take k) (hx : l[k]? = some x) (hy : m[k]? = some x) : l.take (k + 1) = m.take (k + 1) := by
  rw [take_succ_of hx, take_succ_of hy, h]
def icell (i : Int) : List Value := [.int .i64 i]
def Ints (w : World) (v : Value) (is : List Int) : Prop := Slc w v 1 (is.map icell)
theorem Ints.at {is : List Int} {k : Nat} {x : Int} (hx : is[k]? = some x) : (is.map icell)[(k : Int).toNat]? = some [.int .i64 x] := by simp [hx, icell]
def Pc.cells (p : Pc) : List Value := [.int .i64 p.off, sv p.dat]
def Rcv.cells (R : Rcv) (v : Value) : List Value := [.int .i64 R.read, v, .int .i64 R.fin, .int .i64 R.lim]
def Pcs (w : World) (v : Value) (ps : List Pc) : Prop := Slc w v 2 (ps.map Pc.cells)
theorem Pcs.at {ps : List Pc} {k : Nat} {x : Pc} (hx : ps[k]? = some x) : (ps.map Pc.cells)[(k : Int).toNat]? = some x.cells := by simp [hx]
theorem Pcs.ext {w w' : World} {v : Value} {ps : List Pc} (h : Pcs w v ps) (m : Ext w w') : Pcs w' v ps := Slc.ext h m
theorem Pcs.le {w : World} {v : Value} {ps : List Pc} (h : Pcs w v ps) : ps.length ≤ 9223372036854775807 := by
  have := Slc.le h; rwa [List.length_map] at this
theorem Pc.ones (ps : List Pc) : (ps.map Pc.cells).all (fun el => el.all Value.oneCell') = true := by
  rw [List.all_map, List.all_eq_true]
  intro p _
  rfl
def i64 (n : Int) : Prop := -9223372036854775808 ≤ n ∧ n ≤ 9223372036854775807
def wfR (R : Rcv) : Prop := i64 R.read ∧ i64 R.fin ∧ i64 R.lim ∧ ∀ p ∈ R.ps, i64 p.off ∧ p.dat.length ≤ 9223372036854775807
theorem wf_nil : wfR Rcv.nil := ⟨by unfold i64 Rcv.nil; simp only; omega, by unfold i64 Rcv.nil; simp only; omega, by unfold i64 Rcv.nil; simp only; omega, fun p hp => by cases hp⟩
theorem wf_valid {R : Rcv} (h : validR R) : wfR R := by
  obtain ⟨v1, v2, v3, v4, v5⟩ := h
  refine ⟨by unfold i64; omega, ?_, by unfold i64; omega, fun p hp => ?_⟩
  · have := top_ge v3
    unfold i64; omega
  · have := top_of v3 hp
    unfold Pc.fin at this
    unfold i64
    omega
/-- a receiving side whose pieces are the call's own, with one more result -/
def RcT (R : Rcv) (x : Value) : Value → Asr → Prop := fun v a => ∃ fv g, v = .tuple #[.agg (R.cells fv).toArray, x] ∧ a = .own fv 51 2 g (R.ps.map Pc.cells)
/-- a receiving side whose pieces are the call's own -/
def RcA (R : Rcv) : Value → Asr → Prop := fun v a => ∃ fv g, v = .agg (R.cells fv).toArray ∧ a = .own fv 51 2 g (R.ps.map Pc.cells)
def PcA (ps : List Pc) : Value → Asr → Prop := fun v a => ∃ g, a = .own v 51 2 g (ps.map Pc.cells)

theorem Pc.ext2 {p q : Pc} (h1 : p.off = q.off) (h2 : p.dat = q.dat) : p = q := by cases p; cases q; simp only at h1 h2; subst h1 h2; rfl

/-! the marks -/
def dig (n : Nat) : List UInt8 := if h : n = 0 then [] else dig (n / 10) ++ [UInt8.ofNat (48 + n % 10)]
termination_by n
decreasing_by omega
theorem dig_zero : dig 0 = [] := by unfold dig; rw [dif_pos rfl]
theorem dig_step {n : Nat} (h : n ≠ 0) : dig n = dig (n / 10) ++ [UInt8.ofNat (48 + n % 10)] := by
  conv => lhs; unfold dig
  rw [dif_neg h]
theorem dig_len (n : Nat) : (dig n).length ≤ n := by
  induction n using Nat.strongRecOn with
  | ind n ih =>
    by_cases h : n = 0
    · subst h; rw [dig_zero]; exact Nat.le_refl _
    · rw [dig_step h, List.length_append]
      have := ih (n / 10) (by omega)
      simp only [List.length_cons, List.length_nil]
      omega
def mkT (k : Int) : List UInt8 := if k ≤ 0 then [109, 48] else 109 :: dig k.toNat
def Pc.mark (k : Int) (j : Nat) : Pc := ⟨k + 2 * j, mkT (k + 2 * j + 1)⟩
def Pc.marked (k : Int) (n : Nat) : List Pc := (List.range n).map (Pc.mark k)
theorem marked_len (k : Int) (n : Nat) : (Pc.marked k n).length = n := by simp [Pc.marked]
theorem marked_get {k : Int} {n j : Nat} (h : j < n) : (Pc.marked k n)[j]? = some (Pc.mark k j) := by simp [Pc.marked, h]
theorem marked_succ (k : Int) (j : Nat) : Pc.marked k (j + 1) = Pc.marked k j ++ [Pc.mark k j] := by simp [Pc.marked, List.range_succ]
/-- the first j marked -/
def mk1 (k : Int) (ps : List Pc) (j : Nat) : List Pc := Pc.marked k j ++ ps.drop j
theorem mk1_zero (k : Int) (ps : List Pc) : mk1 k ps 0 = ps := by simp [mk1, Pc.marked]
theorem mk1_all (k : Int) (ps : List Pc) : mk1 k ps ps.length = Pc.marked k ps.length := by simp [mk1]
theorem mk1_len {k : Int} {ps : List Pc} {j : Nat} (h : j ≤ ps.length) : (mk1 k ps j).length = ps.length := by simp [mk1, marked_len]; omega
theorem mk1_get {k : Int} {ps : List Pc} {j : Nat} {x : Pc} (h : ps[j]? = some x) : (mk1 k ps j)[j]? = some x := by
  unfold mk1
  rw [List.getElem?_append_right (by rw [marked_len]; exact Nat.le_refl _), marked_len, Nat.sub_self, List.getElem?_drop]
  simpa using h
theorem mk1_set {k : Int} {ps : List Pc} {j : Nat} {x : Pc} (h : ps[j]? = some x) : (mk1 k ps j).set j (Pc.mark k j) = mk1 k ps (j + 1) := by
  unfold mk1
  rw [drop_of h, List.set_append_right _ _ (by rw [marked_len]; exact Nat.le_refl _), marked_len, Nat.sub_self, marked_succ]
  simp
end Go.Proofs.Ythjlafpfhgbfoaa
