/- The sending side of a stream in the walks. No condition. -/
import Derived.Test.YtkolihdbehjffaaS8
import Derived.Test.YtkolihdbehjffaaTypes
namespace Go.Proofs.Ytkolihdbehjffaa
open Go Go.RowKit
set_option linter.unusedSimpArgs false
set_option linter.unusedVariables false

theorem get_of {α : Type} {l : List α} {k : Nat} (h : k < l.length) : ∃ x, l[k]? = some x := ⟨_, List.getElem?_eq_getElem h⟩
theorem take_succ_of {α : Type} {l : List α} {k : Nat} {x : α} (h : l[k]? = some x) : l.take (k + 1) = l.take k ++ [x] := by
  rw [List.take_add_one, h]; rfl
theorem drop_of {α : Type} {l : List α} {k : Nat} {x : α} (h : l[k]? = some x) : l.drop k = x :: l.drop (k + 1) := by
  obtain ⟨h1, rfl⟩ := List.getElem?_eq_some_iff.1 h
  exact List.drop_eq_getElem_cons h1
theorem take_eq_succ {α : Type} {l m : List α} {k : Nat} {x : α} (h : l.take k = m.take k) (hx : l[k]? = some x) (hy : m[k]? = some x) : l.take (k + 1) = m.take (k + 1) := by
  rw [take_succ_of hx, take_succ_of hy, h]
structure Rng where
  lo : Int
  hi : Int
def Rng.cells (r : Rng) : List Value := [.int .i64 r.lo, .int .i64 r.hi]
def Rngs (w : World) (v : Value) (rs : List Rng) : Prop := Slc w v 2 (rs.map Rng.cells)
theorem Rngs.at {rs : List Rng} {k : Nat} {x : Rng} (hx : rs[k]? = some x) : (rs.map Rng.cells)[(k : Int).toNat]? = some x.cells := by simp [hx]
theorem Rngs.le {w : World} {v : Value} {rs : List Rng} (h : Rngs w v rs) : rs.length ≤ 9223372036854775807 := by
  have := Slc.le h; rwa [List.length_map] at this
theorem Rng.ones (rs : List Rng) : (rs.map Rng.cells).all (fun el => el.all Value.oneCell') = true := by
  rw [List.all_map, List.all_eq_true]
  intro p _
  rfl
theorem Rng.ext2 {p q : Rng} (h1 : p.lo = q.lo) (h2 : p.hi = q.hi) : p = q := by cases p; cases q; simp only at h1 h2; subst h1 h2; rfl
/-- a sending side -/
structure Snd where
  dat : List UInt8
  fin : Bool
  lim : Int
  next : Int
  ack : List Rng
  lost : List Rng
def Snd.nil : Snd := ⟨[], false, 0, 0, [], []⟩
def Snd.cells (S : Snd) (a l : Value) : List Value := [sv S.dat, .bool S.fin, .int .i64 S.lim, .int .i64 S.next, a, l]
def SnT (S : Snd) (x : Value) : Value → Asr → Asr → Prop := fun v a b => ∃ av g lv h, v = .tuple #[.agg (S.cells av lv).toArray, x] ∧ a = .own av 60 2 g (S.ack.map Rng.cells) ∧ b = .own lv 60 2 h (S.lost.map Rng.cells)
def SnA (S : Snd) : Value → Asr → Asr → Prop := fun v a b => ∃ av g lv h, v = .agg (S.cells av lv).toArray ∧ a = .own av 60 2 g (S.ack.map Rng.cells) ∧ b = .own lv 60 2 h (S.lost.map Rng.cells)
def Rng.mark (k : Int) (j : Nat) : Rng := ⟨k + 2 * j, k + 2 * j + 1⟩
def Rng.marked (k : Int) (n : Nat) : List Rng := (List.range n).map (Rng.mark k)
def mk1 (k : Int) (ps : List Rng) (j : Nat) : List Rng := Rng.marked k j ++ ps.drop j
def i64 (n : Int) : Prop := -9223372036854775808 ≤ n ∧ n ≤ 9223372036854775807
end Go.Proofs.Ytkolihdbehjffaa
