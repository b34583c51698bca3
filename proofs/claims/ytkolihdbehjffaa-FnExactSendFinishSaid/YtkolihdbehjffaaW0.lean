/- The sending side of a stream in the walks. No condition. -/
import Derived.Test.YtkolihdbehjffaaS8
import Derived.Test.YtkolihdbehjffaaTypes
namespace Go.Proofs.Ytkolihdbehjffaa
open Go Go.RowKit
set_option linter.unusedSimpArgs false
set_option linter.unusedVariables false

theorem get_of {α : Type} {l : List α} {k : Nat} (h : k < l.length) : ∃ x, l[k]? = some x := ⟨_, List.getElem?_eq_getElem h⟩
theorem take_succ_of {α : Type} {l : List α} {k : Nat} {x : α} (h : l[k]? = some x) : l.take (k + 1) = l.take k ++ [x] := by
  rw [List.take_add_one, h]; rfl
theorem drop_of {α : Type} {l : List α} {k : Nat} {x : α} (h : l[k]? = some x) : l.drop k = x :: l.drop (k + 1) := by
  obtain ⟨h1, rfl⟩ := List.getElem?_eq_some_iff.1 h
  exact List.drop_eq_getElem_cons h1
theorem take_eq_succ {α : Type} {l m : List α} {k : Nat} {x : α} (h : l.take k = m.take k) (hx : l[k]? = some x) (hy : m[k]? = some x) : l.take (k + 1) = m.take (k + 1) := by
  rw [take_succ_of hx, take_succ_of hy, h]
structure Rng where
  lo : Int
  hi : Int
def Rng.cells (r : Rng) : List Value := [.int .i64 r.lo, .int .i64 r.hi]
def Rngs (w : World) (v : Value) (rs : List Rng) : Prop := Slc w v 2 (rs.map Rng.cells)
theorem Rngs.at {rs : List Rng} {k : Nat} {x : Rng} (hx : rs[k]? = some x) : (rs.map Rng.cells)[(k : Int).toNat]? = some x.cells := by simp [hx]
theorem Rngs.le {w : World} {v : Value} {rs : List Rng} (h : Rngs w v rs) : rs.length ≤ 9223372036854775807 := by
  have := Slc.le h; rwa [List.length_map] at this
theorem Rng.ones (rs : List Rng) : (rs.map Rng.cells).all (fun el => el.all Value.oneCell') = true := by
  rw [List.all_map, List.all_eq_true]
  intro p _
  rfl
theorem Rng.ext2 {p q : Rng} (h1 : p.lo = q.lo) (h2 : p.hi = q.hi) : p = q := by cases p; cases q; simp only at h1 h2; subst h1 h2; rfl
/-- a sending side -/
structure Snd where
  dat : List UInt8
  fin : Bool
  lim : Int
  next : Int
  ack : List Rng
  lost : List Rng
def Snd.nil : Snd := ⟨[], false, 0, 0, [], []⟩
def Snd.cells (S : Snd) (a l : Value) : List Value := [sv S.dat, .bool S.fin, .int .i64 S.lim, .int .i64 S.next, a, l]
theorem Snd.ext6 {S T : Snd} (h1 : S.dat = T.dat) (h2 : S.fin = T.fin) (h3 : S.lim = T.lim) (h4 : S.next = T.next) (h5 : S.ack = T.ack) (h6 : S.lost = T.lost) : S = T := by
  cases S; cases T; simp only at h1 h2 h3 h4 h5 h6; subst h1 h2 h3 h4 h5 h6; rfl
def SnT (S : Snd) (x : Value) : Value → Asr → Asr → Prop := fun v a b => ∃ av g lv h, v = .tuple #[.agg (S.cells av lv).toArray, x] ∧ a = .own av 60 2 g (S.ack.map Rng.cells) ∧ b = .own lv 60 2 h (S.lost.map Rng.cells)
def SnA (S : Snd) : Value → Asr → Asr → Prop := fun v a b => ∃ av g lv h, v = .agg (S.cells av lv).toArray ∧ a = .own av 60 2 g (S.ack.map Rng.cells) ∧ b = .own lv 60 2 h (S.lost.map Rng.cells)
def Rng.mark (k : Int) (j : Nat) : Rng := ⟨k + 2 * j, k + 2 * j + 1⟩
def Rng.marked (k : Int) (n : Nat) : List Rng := (List.range n).map (Rng.mark k)
theorem marked_len (k : Int) (n : Nat) : (Rng.marked k n).length = n := by simp [Rng.marked]
theorem marked_get {k : Int} {n j : Nat} (h : j < n) : (Rng.marked k n)[j]? = some (Rng.mark k j) := by simp [Rng.marked, h]
theorem marked_succ (k : Int) (j : Nat) : Rng.marked k (j + 1) = Rng.marked k j ++ [Rng.mark k j] := by simp [Rng.marked, List.range_succ]
def mk1 (k : Int) (ps : List Rng) (j : Nat) : List Rng := Rng.marked k j ++ ps.drop j
theorem mk1_zero (k : Int) (ps : List Rng) : mk1 k ps 0 = ps := by simp [mk1, Rng.marked]
theorem mk1_all (k : Int) (ps : List Rng) : mk1 k ps ps.length = Rng.marked k ps.length := by simp [mk1]
theorem mk1_len {k : Int} {ps : List Rng} {j : Nat} (h : j ≤ ps.length) : (mk1 k ps j).length = ps.length := by simp [mk1, marked_len]; omega
theorem mk1_get {k : Int} {ps : List Rng} {j : Nat} {x : Rng} (h : ps[j]? = some x) : (mk1 k ps j)[j]? = some x := by
  unfold mk1
  rw [List.getElem?_append_right (by rw [marked_len]; exact Nat.le_refl _), marked_len, Nat.sub_self, List.getElem?_drop]
  simpa using h
theorem mk1_set {k : Int} {ps : List Rng} {j : Nat} {x : Rng} (h : ps[j]? = some x) : (mk1 k ps j).set j (Rng.mark k j) = mk1 k ps (j + 1) := by
  unfold mk1
  rw [drop_of h, List.set_append_right _ _ (by rw [marked_len]; exact Nat.le_refl _), marked_len, Nat.sub_self, marked_succ]
  simp
def i64 (n : Int) : Prop := -9223372036854775808 ≤ n ∧ n ≤ 9223372036854775807
end Go.Proofs.Ytkolihdbehjffaa
