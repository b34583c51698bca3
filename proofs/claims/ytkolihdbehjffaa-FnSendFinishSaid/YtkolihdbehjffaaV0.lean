/- Sending sides as plain data: sets of positions, validity. No condition. -/
import Derived.Test.YtkolihdbehjffaaW0
namespace Go.Proofs.Ytkolihdbehjffaa
open Go Go.RowKit
set_option linter.unusedSimpArgs false
set_option linter.unusedVariables false

def NormG : Int → List Rng → Prop
  | _, [] => True
  | last, r :: rs => last + 2 ≤ r.lo ∧ r.lo ≤ r.hi ∧ r.hi ≤ 999 ∧ NormG r.hi rs
def validG (rs : List Rng) : Prop := rs.length ≤ 16 ∧ NormG (-2) rs
def hasG (rs : List Rng) (n : Int) : Prop := ∃ r ∈ rs, r.lo ≤ n ∧ n ≤ r.hi
def lastHi : Int → List Rng → Int
  | last, [] => last
  | _, r :: rs => lastHi r.hi rs
def cntG : List Rng → Int
  | [] => 0
  | r :: rs => r.hi - r.lo + 1 + cntG rs
def posS (S : Snd) : Int := S.dat.length + cond S.fin 1 0
def baseS (S : Snd) : Prop := S.dat.length ≤ 30 ∧ (0 ≤ S.lim ∧ S.lim ≤ 30) ∧ (0 ≤ S.next ∧ S.next ≤ posS S) ∧ min S.next S.dat.length ≤ S.lim
def setG (S : Snd) (rs : List Rng) : Prop := validG rs ∧ lastHi (-1) rs < S.next
def disjG (S : Snd) (k : Int) : Prop := ∀ n : Int, 0 ≤ n → n < k → ¬ (hasG S.ack n ∧ hasG S.lost n)
def refG (S : Snd) (k : Int) : Prop := ∀ n : Int, 0 ≤ n → n < k → ¬ (hasG S.ack n ∧ hasG S.lost n) ∧ (hasG S.ack n ∨ hasG S.lost n → n < S.next)
def validS (S : Snd) : Prop := baseS S ∧ setG S S.ack ∧ setG S S.lost ∧ disjG S S.next
theorem norm_step {last : Int} {x : Rng} {r : List Rng} (h1 : last + 2 ≤ x.lo) (h2 : x.lo ≤ x.hi) (h3 : x.hi ≤ 999) : NormG last (x :: r) ↔ NormG x.hi r := ⟨fun h => h.2.2.2, fun h => ⟨h1, h2, h3, h⟩⟩
theorem NormG.mem {last : Int} {rs : List Rng} (h : NormG last rs) : ∀ r ∈ rs, last + 2 ≤ r.lo ∧ r.lo ≤ r.hi ∧ r.hi ≤ 999 := by
  induction rs generalizing last with
  | nil => intro r hr; cases hr
  | cons x l ih =>
    intro r hr
    obtain ⟨h1, h2, h3, h4⟩ := h
    rcases List.mem_cons.1 hr with rfl | hr
    · exact ⟨h1, h2, h3⟩
    · have := ih h4 r hr; omega
theorem has_le {last d : Int} {rs : List Rng} {n : Int} (h : NormG last rs) (hn : hasG rs n) : n ≤ lastHi d rs := by
  induction rs generalizing last d with
  | nil => obtain ⟨r, hr, _⟩ := hn; cases hr
  | cons x l ih =>
    obtain ⟨h1, h2, h3, h4⟩ := h
    obtain ⟨r, hr, ha, hb⟩ := hn
    show n ≤ lastHi x.hi l
    rcases List.mem_cons.1 hr with rfl | hr
    · clear ih
      have key : ∀ (l : List Rng) (d : Int), NormG d l → d ≤ lastHi d l := by
        intro l
        induction l with
        | nil => intro d _; exact Int.le_refl _
        | cons y m ih =>
          intro d hd
          have := ih y.hi hd.2.2.2
          have := hd.1; have := hd.2.1
          show d ≤ lastHi y.hi m
          omega
      have := key l _ h4
      omega
    · exact ih h4 ⟨r, hr, ha, hb⟩
theorem last_has {last d : Int} {rs : List Rng} (h : NormG last rs) (hne : rs ≠ []) : hasG rs (lastHi d rs) ∧ last + 2 ≤ lastHi d rs ∧ lastHi d rs ≤ 999 := by
  induction rs generalizing last d with
  | nil => exact absurd rfl hne
  | cons x l ih =>
    obtain ⟨h1, h2, h3, h4⟩ := h
    by_cases hl : l = []
    · subst hl
      exact ⟨⟨x, by simp, h2, Int.le_refl _⟩, by show last + 2 ≤ x.hi; omega, h3⟩
    · obtain ⟨⟨r, hr, ha⟩, hb, hc⟩ := ih (d := x.hi) h4 hl
      exact ⟨⟨r, by simp [hr], ha⟩, by show last + 2 ≤ lastHi x.hi l; omega, hc⟩
theorem lastHi_get {d : Int} {rs : List Rng} {r : Rng} (h : rs.getLast? = some r) : lastHi d rs = r.hi := by
  induction rs generalizing d with
  | nil => cases h
  | cons x l ih =>
    cases l with
    | nil => simp at h; subst h; rfl
    | cons y m => exact ih (d := x.hi) (by rw [List.getLast?_cons_cons] at h; exact h)
theorem pos_le {S : Snd} (h : baseS S) : S.next ≤ 31 := by
  obtain ⟨h1, _, h3, _⟩ := h
  have : posS S ≤ S.dat.length + 1 := by unfold posS; cases S.fin <;> simp only [cond] <;> omega
  omega
theorem set_of {S : Snd} {rs : List Rng} (hb : baseS S) (h : validG rs) (hn : ∀ n, 0 ≤ n → n ≤ 999 → hasG rs n → n < S.next) : lastHi (-1) rs < S.next := by
  by_cases he : rs = []
  · subst he; have := hb.2.2.1.1; show (-1 : Int) < _; omega
  · obtain ⟨a, b, c⟩ := last_has (d := -1) h.2 he
    exact hn _ (by omega) c a
theorem valid_ref {S : Snd} (hb : baseS S) (ha : validG S.ack) (hl : validG S.lost) : refG S 1000 ↔ (lastHi (-1) S.ack < S.next ∧ lastHi (-1) S.lost < S.next ∧ disjG S S.next) := by
  constructor
  · intro h
    refine ⟨set_of hb ha (fun n h0 h1 hn => (h n h0 (by omega)).2 (.inl hn)), set_of hb hl (fun n h0 h1 hn => (h n h0 (by omega)).2 (.inr hn)), fun n h0 h1 => (h n h0 (by have := pos_le hb; omega)).1⟩
  · rintro ⟨h1, h2, h3⟩ n h0 hn
    have key : hasG S.ack n ∨ hasG S.lost n → n < S.next := fun h => by
      rcases h with h | h
      · have := has_le (d := -1) ha.2 h; omega
      · have := has_le (d := -1) hl.2 h; omega
    exact ⟨fun h => h3 n h0 (key (.inl h.1)) h, key⟩
theorem hasG_at {rs : List Rng} {n : Int} {k : Nat} {r : Rng} (hr : rs[k]? = some r) (h : r.lo ≤ n ∧ n ≤ r.hi) : hasG rs n := ⟨r, List.mem_of_getElem? hr, h⟩
def NotG (rs : List Rng) (n : Int) (k : Nat) : Prop := ∀ (j : Nat) r, j < k → rs[j]? = some r → ¬ (r.lo ≤ n ∧ n ≤ r.hi)
theorem NotG.succ {rs : List Rng} {n : Int} {k : Nat} {r : Rng} (h : NotG rs n k) (hr : rs[k]? = some r) (hn : ¬ (r.lo ≤ n ∧ n ≤ r.hi)) : NotG rs n (k + 1) := fun j x hj hx => by
  by_cases hjk : j < k
  · exact h j x hjk hx
  · obtain rfl : j = k := by omega
    rw [hr] at hx; cases hx; exact hn
theorem NotG.all {rs : List Rng} {n : Int} (h : NotG rs n rs.length) : ¬ hasG rs n := fun ⟨r, hr, h'⟩ => by
  obtain ⟨k, hk⟩ := List.mem_iff_getElem?.1 hr
  exact h k r (List.getElem?_eq_some_iff.1 hk).1 hk h'
end Go.Proofs.Ytkolihdbehjffaa
