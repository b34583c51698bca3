/- Bytes laid out by number, piece after piece; new bytes laid over them. No condition. -/
import Derived.Test.YthjlafpfhgbfoaaN5
namespace Go.Proofs.Ythjlafpfhgbfoaa
set_option linter.unusedSimpArgs false
set_option linter.unusedVariables false

theorem arr_none : arr (fun _ => none) = List.replicate 30 (-1) := by rw [arr_def]; decide
theorem at_take_at {off : Int} {dat : List UInt8} {k : Nat} {b : UInt8} (hb : dat[k]? = some b) (m : Int) : Pc.at ⟨off, dat.take (k + 1)⟩ m = if m = off + k then some b else Pc.at ⟨off, dat.take k⟩ m := by
  by_cases h : m = off + k
  · subst h
    rw [if_pos rfl, Pc.at_eq (by simp only; omega)]
    simp only
    rw [show (off + (k : Int) - off).toNat = k by omega, List.getElem?_take, if_pos (by omega), hb]
  · rw [if_neg h]
    by_cases h1 : m < off
    · rw [(Pc.at_none (.inl h1) : Pc.at ⟨off, dat.take (k + 1)⟩ m = none), (Pc.at_none (.inl h1) : Pc.at ⟨off, dat.take k⟩ m = none)]
    · rw [Pc.at_eq (show (⟨off, dat.take (k + 1)⟩ : Pc).off ≤ m from by simp only; omega), Pc.at_eq (show (⟨off, dat.take k⟩ : Pc).off ≤ m from by simp only; omega)]
      simp only
      rw [List.getElem?_take, List.getElem?_take]
      by_cases h2 : (m - off).toNat < k
      · rw [if_pos (by omega), if_pos h2]
      · rw [if_neg (by omega), if_neg h2]
theorem at_grow {lo : Int} {ps : List Pc} {i k : Nat} {x : Pc} {b : UInt8} (hn : Norm lo ps) (hx : ps[i]? = some x) (hb : x.dat[k]? = some b) (m : Int) : at_ (ps.take i ++ [⟨x.off, x.dat.take (k + 1)⟩]) m = if m = x.off + k then some b else at_ (ps.take i ++ [⟨x.off, x.dat.take k⟩]) m := by
  rw [at_snoc, at_snoc]
  unfold over
  rw [at_take_at hb]
  by_cases h : m = x.off + k
  · rw [if_pos h, if_pos h, at_take_none hn hx (by omega)]
  · rw [if_neg h, if_neg h]
theorem grow_set {lo : Int} {ps : List Pc} {i k : Nat} {x : Pc} {b : UInt8} (hn : Norm lo ps) (hx : ps[i]? = some x) (hb : x.dat[k]? = some b) (h0 : 0 ≤ x.off) : (arr (at_ (ps.take i ++ [⟨x.off, x.dat.take k⟩]))).set (x.off + k).toNat (b.toNat : Int) = arr (at_ (ps.take i ++ [⟨x.off, x.dat.take (k + 1)⟩])) := by
  refine arr_set (fun m _ _ => ?_)
  rw [at_grow hn hx hb, show (((x.off + (k : Int)).toNat : Nat) : Int) = x.off + k by omega]
theorem grow_zero {ps : List Pc} {i : Nat} {x : Pc} : arr (at_ (ps.take i ++ [⟨x.off, x.dat.take 0⟩])) = arr (at_ (ps.take i)) := by
  refine arr_eq (fun m _ _ => ?_)
  rw [at_snoc]
  unfold over
  have : Pc.at ⟨x.off, x.dat.take 0⟩ m = none := by
    unfold Pc.at; simp
  rw [this]
  cases at_ (ps.take i) m <;> rfl
theorem grow_all {ps : List Pc} {i : Nat} {x : Pc} (hx : ps[i]? = some x) : ps.take i ++ [⟨x.off, x.dat.take x.dat.length⟩] = ps.take (i + 1) := by
  rw [List.take_add_one, hx, List.take_length]; rfl

/-! the new bytes -/
def lay (R : Rcv) (off : Int) (dat : List UInt8) (k : Nat) : Int → Option UInt8 := over (putF R off (dat.take k)) (at_ R.ps)
theorem lay_zero {R : Rcv} {off : Int} {dat : List UInt8} : arr (at_ R.ps) = arr (lay R off dat 0) := by
  refine arr_eq (fun m _ _ => ?_)
  unfold lay
  rw [over_none]
  cases e : putF R off (dat.take 0) m with
  | none => rfl
  | some b => have := putF_in e; simp at this; omega
theorem lay_at {R : Rcv} {off : Int} {dat : List UInt8} {k : Nat} : lay R off dat k (off + k) = at_ R.ps (off + k) := by
  unfold lay
  rw [over_none]
  cases e : putF R off (dat.take k) (off + k) with
  | none => rfl
  | some b => have := putF_in e; rw [List.length_take] at this; omega
theorem putF_succ {R : Rcv} {off : Int} {dat : List UInt8} {k : Nat} {b : UInt8} (hb : dat[k]? = some b) (m : Int) : putF R off (dat.take (k + 1)) m = if m = off + k ∧ R.read ≤ m then some b else putF R off (dat.take k) m := by
  unfold putF
  by_cases hr : R.read ≤ m
  · rw [if_pos hr, if_pos hr, at_take_at hb]
    by_cases h : m = off + k
    · rw [if_pos h, if_pos ⟨h, hr⟩]
    · rw [if_neg h, if_neg (fun hh => h hh.1)]
  · rw [if_neg hr, if_neg hr, if_neg (fun hh => hr hh.2)]
theorem lay_set {R : Rcv} {off : Int} {dat : List UInt8} {k : Nat} {b : UInt8} (hb : dat[k]? = some b) (h0 : 0 ≤ off) (hr : R.read ≤ off + k) : (arr (lay R off dat k)).set (off + k).toNat (b.toNat : Int) = arr (lay R off dat (k + 1)) := by
  refine arr_set (fun m _ _ => ?_)
  rw [show (((off + (k : Int)).toNat : Nat) : Int) = off + k by omega]
  unfold lay over
  rw [putF_succ hb]
  by_cases h : m = off + k
  · rw [if_pos ⟨h, by omega⟩, if_pos h]
  · rw [if_neg (fun hh => h hh.1), if_neg h]
theorem lay_skip {R : Rcv} {off : Int} {dat : List UInt8} {k : Nat} {b : UInt8} (hb : dat[k]? = some b) (hr : ¬ R.read ≤ off + k) : arr (lay R off dat k) = arr (lay R off dat (k + 1)) := by
  refine arr_eq (fun m _ _ => ?_)
  unfold lay over
  rw [putF_succ hb, if_neg (by omega)]
theorem ag_zero {R : Rcv} {off : Int} {dat : List UInt8} : Ag R off (dat.take 0) := fun i a b h => by
  have := Pc.at_in h
  unfold Pc.fin at this
  simp at this; omega
theorem ag_succ {R : Rcv} {off : Int} {dat : List UInt8} {k : Nat} {b : UInt8} (hb : dat[k]? = some b) (h : Ag R off (dat.take k)) (hk : ∀ c, at_ R.ps (off + k) = some c → c = b) : Ag R off (dat.take (k + 1)) := fun i x y hx hy => by
  rw [at_take_at hb] at hx
  by_cases hi : i = off + k
  · subst hi
    rw [if_pos rfl] at hx
    rw [hk y hy]; exact (Option.some.inj hx).symm
  · rw [if_neg hi] at hx
    exact h i x y hx hy
theorem ag_bad {R : Rcv} {off : Int} {dat : List UInt8} {k : Nat} {b c : UInt8} (hb : dat[k]? = some b) (hc : at_ R.ps (off + k) = some c) (hne : c ≠ b) : ¬ Ag R off dat := fun h => by
  have hk := (List.getElem?_eq_some_iff.1 hb).1
  have : Pc.at ⟨off, dat⟩ (off + k) = some b := by
    rw [Pc.at_eq (by simp only; omega)]
    simp only
    rw [show (off + (k : Int) - off).toNat = k by omega]; exact hb
  exact hne (h _ _ _ this hc).symm
theorem ag_all {R : Rcv} {off : Int} {dat : List UInt8} (h : Ag R off (dat.take dat.length)) : Ag R off dat := by rw [List.take_length] at h; exact h
/-- the pieces gathered out of the laid bytes are what is received -/
theorem lay_put {R : Rcv} {off : Int} {dat : List UInt8} {ps : List Pc} (hv : validR R) (h0 : 0 ≤ off) (he : off + dat.length ≤ R.lim) (ha : Ag R off dat) (hc : Coll (arr (lay R off dat dat.length)) R.read 30 ps) : ps = putP R off dat := by
  refine put_uniq hv.2.2.1 ha hc.norm (fun i => ?_)
  rw [hc.at_]
  have hl := hv.1.2
  by_cases hi : R.read ≤ i ∧ i < 30
  · rw [if_pos hi, arr_bt (by have := hv.2.1.1; omega) hi.2]
    unfold lay
    rw [List.take_length]
  · rw [if_neg hi]
    unfold over
    cases e : putF R off dat i with
    | some b => have := putF_in e; omega
    | none =>
      cases e2 : at_ R.ps i with
      | none => rfl
      | some b => have := at_bd hv.2.2.1 e2; have := hv.2.2.2.1; omega
theorem lay_read {R : Rcv} {k : Nat} {ps : List Pc} (hv : validR R) (hk : k ≤ readyR R) (hc : Coll (arr (at_ R.ps)) (R.read + k) 30 ps) : ps = (readR R k).ps := by
  refine read_uniq hv hk hc.norm (fun i => ?_)
  rw [hc.at_]
  by_cases hi : R.read + k ≤ i
  · rw [if_pos hi]
    by_cases h3 : i < 30
    · rw [if_pos ⟨hi, h3⟩, arr_bt (by have := hv.2.1.1; omega) h3]
    · rw [if_neg (fun h => h3 h.2)]
      cases e2 : at_ R.ps i with
      | none => rfl
      | some b => have := at_bd hv.2.2.1 e2; have := hv.2.2.2.1; have := hv.1.2; omega
  · rw [if_neg hi, if_neg (fun h => hi h.1)]
/-- what the reference's receiving gives -/
def L31 (R : Rcv) (off : Int) (dat : List UInt8) (fin : Bool) (c : Int) (S : Rcv) : Prop :=
  (R.lim < off + dat.length ∧ c = 1 ∧ S = R) ∨ (¬ R.lim < off + dat.length ∧ finBad R (off + dat.length) fin ∧ c = 2 ∧ S = R) ∨
  (¬ R.lim < off + dat.length ∧ ¬ finBad R (off + dat.length) fin ∧ ¬ Ag R off dat ∧ c = 3 ∧ S = R) ∨ (¬ R.lim < off + dat.length ∧ ¬ finBad R (off + dat.length) fin ∧ Ag R off dat ∧ c = 0 ∧ S = putR R off dat fin)
theorem L31.eq {R : Rcv} {off : Int} {dat : List UInt8} {fin : Bool} {c : Int} {S : Rcv} (h : L31 R off dat fin c S) (ha : argOk R off dat) : c = putC R off dat fin ∧ S = putO R off dat fin := by
  rcases h with ⟨h1, rfl, rfl⟩ | ⟨h1, h2, rfl, rfl⟩ | ⟨h1, h2, h3, rfl, rfl⟩ | ⟨h1, h2, h3, rfl, rfl⟩
  · obtain ⟨a, b⟩ := put_over (fin := fin) ha h1; exact ⟨a.symm, b.symm⟩
  · obtain ⟨a, b⟩ := put_final ha h1 h2; exact ⟨a.symm, b.symm⟩
  · obtain ⟨a, b⟩ := put_conf ha h1 h2 h3; exact ⟨a.symm, b.symm⟩
  · obtain ⟨a, b⟩ := put_yes ha h1 h2 h3; exact ⟨a.symm, b.symm⟩
theorem L31.valid {R : Rcv} {off : Int} {dat : List UInt8} {fin : Bool} {c : Int} {S : Rcv} (h : L31 R off dat fin c S) (hv : validR R) (h0 : 0 ≤ off) : validR S ∧ S.lim = R.lim := by
  rcases h with ⟨h1, rfl, rfl⟩ | ⟨h1, h2, rfl, rfl⟩ | ⟨h1, h2, h3, rfl, rfl⟩ | ⟨h1, h2, h3, rfl, rfl⟩
  · exact ⟨hv, rfl⟩
  · exact ⟨hv, rfl⟩
  · exact ⟨hv, rfl⟩
  · exact ⟨put_valid hv h0 h3 (by omega) h2, rfl⟩

/-! pieces merged, as the program does it -/
theorem merge_skip {ps : List Pc} {p q : Pc} {j : Nat} (hq : ps[j]? = some q) (h : q.fin < p.off) (he : merge ps p = ps.take j ++ merge (ps.drop j) p) : merge ps p = ps.take (j + 1) ++ merge (ps.drop (j + 1)) p := by
  rw [he]
  obtain ⟨h1, rfl⟩ := List.getElem?_eq_some_iff.1 hq
  rw [List.drop_eq_getElem_cons h1]
  rw [show merge (ps[j] :: ps.drop (j + 1)) p = if ps[j].fin < p.off then ps[j] :: merge (ps.drop (j + 1)) p else absorb (ps[j] :: ps.drop (j + 1)) p from rfl, if_pos h, List.take_add_one, hq, List.append_assoc]
  rfl
theorem merge_stop {ps : List Pc} {p q : Pc} {j : Nat} (hq : ps[j]? = some q) (h : ¬ q.fin < p.off) : merge (ps.drop j) p = absorb (ps.drop j) p := by
  obtain ⟨h1, rfl⟩ := List.getElem?_eq_some_iff.1 hq
  rw [List.drop_eq_getElem_cons h1]
  rw [show merge (ps[j] :: ps.drop (j + 1)) p = if ps[j].fin < p.off then ps[j] :: merge (ps.drop (j + 1)) p else absorb (ps[j] :: ps.drop (j + 1)) p from rfl, if_neg h]
theorem merge_end {ps : List Pc} {p : Pc} : merge (ps.drop ps.length) p = absorb (ps.drop ps.length) p := by
  rw [List.drop_length]; rfl
theorem absorb_step {ps : List Pc} {p q : Pc} {j : Nat} (hq : ps[j]? = some q) (h : q.off ≤ p.fin) : absorb (ps.drop j) p = absorb (ps.drop (j + 1)) (join q p) := by
  obtain ⟨h1, rfl⟩ := List.getElem?_eq_some_iff.1 hq
  rw [List.drop_eq_getElem_cons h1]
  rw [show absorb (ps[j] :: ps.drop (j + 1)) p = if ps[j].off ≤ p.fin then absorb (ps.drop (j + 1)) (join ps[j] p) else p :: ps[j] :: ps.drop (j + 1) from rfl, if_pos h]
theorem absorb_stop {ps : List Pc} {p q : Pc} {j : Nat} (hq : ps[j]? = some q) (h : ¬ q.off ≤ p.fin) : absorb (ps.drop j) p = p :: ps.drop j := by
  obtain ⟨h1, rfl⟩ := List.getElem?_eq_some_iff.1 hq
  rw [List.drop_eq_getElem_cons h1]
  rw [show absorb (ps[j] :: ps.drop (j + 1)) p = if ps[j].off ≤ p.fin then absorb (ps.drop (j + 1)) (join ps[j] p) else p :: ps[j] :: ps.drop (j + 1) from rfl, if_neg h]
theorem absorb_end {ps : List Pc} {p : Pc} : absorb (ps.drop ps.length) p = p :: ps.drop ps.length := by
  rw [List.drop_length]; rfl
theorem Norm.later {lo : Int} {ps : List Pc} {j : Nat} {q : Pc} (h : Norm lo ps) (hq : ps[j]? = some q) : ∀ x ∈ ps.drop j, q.fin ≤ x.fin := by
  induction ps generalizing lo j with
  | nil => simp at hq
  | cons p r ih =>
    cases j with
    | zero =>
      simp at hq; subst hq
      intro x hx
      rcases List.mem_cons.1 hx with rfl | hx
      · exact Int.le_refl _
      · have := (h.2.2.mem hx).1
        have := Pc.fin_pos (h.2.2.mem hx).2.2
        omega
    | succ j => exact ih h.2.2 (by simpa using hq)
end Go.Proofs.Ythjlafpfhgbfoaa
