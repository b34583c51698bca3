/- The laws of receiving and reading as plain data. No condition. -/
import Derived.Test.YthjlafpfhgbfoaaN3
namespace Go.Proofs.Ythjlafpfhgbfoaa
set_option linter.unusedSimpArgs false
set_option linter.unusedVariables false

theorem put_zero {R : Rcv} {off : Int} {dat : List UInt8} {fin : Bool} (h : putC R off dat fin = 0) : argOk R off dat ∧ off + dat.length ≤ R.lim ∧ ¬ finBad R (off + dat.length) fin ∧ Ag R off dat ∧ putO R off dat fin = putR R off dat fin := by
  by_cases h1 : argOk R off dat
  · by_cases h2 : R.lim < off + dat.length
    · rw [(put_over h1 h2).1] at h; omega
    · by_cases h3 : finBad R (off + dat.length) fin
      · rw [(put_final h1 h2 h3).1] at h; omega
      · by_cases h4 : Ag R off dat
        · exact ⟨h1, by omega, h3, h4, (put_yes h1 h2 h3 h4).2⟩
        · rw [(put_conf h1 h2 h3 h4).1] at h; omega
  · rw [(put_no h1).1] at h; omega
theorem put_err {R : Rcv} {off : Int} {dat : List UInt8} {fin : Bool} (h : putC R off dat fin ≠ 0) (h4 : putC R off dat fin ≠ 4) : putO R off dat fin = R := by
  by_cases h1 : argOk R off dat
  · by_cases h2 : R.lim < off + dat.length
    · exact (put_over h1 h2).2
    · by_cases h3 : finBad R (off + dat.length) fin
      · exact (put_final h1 h2 h3).2
      · by_cases h5 : Ag R off dat
        · exact absurd (put_yes h1 h2 h3 h5).1 h
        · exact (put_conf h1 h2 h3 h5).2
  · exact absurd (put_no h1).1 h4
theorem put_one {R : Rcv} {off : Int} {dat : List UInt8} {fin : Bool} (h4 : putC R off dat fin ≠ 4) : putC R off dat fin = 1 ↔ R.lim < off + dat.length := by
  by_cases h1 : argOk R off dat
  · by_cases h2 : R.lim < off + dat.length
    · exact ⟨fun _ => h2, fun _ => (put_over h1 h2).1⟩
    · refine ⟨fun h => ?_, fun h => absurd h h2⟩
      by_cases h3 : finBad R (off + dat.length) fin
      · rw [(put_final h1 h2 h3).1] at h; omega
      · by_cases h5 : Ag R off dat
        · rw [(put_yes h1 h2 h3 h5).1] at h; omega
        · rw [(put_conf h1 h2 h3 h5).1] at h; omega
  · exact absurd (put_no h1).1 h4
theorem fin_ok {R : Rcv} {e : Int} {fin : Bool} (h : ¬ finBad R e fin) : (fin = true → (R.fin = -1 ∨ R.fin = e) ∧ R.top ≤ e) ∧ (fin = false → R.fin = -1 ∨ e ≤ R.fin) := by
  refine ⟨fun hf => ⟨?_, ?_⟩, fun hf => ?_⟩
  · by_cases h1 : R.fin = -1
    · exact .inl h1
    · by_cases h2 : R.fin = e
      · exact .inr h2
      · exact absurd (.inl ⟨hf, .inl ⟨h1, h2⟩⟩) h
  · by_cases h1 : e < R.top
    · exact absurd (.inl ⟨hf, .inr h1⟩) h
    · omega
  · by_cases h1 : R.fin = -1
    · exact .inl h1
    · by_cases h2 : R.fin < e
      · exact absurd (.inr ⟨hf, h1, h2⟩) h
      · exact .inr (by omega)
theorem fin_of {R : Rcv} {e : Int} {fin : Bool} (h1 : fin = true → (R.fin = -1 ∨ R.fin = e) ∧ R.top ≤ e) (h2 : fin = false → R.fin = -1 ∨ e ≤ R.fin) : ¬ finBad R e fin := by
  rintro (⟨hf, h⟩ | ⟨hf, a, b⟩)
  · obtain ⟨x, y⟩ := h1 hf
    rcases h with ⟨a, b⟩ | a
    · rcases x with x | x
      · exact a x
      · exact b x
    · omega
  · have := h2 hf; omega
theorem putR_at {R : Rcv} {off : Int} {dat : List UInt8} {fin : Bool} (h : validR R) (ha : Ag R off dat) (i : Int) : at_ (putR R off dat fin).ps i = over (putF R off dat) (at_ R.ps) i := (putP_at h.2.2.1 ha).2 i
theorem putR_old {R : Rcv} {off : Int} {dat : List UInt8} {fin : Bool} (h : validR R) (ha : Ag R off dat) {i : Int} {b : UInt8} (hb : at_ R.ps i = some b) : at_ (putR R off dat fin).ps i = some b := by
  rw [putR_at h ha]
  unfold over
  split
  · rename_i c hc
    rw [ha i c b (putF_in hc).2.2.2 hb]
  · exact hb
theorem putR_new {R : Rcv} {off : Int} {dat : List UInt8} {fin : Bool} (h : validR R) (ha : Ag R off dat) {i : Int} {b : UInt8} (hr : R.read ≤ i) (hb : Pc.at ⟨off, dat⟩ i = some b) : at_ (putR R off dat fin).ps i = some b := by
  rw [putR_at h ha]
  exact over_some (by unfold putF; rw [if_pos hr]; exact hb)
theorem top_mono {R S : Rcv} (hR : Norm (R.read - 1) R.ps) (hS : Norm (S.read - 1) S.ps) (hr : R.read ≤ S.read) (h : ∀ i b, at_ R.ps i = some b → at_ S.ps i = some b) : R.top ≤ S.top := by
  have := top_ge hS
  exact lastFin_le hR (by omega) (fun i b hb => (at_bd hS (h i b hb)).2)
theorem putR_fin {R : Rcv} {off : Int} {dat : List UInt8} {fin : Bool} : (putR R off dat fin).fin = cond fin (off + dat.length) R.fin := rfl
theorem putR_agS {R : Rcv} {off : Int} {dat : List UInt8} {fin : Bool} (h : validR R) (ha : Ag R off dat) : Ag (putR R off dat fin) off dat := fun i a b h1 h2 => by
  rw [putR_at h ha] at h2
  unfold over at h2
  split at h2
  · rename_i c hc
    have := (putF_in hc).2.2.2
    exact Option.some.inj (h1.symm.trans (this.trans h2))
  · exact ha i a b h1 h2
theorem put_twice {R : Rcv} {off : Int} {dat : List UInt8} {fin : Bool} (h : putC R off dat fin = 0) : putC (putR R off dat fin) off dat fin = 0 ∧ putO (putR R off dat fin) off dat fin = putR R off dat fin := by
  obtain ⟨h1, h2, h3, h4, _⟩ := put_zero h
  have hv := put_valid h1.1 h1.2.1.1 h4 h2 h3
  obtain ⟨f1, f2⟩ := fin_ok h3
  have h3' : ¬ finBad (putR R off dat fin) (off + dat.length) fin := fin_of (fun hf => by
    subst hf
    refine ⟨.inr rfl, ?_⟩
    exact put_top h1.1.2.2.1 h4 (f1 rfl).2 (Int.le_refl _)) (fun hf => by subst hf; exact f2 rfl)
  have ha' := putR_agS (fin := fin) h1.1 h4
  obtain ⟨a, b⟩ := put_yes (fin := fin) ⟨hv, h1.2.1, h1.2.2⟩ (show ¬ (putR R off dat fin).lim < _ from by show ¬ R.lim < _; omega) h3' ha'
  refine ⟨a, b.trans (Rcv.ext4 rfl ?_ ?_ rfl)⟩
  · refine (put_uniq hv.2.2.1 ha' hv.2.2.1 (fun i => ?_)).symm
    cases hf : putF (putR R off dat fin) off dat i with
    | none => exact (over_none hf).symm
    | some c => exact (putR_new h1.1 h4 (putF_in hf).1 (putF_in hf).2.2.2).trans (over_some hf).symm
  · show cond fin _ (cond fin _ _) = cond fin _ _
    cases fin <;> rfl
theorem put_order {R : Rcv} {o1 o2 : Int} {d1 d2 : List UInt8} {n1 n2 : Bool} (h : putC R o1 d1 n1 = 0) (hx : ¬ (d1 = [] ∧ n1 = false)) (h' : putC (putR R o1 d1 n1) o2 d2 n2 = 0) :
    putC R o2 d2 n2 = 0 ∧ putC (putR R o2 d2 n2) o1 d1 n1 = 0 ∧ putR (putR R o2 d2 n2) o1 d1 n1 = putR (putR R o1 d1 n1) o2 d2 n2 := by
  obtain ⟨a1, a2, a3, a4, _⟩ := put_zero h
  obtain ⟨b1, b2, b3, b4, _⟩ := put_zero h'
  have hv1 := put_valid a1.1 a1.2.1.1 a4 a2 a3
  have b2 : o2 + d2.length ≤ R.lim := b2
  obtain ⟨f1, f2⟩ := fin_ok a3
  obtain ⟨g1, g2⟩ := fin_ok b3
  rw [putR_fin] at g1 g2
  have t1 : R.top ≤ (putR R o1 d1 n1).top := top_mono a1.1.2.2.1 hv1.2.2.1 (Int.le_refl _) (fun i b hb => putR_old a1.1 a4 hb)
  have t2 : n1 = false → o1 + d1.length ≤ (putR R o1 d1 n1).top := fun hn => by
    have hd : d1 ≠ [] := fun e => hx ⟨e, hn⟩
    have hl := List.length_pos_iff.2 hd
    have h3 := top_ge hv1.2.2.1
    have h3 : R.read ≤ (putR R o1 d1 n1).top := h3
    by_cases hr : R.read ≤ o1 + d1.length - 1
    · obtain ⟨b, hb⟩ := Pc.at_some (p := ⟨o1, d1⟩) (i := o1 + d1.length - 1) (by unfold Pc.fin; simp only; omega)
      have := at_bd hv1.2.2.1 (putR_new (fin := n1) a1.1 a4 hr hb)
      omega
    · omega
  have ag2 : Ag R o2 d2 := fun i a b ha hb => b4 i a b ha (putR_old a1.1 a4 hb)
  have c3 : ¬ finBad R (o2 + d2.length) n2 := fin_of (fun hn => by
    obtain ⟨x, y⟩ := g1 hn
    refine ⟨?_, by omega⟩
    cases n1 with
    | true => obtain ⟨p, q⟩ := f1 rfl; simp only [cond] at x; omega
    | false => simpa only [cond] using x) (fun hn => by
    have x := g2 hn
    cases n1 with
    | true => obtain ⟨p, q⟩ := f1 rfl; simp only [cond] at x; have := a1.2.1.1; omega
    | false => simpa only [cond] using x)
  have hv2 := put_valid a1.1 b1.2.1.1 ag2 b2 c3
  obtain ⟨e1, e2⟩ := put_yes (fin := n2) ⟨a1.1, b1.2.1, b1.2.2⟩ (by omega) c3 ag2
  have ag1 : Ag (putR R o2 d2 n2) o1 d1 := fun i a b ha hb => by
    rw [putR_at a1.1 ag2] at hb
    unfold over at hb
    split at hb
    · rename_i c hc
      obtain ⟨k1, _, _, k4⟩ := putF_in hc
      have := b4 i c a k4 (putR_new a1.1 a4 k1 ha)
      rw [← this, ← Option.some.inj hb]
    · exact a4 i a b ha hb
  have d3 : ¬ finBad (putR R o2 d2 n2) (o1 + d1.length) n1 := by
    refine fin_of (fun hn => ?_) (fun hn => ?_)
    · obtain ⟨p, q⟩ := f1 hn
      subst hn
      rw [putR_fin]
      simp only [cond] at g1 g2
      have hp := a1.2.1.1
      refine ⟨?_, put_top a1.1.2.2.1 ag2 q ?_⟩
      · cases n2 with
        | true => obtain ⟨x, y⟩ := g1 rfl; simp only [cond]; omega
        | false => simpa only [cond] using p
      · cases n2 with
        | true => obtain ⟨x, y⟩ := g1 rfl; omega
        | false => have := g2 rfl; omega
    · have hq := f2 hn
      have hw := t2 hn
      rw [putR_fin]
      cases n2 with
      | true => obtain ⟨x, y⟩ := g1 rfl; simp only [cond]; omega
      | false => simpa only [cond] using hq
  obtain ⟨e3, e4⟩ := put_yes (fin := n1) ⟨hv2, a1.2.1, a1.2.2⟩ (show ¬ R.lim < _ by omega) d3 ag1
  refine ⟨e1, e3, Rcv.ext4 rfl ?_ ?_ rfl⟩
  · refine put_uniq hv1.2.2.1 b4 (putP_at hv2.2.2.1 ag1).1 (fun i => ?_)
    rw [putR_at hv2 ag1]
    have p1 : at_ (putR R o2 d2 n2).ps i = over (putF R o2 d2) (at_ R.ps) i := putR_at a1.1 ag2 i
    have p2 : at_ (putR R o1 d1 n1).ps i = over (putF R o1 d1) (at_ R.ps) i := putR_at a1.1 a4 i
    have q1 : putF (putR R o2 d2 n2) o1 d1 i = putF R o1 d1 i := rfl
    have q2 : putF (putR R o1 d1 n1) o2 d2 i = putF R o2 d2 i := rfl
    unfold over
    rw [p1, p2, q1, q2]
    cases x1 : putF R o1 d1 i with
    | none =>
      cases x2 : putF R o2 d2 i with
      | none => rw [over_none x2, over_none x1]
      | some b => rw [over_some x2]
    | some a =>
      cases x2 : putF R o2 d2 i with
      | none => rw [over_some x1]
      | some b =>
        obtain ⟨k1, _, _, k4⟩ := putF_in x1
        have := b4 i b a (putF_in x2).2.2.2 (putR_new a1.1 a4 k1 k4)
        rw [this]
  · show cond n1 _ (cond n2 _ _) = cond n2 _ (cond n1 _ _)
    cases n1 with
    | false => rfl
    | true => cases n2 with
      | false => rfl
      | true =>
        obtain ⟨x, y⟩ := g1 rfl
        have hp := a1.2.1.1
        simp only [cond] at x ⊢
        omega
theorem xor_ne (b : UInt8) : b ^^^ 1 ≠ b := fun h => by
  have : b ^^^ 1 ^^^ b = b ^^^ b := by rw [h]
  rw [UInt8.xor_self, UInt8.xor_comm b 1, UInt8.xor_assoc, UInt8.xor_self] at this
  exact absurd this (by decide)
theorem put_conflict {R : Rcv} {off : Int} {dat : List UInt8} {fin : Bool} (h : putC R off dat fin = 0) {k : Nat} {b c : UInt8} (hk : dat[k]? = some b) (hr : R.read ≤ off + k) (hc : c ≠ b) : putC (putR R off dat fin) (off + k) [c] false = 3 := by
  obtain ⟨h1, h2, h3, h4, _⟩ := put_zero h
  have hv := put_valid h1.1 h1.2.1.1 h4 h2 h3
  have hkl := (List.getElem?_eq_some_iff.1 hk).1
  have hb : Pc.at ⟨off, dat⟩ (off + k) = some b := by
    rw [Pc.at_eq (by simp only; omega)]
    simp only
    rw [show (off + (k : Int) - off).toNat = k by omega]; exact hk
  have hn := putR_new (fin := fin) h1.1 h4 hr hb
  have ht := (at_bd hv.2.2.1 hn).2
  have hlim := h1.1.1
  have hoff := h1.2.1
  refine (put_conf ⟨hv, by omega, by simp⟩ (show ¬ R.lim < off + (k : Int) + (1 : Nat) by omega) (fin_of (fun hf => by cases hf) (fun _ => ?_)) (fun ha => ?_)).1
  · rcases hv.2.2.2.2 with hf | hf
    · exact .inl hf
    · exact .inr (show off + (k : Int) + (1 : Nat) ≤ _ by omega)
  · have := ha (off + k) c b (by rw [Pc.at_eq (Int.le_refl _)]; simp) hn
    exact hc this
def hasR (R : Rcv) (i : Int) : Prop := (∃ p ∈ R.ps, p.off ≤ i ∧ i < p.fin) ∨ i < R.read
theorem at_mem {ps : List Pc} {i : Int} : (∃ b, at_ ps i = some b) ↔ ∃ p ∈ ps, p.off ≤ i ∧ i < p.fin := by
  induction ps with
  | nil => simp [at_]
  | cons p r ih =>
    rw [at_cons]
    unfold over
    constructor
    · rintro ⟨b, hb⟩
      cases e : p.at i with
      | some c => exact ⟨p, by simp, Pc.at_in e⟩
      | none =>
        rw [e] at hb
        obtain ⟨q, hq, h⟩ := ih.1 ⟨b, hb⟩
        exact ⟨q, by simp [hq], h⟩
    · rintro ⟨q, hq, h⟩
      cases e : p.at i with
      | some c => exact ⟨c, rfl⟩
      | none =>
        rcases List.mem_cons.1 hq with rfl | hq
        · obtain ⟨b, hb⟩ := Pc.at_some h
          rw [e] at hb; cases hb
        · exact ih.2 ⟨q, hq, h⟩
theorem put_has {R : Rcv} {off : Int} {dat : List UInt8} {fin : Bool} (h : putC R off dat fin = 0) (i : Int) : hasR (putR R off dat fin) i ↔ (hasR R i ∨ (off ≤ i ∧ i < off + dat.length)) := by
  obtain ⟨h1, h2, h3, h4, _⟩ := put_zero h
  unfold hasR
  rw [← at_mem, ← at_mem]
  have hr : (putR R off dat fin).read = R.read := rfl
  rw [hr]
  by_cases hi : i < R.read
  · exact ⟨fun _ => .inl (.inr hi), fun _ => .inr hi⟩
  · constructor
    · rintro (⟨b, hb⟩ | hb)
      · rw [putR_at h1.1 h4] at hb
        unfold over at hb
        split at hb
        · rename_i c hc
          have := putF_in hc
          exact .inr ⟨this.2.1, this.2.2.1⟩
        · exact .inl (.inl ⟨b, hb⟩)
      · exact absurd hb hi
    · rintro ((⟨b, hb⟩ | hb) | hb)
      · exact .inl ⟨b, putR_old h1.1 h4 hb⟩
      · exact absurd hb hi
      · obtain ⟨b, hb'⟩ := Pc.at_some (p := ⟨off, dat⟩) (i := i) (by unfold Pc.fin; exact hb)
        exact .inl ⟨b, putR_new h1.1 h4 (by omega) hb'⟩
theorem ready_ge {R : Rcv} {m : Nat} (h : validR R) (hm : ∀ i : Int, R.read ≤ i → i < R.read + m → ∃ b, at_ R.ps i = some b) : m ≤ readyR R := by
  by_cases h0 : m = 0
  · omega
  · obtain ⟨b, hb⟩ := hm R.read (Int.le_refl _) (by omega)
    have hn := h.2.2.1
    unfold readyR
    cases e : R.ps with
    | nil => rw [e] at hb; cases hb
    | cons p r =>
      rw [e] at hb hn
      simp only
      have h1 : ¬ R.read < p.off := fun hh => by rw [hn.at_head hh] at hb; cases hb
      rw [if_neg h1]
      have h2 := hn.1
      by_cases hl : p.dat.length < m
      · obtain ⟨c, hc⟩ := hm p.fin (by unfold Pc.fin; omega) (by unfold Pc.fin; omega)
        rw [e, hn.at_fin] at hc; cases hc
      · omega
theorem ready_at {R : Rcv} (h : validR R) {i : Int} (h0 : R.read ≤ i) (h1 : i < R.read + readyR R) : ∃ b, at_ R.ps i = some b := by
  obtain ⟨p, r, e1, e2, e3⟩ := ready_head h (by omega)
  exact at_mem.2 ⟨p, by rw [e1]; simp, by omega, by unfold Pc.fin; omega⟩
theorem ready_put {R : Rcv} {off : Int} {dat : List UInt8} {fin : Bool} (h : putC R off dat fin = 0) : readyR R ≤ readyR (putR R off dat fin) := by
  obtain ⟨h1, h2, h3, h4, _⟩ := put_zero h
  refine ready_ge (put_valid h1.1 h1.2.1.1 h4 h2 h3) (fun i a b => ?_)
  obtain ⟨c, hc⟩ := ready_at h1.1 (i := i) a b
  exact ⟨c, putR_old h1.1 h4 hc⟩
theorem ready_read {R : Rcv} {k : Nat} (h : validR R) (hk : k ≤ readyR R) : readyR (readR R k) = readyR R - k := by
  have hv := read_valid h hk
  obtain ⟨a1, a2, a3, a4, a5⟩ := read_at h hk
  have h1 : readyR R - k ≤ readyR (readR R k) := ready_ge hv (fun i x y => by
    rw [a2] at x y
    rw [a5, if_pos x]
    exact ready_at h (by omega) (by omega))
  have h2 : k + readyR (readR R k) ≤ readyR R := ready_ge h (fun i x y => by
    by_cases hi : R.read + k ≤ i
    · obtain ⟨b, hb⟩ := ready_at hv (i := i) (by omega) (by omega)
      rw [a5, if_pos hi] at hb
      exact ⟨b, hb⟩
    · exact ready_at h x (by omega))
  omega
theorem read_two {R : Rcv} {a b : Nat} (h : validR R) (hk : a + b ≤ readyR R) : readR (readR R a) b = readR R (a + b) := by
  have ha : a ≤ readyR R := by omega
  have hv := read_valid h ha
  have hb : b ≤ readyR (readR R a) := by rw [ready_read h ha]; omega
  obtain ⟨a1, a2, a3, a4, a5⟩ := read_at h ha
  obtain ⟨b1, b2, b3, b4, b5⟩ := read_at hv hb
  obtain ⟨c1, c2, c3, c4, c5⟩ := read_at h hk
  refine Rcv.ext4 (by rw [b2, a2, c2]; omega) ?_ (by rw [b3, a3, c3]) (by rw [b4, a4, c4])
  refine read_uniq h hk b1 (fun i => ?_)
  rw [b5, a2]
  by_cases hi : R.read + (a + b : Nat) ≤ i
  · rw [if_pos hi, if_pos (by omega), a5, if_pos (by omega)]
  · rw [if_neg hi, if_neg (by omega)]
theorem readS_two {R : Rcv} {a b : Nat} (h : validR R) (hk : a + b ≤ readyR R) : readS R a ++ readS (readR R a) b = readS R (a + b) := by
  by_cases h0 : a = 0
  · subst h0
    have e : readR R 0 = R := by unfold readR; rw [if_pos rfl]
    rw [e, Nat.zero_add]
    unfold readS
    cases R.ps with
    | nil => rfl
    | cons p r => simp
  · obtain ⟨p, r, e1, e2, e3⟩ := ready_head h (by omega)
    have e4 : (readR R a).ps = cutP a (p :: r) := by unfold readR; rw [if_neg h0, e1]
    unfold readS
    rw [e4, e1]
    rw [show cutP a (p :: r) = if p.dat.drop a = [] then r else ⟨p.off + a, p.dat.drop a⟩ :: r from rfl]
    simp only
    by_cases hd : p.dat.drop a = []
    · rw [if_pos hd]
      have hl := congrArg List.length hd
      simp only [List.length_drop, List.length_nil] at hl
      obtain rfl : b = 0 := by omega
      cases r with
      | nil => simp
      | cons q s => simp
    · rw [if_neg hd]
      simp only
      exact (List.take_add ..).symm
theorem readS_len {R : Rcv} {a : Nat} (h : validR R) (hk : a ≤ readyR R) : (readS R a).length = a := by
  by_cases h0 : a = 0
  · subst h0
    unfold readS
    cases R.ps with
    | nil => rfl
    | cons p r => simp
  · obtain ⟨p, r, e1, e2, e3⟩ := ready_head h (by omega)
    unfold readS
    rw [e1]
    simp only [List.length_take]
    omega
theorem ended {R : Rcv} (h : validR R) (he : R.read = R.fin) : readyR R = 0 ∧ R.ps = [] := by
  have ht := top_ge h.2.2.1
  have h1 : R.top ≤ R.read := by
    rcases h.2.2.2.2 with hf | hf
    · have := h.2.1.1; omega
    · omega
  have h2 : R.ps = [] := by
    cases e : R.ps with
    | nil => rfl
    | cons p r =>
      have h3 := top_of h.2.2.1 (p := p) (by rw [e]; simp)
      have h4 := Pc.fin_pos (h.2.2.1.mem (p := p) (by rw [e]; simp)).2.2
      omega
  refine ⟨?_, h2⟩
  unfold readyR; rw [h2]
theorem grant_valid {R : Rcv} {n : Int} (h : validR R) (h1 : R.lim ≤ n) (h2 : n ≤ 30) : validR ⟨R.read, R.ps, R.fin, n⟩ := by
  obtain ⟨v1, v2, v3, v4, v5⟩ := h
  refine ⟨⟨by simp only; omega, by simp only; omega⟩, ⟨v2.1, by simp only; omega⟩, v3, ?_, ?_⟩
  · show R.top ≤ n
    omega
  · rcases v5 with v5 | v5
    · exact .inl v5
    · exact .inr ⟨v5.1, by simp only; omega⟩
theorem grant_put {R : Rcv} {off : Int} {dat : List UInt8} {fin : Bool} (h : putC R off dat fin = 1) : putC ⟨R.read, R.ps, R.fin, 30⟩ off dat fin = 1 ↔ 30 < off + dat.length := by
  have h1 : argOk R off dat := Classical.byContradiction fun hn => by rw [(put_no hn).1] at h; omega
  have hv := grant_valid h1.1 (n := 30) h1.1.1.2 (Int.le_refl _)
  have ha : argOk ⟨R.read, R.ps, R.fin, 30⟩ off dat := ⟨hv, h1.2⟩
  refine put_one (fun h4 => ?_)
  by_cases h2 : (30 : Int) < off + dat.length
  · rw [(put_over ha h2).1] at h4; omega
  · by_cases h3 : finBad ⟨R.read, R.ps, R.fin, 30⟩ (off + dat.length) fin
    · rw [(put_final ha h2 h3).1] at h4; omega
    · by_cases h5 : Ag ⟨R.read, R.ps, R.fin, 30⟩ off dat
      · rw [(put_yes ha h2 h3 h5).1] at h4; omega
      · rw [(put_conf ha h2 h3 h5).1] at h4; omega
end Go.Proofs.Ythjlafpfhgbfoaa
