/- The receiving side of a stream as plain data: validity, receiving, reading. No condition. -/
import Derived.Test.YthjlafpfhgbfoaaN2
namespace Go.Proofs.Ythjlafpfhgbfoaa
set_option linter.unusedSimpArgs false
set_option linter.unusedVariables false

theorem lastFin_le {lo lo' M : Int} {ps : List Pc} (hn : Norm lo' ps) (hM : lo ≤ M) (hb : ∀ i b, at_ ps i = some b → i < M) : lastFin lo ps ≤ M := by
  rcases List.eq_nil_or_concat ps with rfl | ⟨qs, p, rfl⟩
  · exact hM
  · simp only [List.concat_eq_append] at hn hb ⊢
    rw [lastFin_snoc]
    obtain ⟨h1, h2, h3⟩ := Norm.snoc.1 hn
    have h4 := Pc.fin_pos h3
    obtain ⟨c, hc⟩ := Pc.at_some (p := p) (i := p.fin - 1) (by omega)
    have : ∃ b, at_ (qs ++ [p]) (p.fin - 1) = some b := by
      rw [at_snoc]; unfold over
      cases at_ qs (p.fin - 1) with
      | some b => exact ⟨b, rfl⟩
      | none => exact ⟨c, hc⟩
    obtain ⟨b, hb'⟩ := this
    have := hb _ _ hb'
    omega
theorem lastFin_cons {a b : Int} {p : Pc} {r : List Pc} : lastFin a (p :: r) = lastFin b (p :: r) := rfl
theorem Norm.mem {lo : Int} {ps : List Pc} {p : Pc} (h : Norm lo ps) (hp : p ∈ ps) : lo < p.off ∧ p.fin ≤ lastFin lo ps ∧ p.dat ≠ [] := by
  induction ps generalizing lo with
  | nil => cases hp
  | cons q r ih =>
    have h1 := lastFin_ge h.2.2
    have h2 := Pc.fin_pos h.2.1
    rcases List.mem_cons.1 hp with rfl | hp
    · exact ⟨h.1, h1, h.2.1⟩
    · obtain ⟨a, b, c⟩ := ih h.2.2 hp
      have := h.1
      exact ⟨by omega, b, c⟩
theorem lastFin_last {lo : Int} {ps : List Pc} {p : Pc} (h : ps.getLast? = some p) : lastFin lo ps = p.fin := by
  rcases List.eq_nil_or_concat ps with rfl | ⟨qs, q, rfl⟩
  · cases h
  · simp only [List.concat_eq_append] at h ⊢
    rw [List.getLast?_append] at h
    simp at h
    subst h
    exact lastFin_snoc
theorem at_take_none {lo : Int} {ps : List Pc} {i : Int} {k : Nat} {p : Pc} (h : Norm lo ps) (hp : ps[k]? = some p) (hi : p.off ≤ i) : at_ (ps.take k) i = none := by
  induction ps generalizing lo k with
  | nil => simp at hp
  | cons q r ih =>
    cases k with
    | zero => rfl
    | succ k =>
      simp only [List.getElem?_cons_succ] at hp
      rw [List.take_succ_cons, at_cons]
      have h1 := (h.2.2.mem (List.mem_of_getElem? hp)).1
      rw [over_none (Pc.at_none (.inr (by omega)))]
      exact ih h.2.2 hp

structure Rcv where
  read : Int
  ps : List Pc
  fin : Int
  lim : Int
def Rcv.nil : Rcv := ⟨0, [], 0, 0⟩
def Rcv.top (R : Rcv) : Int := lastFin R.read R.ps
def validR (R : Rcv) : Prop := (0 ≤ R.lim ∧ R.lim ≤ 30) ∧ (0 ≤ R.read ∧ R.read ≤ R.lim) ∧ Norm (R.read - 1) R.ps ∧ R.top ≤ R.lim ∧ (R.fin = -1 ∨ (R.top ≤ R.fin ∧ R.fin ≤ R.lim))
theorem top_ge {R : Rcv} (h : Norm (R.read - 1) R.ps) : R.read ≤ R.top := by
  unfold Rcv.top
  cases e : R.ps with
  | nil => exact Int.le_refl _
  | cons p r =>
    rw [e] at h
    have h1 := lastFin_ge h.2.2
    have h2 := Pc.fin_pos h.2.1
    have h3 := h.1
    show R.read ≤ lastFin p.fin r
    omega
theorem top_of {R : Rcv} {p : Pc} (h : Norm (R.read - 1) R.ps) (hp : p ∈ R.ps) : R.read ≤ p.off ∧ p.fin ≤ R.top := by
  obtain ⟨a, b, _⟩ := h.mem hp
  refine ⟨by omega, ?_⟩
  unfold Rcv.top
  cases e : R.ps with
  | nil => rw [e] at hp; cases hp
  | cons q r => rw [e] at b; exact b
theorem at_bd {R : Rcv} {i : Int} {b : UInt8} (h : Norm (R.read - 1) R.ps) (e : at_ R.ps i = some b) : R.read ≤ i ∧ i < R.top := by
  obtain ⟨h1, h2⟩ := at_bounds h e
  refine ⟨by omega, ?_⟩
  unfold Rcv.top
  cases e2 : R.ps with
  | nil => rw [e2] at e; cases e
  | cons q r => rw [e2] at h2; exact h2
theorem Rcv.ext4 {R S : Rcv} (h1 : R.read = S.read) (h2 : R.ps = S.ps) (h3 : R.fin = S.fin) (h4 : R.lim = S.lim) : R = S := by
  cases R; cases S; simp only at h1 h2 h3 h4; subst h1 h2 h3 h4; rfl

/-! receiving -/
def skp (R : Rcv) (off : Int) : Int := max 0 (R.read - off)
def putPc (R : Rcv) (off : Int) (dat : List UInt8) : Pc := ⟨off + skp R off, dat.drop (skp R off).toNat⟩
def putP (R : Rcv) (off : Int) (dat : List UInt8) : List Pc := if skp R off < dat.length then merge R.ps (putPc R off dat) else R.ps
def putR (R : Rcv) (off : Int) (dat : List UInt8) (fin : Bool) : Rcv := ⟨R.read, putP R off dat, cond fin (off + dat.length) R.fin, R.lim⟩
def Ag (R : Rcv) (off : Int) (dat : List UInt8) : Prop := Agree (Pc.at ⟨off, dat⟩) (at_ R.ps)
def finBad (R : Rcv) (e : Int) (fin : Bool) : Prop := (fin = true ∧ ((R.fin ≠ -1 ∧ R.fin ≠ e) ∨ e < R.top)) ∨ (fin = false ∧ R.fin ≠ -1 ∧ R.fin < e)
def argOk (R : Rcv) (off : Int) (dat : List UInt8) : Prop := validR R ∧ (0 ≤ off ∧ off ≤ 30) ∧ dat.length ≤ 12
/-- the new bytes that are kept -/
def putF (R : Rcv) (off : Int) (dat : List UInt8) (i : Int) : Option UInt8 := if R.read ≤ i then Pc.at ⟨off, dat⟩ i else none
theorem putPc_at {R : Rcv} {off : Int} {dat : List UInt8} {i : Int} : (putPc R off dat).at i = putF R off dat i := by
  unfold putF Pc.at putPc skp
  by_cases h : off + max 0 (R.read - off) ≤ i
  · rw [if_pos h, if_pos (show R.read ≤ i by omega), if_pos (show off ≤ i by omega)]
    simp only
    rw [List.getElem?_drop]
    congr 1
    omega
  · rw [if_neg h]
    by_cases h2 : R.read ≤ i
    · rw [if_pos h2, if_neg (show ¬ off ≤ i by omega)]
    · rw [if_neg h2]
theorem putF_in {R : Rcv} {off : Int} {dat : List UInt8} {i : Int} {b : UInt8} (h : putF R off dat i = some b) : R.read ≤ i ∧ off ≤ i ∧ i < off + dat.length ∧ Pc.at ⟨off, dat⟩ i = some b := by
  unfold putF at h
  split at h
  · have := Pc.at_in h
    unfold Pc.fin at this
    exact ⟨by assumption, this.1, this.2, h⟩
  · cases h
theorem putP_at {R : Rcv} {off : Int} {dat : List UInt8} (h : Norm (R.read - 1) R.ps) (ha : Ag R off dat) : Norm (R.read - 1) (putP R off dat) ∧ ∀ i, at_ (putP R off dat) i = over (putF R off dat) (at_ R.ps) i := by
  unfold putP
  have hs : skp R off = max 0 (R.read - off) := rfl
  split
  · rename_i hlt
    have e : (putPc R off dat).at = putF R off dat := funext fun i => putPc_at
    rw [← e]
    refine merge_at h (fun hd => ?_) (by unfold putPc; simp only; omega) (fun i a b ha' hb => ?_)
    · have := congrArg List.length hd
      unfold putPc at this
      simp only [List.length_drop, List.length_nil] at this
      omega
    · rw [e] at ha'
      exact ha i a b (putF_in ha').2.2.2 hb
  · rename_i hge
    refine ⟨h, fun i => ?_⟩
    rw [over_none]
    cases e : putF R off dat i with
    | none => rfl
    | some b => have := putF_in e; omega
theorem put_top {R : Rcv} {off : Int} {dat : List UInt8} {fin : Bool} (h : Norm (R.read - 1) R.ps) (ha : Ag R off dat) {M : Int} (h1 : R.top ≤ M) (h2 : off + dat.length ≤ M) : (putR R off dat fin).top ≤ M := by
  obtain ⟨hn, hat⟩ := putP_at h ha
  have h3 := top_ge h
  refine lastFin_le hn (by show R.read ≤ M; omega) (fun i b hb => ?_)
  have hb : at_ (putP R off dat) i = some b := hb
  rw [hat] at hb
  unfold over at hb
  split at hb
  · rename_i c hc
    have := putF_in hc; omega
  · have := at_bd h hb; omega
theorem put_valid {R : Rcv} {off : Int} {dat : List UInt8} {fin : Bool} (h : validR R) (h0 : 0 ≤ off) (ha : Ag R off dat) (he : off + dat.length ≤ R.lim) (hf : ¬ finBad R (off + dat.length) fin) : validR (putR R off dat fin) := by
  obtain ⟨v1, v2, v3, v4, v5⟩ := h
  refine ⟨v1, v2, (putP_at v3 ha).1, put_top v3 ha v4 he, ?_⟩
  cases fin with
  | true =>
    have h1 : R.top ≤ off + dat.length := by
      by_cases hh : off + dat.length < R.top
      · exact absurd (.inl ⟨rfl, .inr hh⟩) hf
      · omega
    exact .inr ⟨put_top v3 ha h1 (Int.le_refl _), he⟩
  | false =>
    rcases v5 with v5 | v5
    · exact .inl v5
    · by_cases hm : R.fin = -1
      · exact .inl hm
      · have h1 : off + dat.length ≤ R.fin := by
          by_cases hh : R.fin < off + dat.length
          · exact absurd (.inr ⟨rfl, hm, hh⟩) hf
          · omega
        exact .inr ⟨put_top v3 ha v5.1 h1, v5.2⟩
/-- whatever is in order and holds these bytes is what is received -/
theorem put_uniq {R : Rcv} {off : Int} {dat : List UInt8} {lo : Int} {out : List Pc} (h : Norm (R.read - 1) R.ps) (ha : Ag R off dat) (hn : Norm lo out) (hat : ∀ i, at_ out i = over (putF R off dat) (at_ R.ps) i) : out = putP R off dat := by
  obtain ⟨h1, h2⟩ := putP_at h ha
  exact hn.uniq h1 (fun i => by rw [hat, h2])

open Classical in
/-- the code -/
noncomputable def putC (R : Rcv) (off : Int) (dat : List UInt8) (fin : Bool) : Int :=
  if ¬ argOk R off dat then 4 else if R.lim < off + dat.length then 1 else if finBad R (off + dat.length) fin then 2 else if ¬ Ag R off dat then 3 else 0
open Classical in
noncomputable def putO (R : Rcv) (off : Int) (dat : List UInt8) (fin : Bool) : Rcv :=
  if ¬ argOk R off dat then Rcv.nil else if R.lim < off + dat.length then R else if finBad R (off + dat.length) fin then R else if ¬ Ag R off dat then R else putR R off dat fin
section
variable {R : Rcv} {off : Int} {dat : List UInt8} {fin : Bool}
theorem put_no (h : ¬ argOk R off dat) : putC R off dat fin = 4 ∧ putO R off dat fin = Rcv.nil := by unfold putC putO; rw [if_pos h, if_pos h]; exact ⟨rfl, rfl⟩
theorem put_over (h : argOk R off dat) (h1 : R.lim < off + dat.length) : putC R off dat fin = 1 ∧ putO R off dat fin = R := by
  unfold putC putO; rw [if_neg (Classical.not_not.2 h), if_neg (Classical.not_not.2 h), if_pos h1, if_pos h1]; exact ⟨rfl, rfl⟩
theorem put_final (h : argOk R off dat) (h1 : ¬ R.lim < off + dat.length) (h2 : finBad R (off + dat.length) fin) : putC R off dat fin = 2 ∧ putO R off dat fin = R := by
  unfold putC putO; rw [if_neg (Classical.not_not.2 h), if_neg (Classical.not_not.2 h), if_neg h1, if_neg h1, if_pos h2, if_pos h2]; exact ⟨rfl, rfl⟩
theorem put_conf (h : argOk R off dat) (h1 : ¬ R.lim < off + dat.length) (h2 : ¬ finBad R (off + dat.length) fin) (h3 : ¬ Ag R off dat) : putC R off dat fin = 3 ∧ putO R off dat fin = R := by
  unfold putC putO; rw [if_neg (Classical.not_not.2 h), if_neg (Classical.not_not.2 h), if_neg h1, if_neg h1, if_neg h2, if_neg h2, if_pos h3, if_pos h3]; exact ⟨rfl, rfl⟩
theorem put_yes (h : argOk R off dat) (h1 : ¬ R.lim < off + dat.length) (h2 : ¬ finBad R (off + dat.length) fin) (h3 : Ag R off dat) : putC R off dat fin = 0 ∧ putO R off dat fin = putR R off dat fin := by
  unfold putC putO; rw [if_neg (Classical.not_not.2 h), if_neg (Classical.not_not.2 h), if_neg h1, if_neg h1, if_neg h2, if_neg h2, if_neg (Classical.not_not.2 h3), if_neg (Classical.not_not.2 h3)]; exact ⟨rfl, rfl⟩
end

/-! reading -/
def readyR (R : Rcv) : Nat := match R.ps with
  | [] => 0
  | p :: _ => if R.read < p.off then 0 else p.dat.length
def cutP (n : Nat) : List Pc → List Pc
  | [] => []
  | p :: r => if p.dat.drop n = [] then r else ⟨p.off + n, p.dat.drop n⟩ :: r
def readR (R : Rcv) (k : Nat) : Rcv := if k = 0 then R else ⟨R.read + k, cutP k R.ps, R.fin, R.lim⟩
def readS (R : Rcv) (k : Nat) : List UInt8 := match R.ps with
  | [] => []
  | p :: _ => p.dat.take k
theorem ready_head {R : Rcv} (h : validR R) (h0 : 0 < readyR R) : ∃ p r, R.ps = p :: r ∧ p.off = R.read ∧ readyR R = p.dat.length := by
  unfold readyR at h0 ⊢
  cases e : R.ps with
  | nil => rw [e] at h0; exact absurd h0 (by simp)
  | cons p r =>
    rw [e] at h0
    simp only at h0 ⊢
    split at h0
    · omega
    · rename_i hge
      have h1 := h.2.2.1
      rw [e] at h1
      have := h1.1
      exact ⟨p, r, rfl, by omega, by rw [if_neg hge]⟩
theorem cut_at {p : Pc} {r : List Pc} {k : Nat} (h : Norm (p.off - 1) (p :: r)) (h0 : 0 < k) (hk : k ≤ p.dat.length) : Norm (p.off + k - 1) (cutP k (p :: r)) ∧ ∀ i, at_ (cutP k (p :: r)) i = if p.off + k ≤ i then at_ (p :: r) i else none := by
  rw [show cutP k (p :: r) = if p.dat.drop k = [] then r else ⟨p.off + k, p.dat.drop k⟩ :: r from rfl]
  have hfin : p.fin = p.off + p.dat.length := rfl
  by_cases hd : p.dat.drop k = []
  · rw [if_pos hd]
    have hl : p.dat.length = k := by
      have := congrArg List.length hd
      simp only [List.length_drop, List.length_nil] at this
      omega
    refine ⟨h.2.2.mono (by omega), fun i => ?_⟩
    rw [h.at_tail]
    by_cases hi : p.off + k ≤ i
    · rw [if_neg (by omega), if_pos hi]
    · rw [if_pos (by omega), if_neg hi]
  · rw [if_neg hd]
    have hlk : k < p.dat.length := by
      have : (p.dat.drop k).length ≠ 0 := fun e => hd (List.eq_nil_of_length_eq_zero e)
      rw [List.length_drop] at this
      omega
    have hfin2 : Pc.fin ⟨p.off + k, p.dat.drop k⟩ = p.fin := by unfold Pc.fin; simp only [List.length_drop]; omega
    refine ⟨⟨by simp only; omega, hd, by rw [hfin2]; exact h.2.2⟩, fun i => ?_⟩
    rw [at_cons]
    by_cases hi : p.off + k ≤ i
    · rw [if_pos hi, at_cons]
      have e1 : Pc.at ⟨p.off + k, p.dat.drop k⟩ i = p.at i := by
        rw [Pc.at_eq (by simp only; omega), Pc.at_eq (by omega)]
        simp only
        rw [List.getElem?_drop]
        congr 1
        omega
      unfold over
      rw [e1]
    · rw [if_neg hi, over_none (Pc.at_none (.inl (by simp only; omega)))]
      exact h.2.2.at_le (by omega)
theorem read_at {R : Rcv} {k : Nat} (h : validR R) (hk : k ≤ readyR R) : Norm (R.read + k - 1) (readR R k).ps ∧ (readR R k).read = R.read + k ∧ (readR R k).fin = R.fin ∧ (readR R k).lim = R.lim ∧ ∀ i, at_ (readR R k).ps i = if R.read + k ≤ i then at_ R.ps i else none := by
  by_cases hk0 : k = 0
  · subst hk0
    have e : readR R 0 = R := by unfold readR; rw [if_pos rfl]
    rw [e]
    refine ⟨by simpa using h.2.2.1, by simp, rfl, rfl, fun i => ?_⟩
    by_cases hi : R.read + (0 : Nat) ≤ i
    · rw [if_pos hi]
    · rw [if_neg hi]; exact h.2.2.1.at_le (by simp at hi; omega)
  · obtain ⟨p, r, e1, e2, e3⟩ := ready_head h (by omega)
    have e : readR R k = ⟨R.read + k, cutP k R.ps, R.fin, R.lim⟩ := by unfold readR; rw [if_neg hk0]
    rw [e]
    have hn := h.2.2.1
    rw [e1, ← e2] at hn
    obtain ⟨a, b⟩ := cut_at hn (k := k) (by omega) (by omega)
    refine ⟨?_, rfl, rfl, rfl, fun i => ?_⟩
    · simp only; rw [e1, ← e2]; exact a
    · simp only; rw [e1, ← e2]; exact b i
theorem ready_top {R : Rcv} (h : validR R) : R.read + readyR R ≤ R.top := by
  by_cases h0 : 0 < readyR R
  · obtain ⟨p, r, e1, e2, e3⟩ := ready_head h h0
    have := top_of h.2.2.1 (p := p) (by rw [e1]; simp)
    unfold Pc.fin at this
    omega
  · have := top_ge h.2.2.1
    omega
theorem read_valid {R : Rcv} {k : Nat} (h : validR R) (hk : k ≤ readyR R) : validR (readR R k) := by
  obtain ⟨a1, a2, a3, a4, a5⟩ := read_at h hk
  have hr := ready_top h
  have htop : (readR R k).top ≤ R.top := by
    unfold Rcv.top
    refine lastFin_le a1 (by rw [a2]; show _ ≤ R.top; omega) (fun i b hb => ?_)
    rw [a5] at hb
    split at hb
    · exact (at_bd h.2.2.1 hb).2
    · cases hb
  obtain ⟨v1, v2, v3, v4, v5⟩ := h
  refine ⟨by rw [a4]; exact v1, by rw [a2, a4]; omega, by rw [a2]; exact a1, by rw [a4]; omega, ?_⟩
  rw [a3, a4]
  rcases v5 with v5 | v5
  · exact .inl v5
  · exact .inr ⟨by omega, v5.2⟩
theorem read_uniq {R : Rcv} {k : Nat} {lo : Int} {out : List Pc} (h : validR R) (hk : k ≤ readyR R) (hn : Norm lo out) (hat : ∀ i, at_ out i = if R.read + k ≤ i then at_ R.ps i else none) : out = (readR R k).ps := by
  obtain ⟨a1, a2, a3, a4, a5⟩ := read_at h hk
  exact hn.uniq a1 (fun i => by rw [hat, a5])

/-! bytes by number, 30 of them -/
def enc : Option UInt8 → Int
  | some b => b.toNat
  | none => -1
theorem arr_ex : ∃ a : (Int → Option UInt8) → List Int, ∀ f, a f = (List.range 30).map (fun j : Nat => enc (f (j : Int))) := ⟨fun f => (List.range 30).map (fun j : Nat => enc (f (j : Int))), fun _ => rfl⟩
/-- not to be unfolded -/
noncomputable def arr (f : Int → Option UInt8) : List Int := Classical.choose arr_ex f
theorem arr_def (f : Int → Option UInt8) : arr f = (List.range 30).map (fun j : Nat => enc (f (j : Int))) := Classical.choose_spec arr_ex f
theorem arr_len (f : Int → Option UInt8) : (arr f).length = 30 := by simp [arr_def]
theorem arr_get {f : Int → Option UInt8} {j : Nat} (h : j < 30) : (arr f)[j]? = some (enc (f j)) := by
  rw [arr_def]; simp [h]
theorem arr_eq {f g : Int → Option UInt8} (h : ∀ j : Int, 0 ≤ j → j < 30 → f j = g j) : arr f = arr g := by
  rw [arr_def, arr_def]
  apply List.map_congr_left
  intro j hj
  have := List.mem_range.1 hj
  rw [h j (by omega) (by omega)]
theorem arr_set {f g : Int → Option UInt8} {j : Nat} {b : UInt8} (h : ∀ i : Int, 0 ≤ i → i < 30 → g i = if i = j then some b else f i) : (arr f).set j (b.toNat : Int) = arr g := by
  apply List.ext_getElem?
  intro i
  by_cases hi : i < 30
  · rw [List.getElem?_set, arr_get hi, arr_get hi, h i (by omega) (by omega), arr_len]
    by_cases e : j = i
    · subst e; rw [if_pos rfl, if_pos hi, if_pos rfl]; rfl
    · rw [if_neg e, if_neg (by omega)]
  · rw [List.getElem?_eq_none (by rw [List.length_set, arr_len]; omega), List.getElem?_eq_none (by rw [arr_len]; omega)]
theorem enc_neg {o : Option UInt8} : enc o < 0 ↔ o = none := by
  cases o with
  | none => simp [enc]
  | some b => simp [enc]
theorem enc_bd (o : Option UInt8) : -1 ≤ enc o ∧ enc o ≤ 255 := by
  cases o with
  | none => simp [enc]
  | some b => have := b.toNat_lt; simp only [enc]; omega
theorem arr_bt {f : Int → Option UInt8} {j : Int} (h0 : 0 ≤ j) (h : j < 30) : bt (arr f) j = f j := by
  have e : ((j.toNat : Nat) : Int) = j := by omega
  have h1 := arr_get (f := f) (j := j.toNat) (by omega)
  rw [e] at h1
  have h2 := bt_at h1
  rw [e] at h2
  rw [h2]
  cases hf : f j with
  | none => simp [enc]
  | some b =>
    have e3 : ¬ (b.toNat : Int) < 0 := by omega
    simp [enc]
end Go.Proofs.Ythjlafpfhgbfoaa
