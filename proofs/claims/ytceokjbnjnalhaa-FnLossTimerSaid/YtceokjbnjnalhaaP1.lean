/- The plain law of LossAck: what is acknowledged, lost, kept. No condition. -/
import Derived.Test.YtceokjbnjnalhaaL4
import Derived.Test.YtceokjbnjnalhaaL6
namespace Go.Proofs.Ytceokjbnjnalhaa
open Go Go.RowKit
set_option linter.unusedSimpArgs false
set_option linter.unusedVariables false

def hasR (rs : List Rng) (n : Int) : Prop := ∃ r ∈ rs, r.lo ≤ n ∧ n ≤ r.hi
def lgOf (lg : Int) (rs : List Rng) : Int := match rs.getLast? with | none => lg | some r => max lg r.hi
theorem lgOf_nil {lg : Int} : lgOf lg [] = lg := rfl
theorem lgOf_last {lg : Int} {rs : List Rng} {r : Rng} (h : rs.getLast? = some r) : lgOf lg rs = max lg r.hi := by unfold lgOf; rw [h]
def gone (lg now d : Int) (p : Pkt) : Prop := p.num < lg ∧ (p.num ≤ lg - 3 ∨ p.tm ≤ now - d)
section
variable (rs : List Rng) (lg now d : Int)
noncomputable def cls (p : Pkt) : Nat := cond (tr (hasR rs p.num)) 0 (cond (tr (gone lg now d p)) 1 2)
noncomputable def part (c : Nat) (ps : List Pkt) : List Pkt := ps.filter (fun p => Nat.beq (cls rs lg now d p) c)
noncomputable def nums (c : Nat) (ps : List Pkt) : List Int := (part rs lg now d c ps).map (·.num)
end
section
variable {rs : List Rng} {lg now d : Int} {ps : List Pkt} {p x : Pkt} {k c : Nat}
theorem cls0 (h : hasR rs p.num) : cls rs lg now d p = 0 := by unfold cls; rw [tr_true h]; rfl
theorem cls1 (h : ¬ hasR rs p.num) (g : gone lg now d p) : cls rs lg now d p = 1 := by unfold cls; rw [tr_false h, tr_true g]; rfl
theorem cls2 (h : ¬ hasR rs p.num) (g : ¬ gone lg now d p) : cls rs lg now d p = 2 := by unfold cls; rw [tr_false h, tr_false g]; rfl
theorem cls_cases : (cls rs lg now d p = 0 ∧ hasR rs p.num) ∨ (cls rs lg now d p = 1 ∧ ¬ hasR rs p.num ∧ gone lg now d p) ∨ (cls rs lg now d p = 2 ∧ ¬ hasR rs p.num ∧ ¬ gone lg now d p) := by
  by_cases h : hasR rs p.num
  · exact .inl ⟨cls0 h, h⟩
  · by_cases g : gone lg now d p
    · exact .inr (.inl ⟨cls1 h g, h, g⟩)
    · exact .inr (.inr ⟨cls2 h g, h, g⟩)
theorem part_yes (hx : ps[k]? = some x) (h : cls rs lg now d x = c) : part rs lg now d c (ps.take (k + 1)) = part rs lg now d c (ps.take k) ++ [x] := by
  unfold part
  rw [take_succ_of hx, List.filter_append]
  simp [h]
theorem part_no (hx : ps[k]? = some x) (h : cls rs lg now d x ≠ c) : part rs lg now d c (ps.take (k + 1)) = part rs lg now d c (ps.take k) := by
  unfold part
  rw [take_succ_of hx, List.filter_append]
  simp [h]
theorem nums_yes (hx : ps[k]? = some x) (h : cls rs lg now d x = c) : nums rs lg now d c (ps.take (k + 1)) = nums rs lg now d c (ps.take k) ++ [x.num] := by
  unfold nums; rw [part_yes hx h]; simp
theorem nums_no (hx : ps[k]? = some x) (h : cls rs lg now d x ≠ c) : nums rs lg now d c (ps.take (k + 1)) = nums rs lg now d c (ps.take k) := by
  unfold nums; rw [part_no hx h]
theorem mem_part : p ∈ part rs lg now d c ps ↔ p ∈ ps ∧ cls rs lg now d p = c := by
  unfold part; rw [List.mem_filter]; simp
theorem part_len : (part rs lg now d c ps).length ≤ ps.length := List.length_filter_le ..
theorem nums_len : (nums rs lg now d c ps).length ≤ ps.length := by unfold nums; rw [List.length_map]; exact part_len
theorem parts_len : (part rs lg now d 0 ps).length + (part rs lg now d 1 ps).length + (part rs lg now d 2 ps).length = ps.length := by
  induction ps with
  | nil => rfl
  | cons a r ih =>
    have h := @cls_cases rs lg now d a
    unfold part at ih ⊢
    simp only [List.filter_cons]
    rcases h with ⟨h, _⟩ | ⟨h, _⟩ | ⟨h, _⟩ <;> rw [h] <;> simp <;> omega
theorem part_part : part rs lg now d c (part rs lg now d c ps) = part rs lg now d c ps := by
  unfold part; rw [List.filter_filter]; congr 1; funext p; simp
theorem part_none {c' : Nat} (h : c ≠ c') : part rs lg now d c' (part rs lg now d c ps) = [] := by
  unfold part; rw [List.filter_filter, List.filter_eq_nil_iff]
  intro p _ hp
  simp at hp; omega
end

/-! order -/
def Bnd (L : Los) (p : Pkt) : Prop := (0 ≤ p.num ∧ p.num ≤ L.next - 1) ∧ p.num ≠ L.lg ∧ (0 ≤ p.tm ∧ p.tm ≤ 999) ∧ (1 ≤ p.sz ∧ p.sz ≤ 99)
def Lt (q p : Pkt) : Prop := q.num < p.num ∧ q.tm ≤ p.tm
theorem okP_iff {L : Los} : okP L L.ps.length ↔ (∀ p ∈ L.ps, Bnd L p) ∧ L.ps.Pairwise Lt := by
  constructor
  · intro h
    refine ⟨fun p hp => ?_, ?_⟩
    · obtain ⟨k, hk⟩ := List.mem_iff_getElem?.1 hp
      have := h k p (List.getElem?_eq_some_iff.1 hk).1 hk
      exact ⟨this.1, this.2.1, this.2.2.1, this.2.2.2.1⟩
    · rw [List.pairwise_iff_getElem]
      intro i j hi hj hij
      obtain ⟨m, rfl⟩ : ∃ m, j = i + 1 + m := ⟨j - (i + 1), by omega⟩
      clear hij
      induction m with
      | zero =>
        have := (h (i + 1) _ hj (List.getElem?_eq_getElem hj)).2.2.2.2 i _ rfl (List.getElem?_eq_getElem hi)
        exact this
      | succ m ih =>
        have h1 := ih (by omega)
        have h2 := (h (i + 1 + (m + 1)) _ hj (List.getElem?_eq_getElem hj)).2.2.2.2 (i + 1 + m) _ rfl (List.getElem?_eq_getElem (by omega))
        exact ⟨Int.lt_trans h1.1 h2.1, Int.le_trans h1.2 h2.2⟩
  · rintro ⟨h1, h2⟩ j p hj hp
    have hb := h1 p (List.mem_of_getElem? hp)
    refine ⟨hb.1, hb.2.1, hb.2.2.1, hb.2.2.2, fun i q hi hq => ?_⟩
    subst hi
    rw [List.pairwise_iff_getElem] at h2
    obtain ⟨ha, hb⟩ := List.getElem?_eq_some_iff.1 hq
    obtain ⟨hc, hd⟩ := List.getElem?_eq_some_iff.1 hp
    have := h2 i (i + 1) ha hc (by omega)
    rw [hb, hd] at this
    exact this
theorem inj_of {ps : List Pkt} (h : ps.Pairwise Lt) {p q : Pkt} (hp : p ∈ ps) (hq : q ∈ ps) (e : p.num = q.num) : p = q := by
  obtain ⟨i, hi, rfl⟩ := List.getElem_of_mem hp
  obtain ⟨j, hj, rfl⟩ := List.getElem_of_mem hq
  rw [List.pairwise_iff_getElem] at h
  rcases Nat.lt_trichotomy i j with hij | hij | hij
  · have := (h i j hi hj hij).1; omega
  · subst hij; rfl
  · have := (h j i hj hi hij).1; omega

/-! the answer -/
def ackable (L : Los) (rs : List Rng) (now d : Int) : Prop := validL L ∧ validR rs ∧ (0 ≤ now ∧ now ≤ 999) ∧ (1 ≤ d ∧ d ≤ 1998) ∧ ∀ r, rs.getLast? = some r → r.hi < L.next
noncomputable def ackL (L : Los) (rs : List Rng) (now d : Int) : Los := cond (tr (ackable L rs now d)) ⟨L.next, part rs (lgOf L.lg rs) now d 2 L.ps, lgOf L.lg rs⟩ Los.nil
noncomputable def ackN (c : Nat) (L : Los) (rs : List Rng) (now d : Int) : List Int := cond (tr (ackable L rs now d)) (nums rs (lgOf L.lg rs) now d c L.ps) []
noncomputable def ackB (L : Los) (rs : List Rng) (now d : Int) : Bool := tr (ackable L rs now d)
section
variable {L : Los} {rs : List Rng} {now d : Int}
theorem ack_no (h : ¬ ackable L rs now d) : ackL L rs now d = Los.nil ∧ (∀ c, ackN c L rs now d = []) ∧ ackB L rs now d = false := by
  unfold ackL ackN ackB; rw [tr_false h]; exact ⟨rfl, fun _ => rfl, rfl⟩
theorem ack_yes (h : ackable L rs now d) : ackL L rs now d = ⟨L.next, part rs (lgOf L.lg rs) now d 2 L.ps, lgOf L.lg rs⟩ ∧ (∀ c, ackN c L rs now d = nums rs (lgOf L.lg rs) now d c L.ps) ∧ ackB L rs now d = true := by
  unfold ackL ackN ackB; rw [tr_true h]; exact ⟨rfl, fun _ => rfl, rfl⟩
theorem ackB_iff : ackB L rs now d = true ↔ ackable L rs now d := by
  by_cases h : ackable L rs now d
  · exact ⟨fun _ => h, fun _ => (ack_yes h).2.2⟩
  · exact ⟨fun e => by (rw [(ack_no h).2.2] at e; cases e), fun e => absurd e h⟩
theorem ackN_len {c : Nat} : (ackN c L rs now d).length ≤ 12 := by
  by_cases h : ackable L rs now d
  · rw [(ack_yes h).2.1 c]; exact Nat.le_trans nums_len h.1.2.2.1
  · rw [(ack_no h).2.1 c]; exact Nat.zero_le _
theorem ackL_len : (ackL L rs now d).ps.length ≤ 12 := by
  by_cases h : ackable L rs now d
  · rw [(ack_yes h).1]; exact Nat.le_trans part_len h.1.2.2.1
  · rw [(ack_no h).1]; exact Nat.zero_le _
theorem lgOf_bd (h : ackable L rs now d) : -1 ≤ lgOf L.lg rs ∧ lgOf L.lg rs ≤ L.next - 1 := by
  obtain ⟨hv, hr, _, _, hl⟩ := h
  have h1 := hv.2.1
  unfold lgOf
  split
  · exact h1
  · rename_i r hr'
    have := hl r hr'
    omega
theorem last_mem {r : Rng} (h : rs.getLast? = some r) : r ∈ rs := by
  rw [List.getLast?_eq_getElem?] at h
  exact List.mem_of_getElem? h
theorem validR.mem {r : Rng} (h : validR rs) (hr : r ∈ rs) : 0 ≤ r.lo ∧ r.lo ≤ r.hi ∧ r.hi ≤ 999 := by
  obtain ⟨k, hk⟩ := List.mem_iff_getElem?.1 hr
  have := h.1 k r (List.getElem?_eq_some_iff.1 hk).1 hk
  exact ⟨this.1, this.2.1, this.2.2.1⟩
/-- what is left is valid -/
theorem ack_valid (h : ackable L rs now d) : validL (ackL L rs now d) := by
  rw [(ack_yes h).1]
  have hb := lgOf_bd h
  obtain ⟨hv, hr, _, _, hl⟩ := h
  obtain ⟨o1, o2⟩ := okP_iff.1 hv.2.2.2
  refine ⟨hv.1, hb, Nat.le_trans part_len hv.2.2.1, ?_⟩
  refine (okP_iff (L := ⟨L.next, part rs (lgOf L.lg rs) now d 2 L.ps, lgOf L.lg rs⟩)).2 ⟨fun p hp => ?_, o2.sublist List.filter_sublist⟩
  obtain ⟨hp1, hp2⟩ := mem_part.1 hp
  have hpb := o1 p hp1
  have hnr : ¬ hasR rs p.num := by
    intro hh; rw [cls0 hh] at hp2; cases hp2
  refine ⟨hpb.1, fun e => ?_, hpb.2.2.1, hpb.2.2.2⟩
  simp only at e
  have hne := hpb.2.1
  cases hg : rs.getLast? with
  | none => rw [show lgOf L.lg rs = L.lg by unfold lgOf; rw [hg]] at e; exact hne e
  | some r =>
    rw [lgOf_last hg] at e
    have hm := last_mem hg
    have := hr.mem hm
    exact hnr ⟨r, hm, by omega, by omega⟩
theorem lgOf_lgOf : lgOf (lgOf L.lg rs) rs = lgOf L.lg rs := by
  cases hg : rs.getLast? with
  | none => unfold lgOf; rw [hg]
  | some r => rw [lgOf_last hg, lgOf_last hg]; omega
theorem ack_twice (h : ackable L rs now d) : ackable (ackL L rs now d) rs now d ∧ ackL (ackL L rs now d) rs now d = ackL L rs now d ∧ ackN 0 (ackL L rs now d) rs now d = [] ∧ ackN 1 (ackL L rs now d) rs now d = [] := by
  have hv := ack_valid h
  have h2 : ackable (ackL L rs now d) rs now d := ⟨hv, h.2.1, h.2.2.1, h.2.2.2.1, by rw [(ack_yes h).1]; exact h.2.2.2.2⟩
  refine ⟨h2, ?_, ?_, ?_⟩
  · rw [(ack_yes h2).1, (ack_yes h).1]
    simp only [lgOf_lgOf, part_part]
  · rw [(ack_yes h2).2.1, (ack_yes h).1]
    simp only [lgOf_lgOf, nums, part_none (show (2 : Nat) ≠ 0 by omega), List.map_nil]
  · rw [(ack_yes h2).2.1, (ack_yes h).1]
    simp only [lgOf_lgOf, nums, part_none (show (2 : Nat) ≠ 1 by omega), List.map_nil]
theorem mem_nums {p : Pkt} {c : Nat} {lg : Int} (h : L.ps.Pairwise Lt) (hp : p ∈ L.ps) : p.num ∈ nums rs lg now d c L.ps ↔ cls rs lg now d p = c := by
  unfold nums
  rw [List.mem_map]
  constructor
  · rintro ⟨q, hq, e⟩
    obtain ⟨h1, h2⟩ := mem_part.1 hq
    rw [← inj_of h h1 hp e]; exact h2
  · exact fun hc => ⟨p, mem_part.2 ⟨hp, hc⟩, rfl⟩
theorem nums_sorted {c : Nat} {lg : Int} (h : L.ps.Pairwise Lt) : (nums rs lg now d c L.ps).Pairwise (· < ·) := by
  unfold nums
  rw [List.pairwise_map]
  exact (h.sublist List.filter_sublist).imp (fun hh => hh.1)
theorem sumZ_parts {lg : Int} {ps : List Pkt} : sumZ (part rs lg now d 2 ps) = sumZ ps - sumZ (ps.filter (fun p => !(Nat.beq (cls rs lg now d p) 2))) := by
  induction ps with
  | nil => rfl
  | cons a r ih =>
    unfold part at ih ⊢
    simp only [List.filter_cons]
    by_cases hc : Nat.beq (cls rs lg now d a) 2 = true
    · simp only [hc, if_true, Bool.not_true, if_false, sumZ, List.map_cons, List.sum_cons, Bool.false_eq_true] at ih ⊢; omega
    · simp only [Bool.not_eq_true] at hc
      simp only [hc, if_true, Bool.not_false, if_false, sumZ, List.map_cons, List.sum_cons, Bool.false_eq_true] at ih ⊢; omega
end
end Go.Proofs.Ytceokjbnjnalhaa
