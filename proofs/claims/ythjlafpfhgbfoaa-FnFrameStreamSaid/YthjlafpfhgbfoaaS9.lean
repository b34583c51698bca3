/- Rules for a slice cut down in its own block. No condition. -/
import Derived.Test.YthjlafpfhgbfoaaS8
namespace Go.Proofs.Ythjlafpfhgbfoaa
open Go Go.RowKit
set_option linter.unusedSimpArgs false
set_option linter.unusedVariables false
section
variable {P : Program} {n : Nat} {Q : Post} {J : Env → Prop} {env : Env} {w0 : World} {A : List Asr} {ops : Array Oper} {rest : List Oper}
variable {d : Nat} {ty : TypeId} {pos : String} {af : Array Edge}
theorem Y_lenRaw {t e : TypeId} {k by_ m c : Nat} {a : Option Addr} {x : Operand} [ht : TSlice P t e k by_] (hx : ev env x = some (.slice a m c)) : Y P n ⟨some d, .call ⟨.builtin .len, #[x], #[t]⟩, ty, pos, af, none⟩ env (.int .i64 m) := fun b hb w => by
  obtain ⟨i, z0, hu, _⟩ := ht.sl
  simp [execOp, resolve, invoke, builtin, hb.ev hx, Builtin.len_, run_underlying hu, goInt]
theorem Y_slH0 {t e : TypeId} {k by_ m c g : Nat} {x y : Operand} [ht : TSlice P t e k by_] (hx : ev env x = some (.slice (some ⟨g, 0, none⟩) m c)) (hy : ev env y = some (.int .i64 0)) (hc : 1 ≤ c) :
    Y P n ⟨some d, .slice t x none (some y) none, ty, pos, af, none⟩ env (.slice (some ⟨g, 0, none⟩) 0 c) := fun a hA w => by
  obtain ⟨i, z0, hu, hi, hsz, _⟩ := ht.sl
  have hu' : P.underlying t = some (.slice (P.elem t)) := by rw [elem_of hu]; exact hu
  have h3 := run_sliceAt_slice (P := P) (w := w) t (.slice (some ⟨g, 0, none⟩) m c) none (some (.int .i64 0)) none hu'
  have h4 := run_slice_h (P := P) (w := w) t (some ⟨g, 0, none⟩) m c hu' .i64 0 (by omega) (by omega)
  rw [elem_of hu] at h4
  have h5 : sliced (some (⟨g, 0, none⟩ : Addr)) 0 0 c i.size = .slice (some ⟨g, 0, none⟩) 0 c := by
    unfold sliced; rw [if_neg (by omega)]; simp [Addr.add_lit]
  simp [execOp, hA.ev hx, hA.ev hy, h3, h4, sizeOf, typeInfo, hi, h5]
theorem Y_slL1 {t e : TypeId} {k by_ m c g : Nat} {x y : Operand} [ht : TSlice P t e k by_] (hx : ev env x = some (.slice (some ⟨g, 0, none⟩) m c)) (hy : ev env y = some (.int .i64 1)) (hm : 1 ≤ m) :
    Y P n ⟨some d, .slice t x (some y) none none, ty, pos, af, none⟩ env (.slice (some (if c = 1 then ⟨g, 0, none⟩ else ⟨g, k, none⟩)) (m - 1) (c - 1)) := fun a hA w => by
  obtain ⟨i, z0, hu, hi, hsz, _⟩ := ht.sl
  have hu' : P.underlying t = some (.slice (P.elem t)) := by rw [elem_of hu]; exact hu
  have h3 := run_sliceAt_slice (P := P) (w := w) t (.slice (some ⟨g, 0, none⟩) m c) (some (.int .i64 1)) none none hu'
  have h4 := run_slice_l (P := P) (w := w) t (some ⟨g, 0, none⟩) m c hu' .i64 1 (by omega) (by omega)
  rw [elem_of hu] at h4
  have h5 : sliced (some (⟨g, 0, none⟩ : Addr)) 1 m c i.size = .slice (some (if c = 1 then ⟨g, 0, none⟩ else ⟨g, k, none⟩)) (m - 1) (c - 1) := by
    unfold sliced
    by_cases h : c = 1
    · simp [h]
    · simp [h, hsz, Addr.add_lit]
  simp [execOp, hA.ev hx, hA.ev hy, h3, h4, sizeOf, typeInfo, hi, h5]
theorem Y_slLHM {t e : TypeId} {k by_ m c : Nat} {a0 : Option Addr} {l h M : Int} {x y z u : Operand} [ht : TSlice P t e k by_] (hx : ev env x = some (.slice a0 m c)) (hy : ev env y = some (.int .i64 l)) (hz : ev env z = some (.int .i64 h)) (hu : ev env u = some (.int .i64 M)) (h0 : 0 ≤ l) (h1 : l ≤ h) (h2 : h ≤ M) (h3 : M ≤ c) :
    Y P n ⟨some d, .slice t x (some y) (some z) (some u), ty, pos, af, none⟩ env (sliced a0 l.toNat h.toNat M.toNat k) := fun a hA w => by
  obtain ⟨i, z0, hu', hi, hsz, _⟩ := ht.sl
  have hu2 : P.underlying t = some (.slice (P.elem t)) := by rw [elem_of hu']; exact hu'
  have h4 := run_sliceAt_slice (P := P) (w := w) t (.slice a0 m c) (some (.int .i64 l)) (some (.int .i64 h)) (some (.int .i64 M)) hu2
  have h5 := run_slice_lhm (P := P) (w := w) t a0 m c hu2 .i64 .i64 .i64 l h M h0 h1 h2 h3
  rw [elem_of hu'] at h5
  simp [execOp, hA.ev hx, hA.ev hy, hA.ev hz, hA.ev hu, h4, h5, sizeOf, typeInfo, hi, hsz]
theorem Y_slLH {t e : TypeId} {k by_ m c g : Nat} {l h : Int} {x y z : Operand} [ht : TSlice P t e k by_] (hx : ev env x = some (.slice (some ⟨g, 0, none⟩) m c)) (hy : ev env y = some (.int .i64 l)) (hz : ev env z = some (.int .i64 h)) (h0 : 0 ≤ l) (h1 : h = l + 1) (h2 : h ≤ c) :
    Y P n ⟨some d, .slice t x (some y) (some z) none, ty, pos, af, none⟩ env (.slice (some ⟨g, l.toNat * k, none⟩) 1 (c - l.toNat)) := fun a hA w => by
  obtain ⟨i, z0, hu', hi, hsz, _⟩ := ht.sl
  have hu2 : P.underlying t = some (.slice (P.elem t)) := by rw [elem_of hu']; exact hu'
  have h4 := run_sliceAt_slice (P := P) (w := w) t (.slice (some ⟨g, 0, none⟩) m c) (some (.int .i64 l)) (some (.int .i64 h)) none hu2
  have h5 := run_slice_lh (P := P) (w := w) t (some ⟨g, 0, none⟩) m c hu2 .i64 .i64 l h h0 (by omega) h2
  rw [elem_of hu'] at h5
  have h6 : sliced (some (⟨g, 0, none⟩ : Addr)) l.toNat h.toNat c i.size = .slice (some ⟨g, l.toNat * k, none⟩) 1 (c - l.toNat) := by
    unfold sliced
    rw [if_neg (by omega), show h.toNat - l.toNat = 1 by omega, hsz]
    simp [Addr.add_lit]
  simp [execOp, hA.ev hx, hA.ev hy, hA.ev hz, h4, h5, sizeOf, typeInfo, hi, h6]
/-- appended in the block itself -/
theorem SW_appRoom {t e : TypeId} {k by_ m c g cc : Nat} {q : Addr} {x y : Operand} {cur news : List Value} {F : Asr → List Asr} [ht : TSlice P t e k by_] (hx : ev env x = some (.slice (some ⟨g, 0, none⟩) 0 c)) (hy : ev env y = some (.slice (some q) m cc)) (h : Hole A (.blk g e cur) F)
    (hl : news.length = m * k) (hn : ∀ w, Blk w g e cur → ∀ j u, news[j]? = some u → w.cell? (q.add j) = some u) (h1 : ∀ u ∈ news, u.oneCell' = true) (hroom : m ≤ c) (hfit : news.length ≤ cur.length)
    (next : SW P n ops rest Q ((d, .slice (some ⟨g, 0, none⟩) m c) :: env) w0 (F (.blk g e (upd cur 0 news)))) (hd : Nat.blt d n = true := by rfl) :
    SW P n ops (⟨some d, .call ⟨.builtin .append, #[x, y], #[t, t]⟩, ty, pos, af, none⟩ :: rest) Q env w0 A := by
  obtain ⟨i, hA, hB⟩ := h.ix
  obtain ⟨ti, z0, hu, hi, hsz, _⟩ := ht.sl
  unfold SW at next ⊢
  intro w s
  have hb := s.blk i hA
  have hr := run_append_room (P := P) w t ty e ti hu hi g 0 c cur.toArray hb q m cc news (by rw [hsz]; exact hl) (hn w hb) h1 (by omega) (by simpa using hfit)
  refine LW_run rfl hd (fun a ha => ?_) (next (w.setRow g (upd cur 0 news).toArray) (hB _ ▸ s.set i hA (((Mod.refl [g] w).setRow g _ (.inr (by simp)))) (hb.row _) (fun b hb => .inl (by simpa [Asr.foot] using hb))))
  have e9 : upd cur 0 news = cur.toArray.toList.take (0 * ti.size) ++ news ++ cur.toArray.toList.drop (0 * ti.size + news.length) := by unfold upd; simp
  rw [e9]
  simp [execOp, resolve, invoke, builtin, ha.ev hx, ha.ev hy, hr]
/-- an element wiped -/
theorem SW_clear1 {t e : TypeId} {k by_ c g o : Nat} {x : Operand} {cur : List Value} {zl : List Value} {F : Asr → List Asr} [ht : TSlice P t e k by_] [hz : TZero P e zl] (hx : ev env x = some (.slice (some ⟨g, o, none⟩) 1 c)) (h : Hole A (.blk g e cur) F)
    (h1 : zl.all Value.oneCell' = true) (hfit : o + zl.length ≤ cur.length) (hzv : ∀ w, ∃ z, (zeroValue e).run P w = .ok z w ∧ z.cells = zl.toArray)
    (next : SW P n ops rest Q env w0 (F (.blk g e (upd cur o zl)))) : SW P n ops (⟨none, .call ⟨.builtin .clear, #[x], #[t]⟩, ty, pos, af, none⟩ :: rest) Q env w0 A := by
  obtain ⟨i, hA, hB⟩ := h.ix
  obtain ⟨ti, z0, hu, hi, hsz, _⟩ := ht.sl
  unfold SW at next ⊢
  intro w s
  have hb := s.blk i hA
  obtain ⟨z, hzr, hzc⟩ := hzv w
  have hcells : (Builtin.zeroCells z.cells 1).toList = zl := by
    rw [hzc]
    apply List.ext_getElem
    · simp [Builtin.zeroCells]
    · intro j h1 h2
      simp [Builtin.zeroCells] at h1 ⊢
      simp [Nat.mod_eq_of_lt h2, List.getElem?_eq_getElem h2]
  have hst := run_storeCells_at P g o e zl 0 cur.toArray w hb (by simpa using hfit) (List.all_eq_true.1 h1)
  simp only [Nat.add_zero] at hst
  refine LW_run (v := .tuple #[]) rfl rfl (fun a ha => ?_) (next (w.setRow g (upd cur o zl).toArray) (hB _ ▸ s.set i hA (((Mod.refl [g] w).setRow g _ (.inr (by simp)))) (hb.row _) (fun b hb => .inl (by simpa [Asr.foot] using hb))))
  have e9 : upd cur o zl = cur.toArray.toList.take o ++ zl ++ cur.toArray.toList.drop (o + zl.length) := by unfold upd; simp
  rw [e9]
  simp [execOp, resolve, invoke, builtin, ha.ev hx, Builtin.clear_, run_underlying hu, hzr, hcells, hst]
end
end Go.Proofs.Ythjlafpfhgbfoaa
