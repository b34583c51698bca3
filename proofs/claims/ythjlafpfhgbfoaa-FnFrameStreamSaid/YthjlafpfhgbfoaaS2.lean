/- Further operations of the walks with the memory as a list: functions as values, strings. No condition. -/
import Derived.Test.YthjlafpfhgbfoaaS
namespace Go.Proofs.Ythjlafpfhgbfoaa
open Go Go.RowKit
set_option linter.unusedSimpArgs false
set_option linter.unusedVariables false
section
variable {P : Program} {n : Nat} {Q : Post} {J : Env → Prop} {env : Env} {w0 w : World} {A : List Asr} {ops : Array Oper} {rest : List Oper}
variable {d : Nat} {ty : TypeId} {pos : String} {af : Array Edge}
theorem Y_makeFunc {fn : Fn} {first captured : Array Operand} {fs cs : List Value} (h1 : evL env first.toList = some fs) (h2 : evL env captured.toList = some cs) :
    Y P n ⟨some d, .makeFunc fn first captured, ty, pos, af, none⟩ env (.func fn fs.toArray cs.toArray) := fun a ha w => by
  have e1 : first.map a.eval = fs.toArray := by rw [← Array.toList_inj, Array.toList_map, ha.evL h1]
  have e2 : captured.map a.eval = cs.toArray := by rw [← Array.toList_inj, Array.toList_map, ha.evL h2]
  simp [execOp, Instr.makeFunc, e1, e2]
theorem SW_makeFunc {fn : Fn} {first captured : Array Operand} {fs cs : List Value} (h1 : evL env first.toList = some fs) (h2 : evL env captured.toList = some cs)
    (next : SW P n ops rest Q ((d, .func fn fs.toArray cs.toArray) :: env) w0 A) (hd : Nat.blt d n = true := by rfl) : SW P n ops (⟨some d, .makeFunc fn first captured, ty, pos, af, none⟩ :: rest) Q env w0 A := SW_y (Y_makeFunc h1 h2) next hd
theorem LW_callFV {f : FuncId} {x : Operand} {args : Array Operand} {tys : Array TypeId} {fs cs vals : List Value} {R : Ending → World → Prop} (hx : ev env x = some (.func (.func f) fs.toArray cs.toArray)) (ha : evL env args.toList = some vals) (hc : CallOK P f)
    (h : Calls P f (fs ++ vals ++ cs).toArray w R) (hk : ∀ e w', R e w' → ∃ v, e = .returned v ∧ LW P n ops rest Q ((d, v) :: env) w') (hd : Nat.blt d n = true := by rfl) :
    LW P n ops (⟨some d, .call ⟨.value x, args, tys⟩, ty, pos, af, none⟩ :: rest) Q env w := by
  unfold LW at hk ⊢
  exact fun a hA =>
    wpList_plain rfl fun K hK => by
    have hargs : args.map a.eval = vals.toArray := by
      rw [← Array.toList_inj, Array.toList_map, hA.evL ha]
    have hrun : (execOp a.eval ⟨some d, .call ⟨.value x, args, tys⟩, ty, pos, af, none⟩).run P w = .ok (.enter f (fs ++ vals ++ cs).toArray) w := by
      have := hc (fs ++ vals ++ cs).toArray w
      simp only [List.append_assoc] at this
      simp [execOp, resolve, hargs, hA.ev hx, Deferred.ofValue, invoke, this]
    unfold Oper.wp
    rw [hrun]
    refine h.mono fun e w' hR => ?_
    obtain ⟨v, rfl, hv⟩ := hk e w' hR
    exact hK _ _ (hv _ (hA.put (d := some d) hd v))
theorem SW_callXF {f : FuncId} {x : Operand} {args : Array Operand} {tys : Array TypeId} {fs cs vals : List Value} {p : Prop} (hx : ev env x = some (.func (.func f) fs.toArray cs.toArray)) (ha : evL env args.toList = some vals) (hc : CallOK P f)
    (h : ∀ w, St w0 w A → Calls P f (fs ++ vals ++ cs).toArray w (RetX p w)) (ht : p → SW P n ops rest Q ((d, (.bool true)) :: env) w0 A) (hf : ¬ p → SW P n ops rest Q ((d, (.bool false)) :: env) w0 A) (hd : Nat.blt d n = true := by rfl) :
    SW P n ops (⟨some d, .call ⟨.value x, args, tys⟩, ty, pos, af, none⟩ :: rest) Q env w0 A := by
  unfold SW at ht hf ⊢
  exact fun w s => LW_callFV hx ha hc (h w s) (fun e w' ⟨he, hm⟩ => by
    refine ⟨_, he, ?_⟩
    by_cases hp : p
    · rw [tr_true hp]; exact ht hp w' (s.more hm)
    · rw [tr_false hp]; exact hf hp w' (s.more hm)) hd
end
end Go.Proofs.Ythjlafpfhgbfoaa
