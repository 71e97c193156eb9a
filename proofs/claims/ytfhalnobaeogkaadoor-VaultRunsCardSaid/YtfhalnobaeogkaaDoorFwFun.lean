/- What is proved: a function that captures is made; a call through such a value. -/
import Derived.Test.YtfhalnobaeogkaaDoorFwSeq
set_option linter.unusedVariables false
set_option linter.unusedSimpArgs false
namespace Go.Fw
open Go Go.RowKit
section
variable {P : Program} {N : Nat} {a : Act} {w w0 : World} {m : List (Nat × Value)} {H : List Ent} {o : Oper} {ops : Array Oper} {K : Act → World → Prop} {Q : Exit → Act → World → Prop} {x y : Operand}
theorem gv_makeFunc {fn : Fn} {xs : List Operand} {vs : List Value} (ho : o.op = .makeFunc fn #[] xs.toArray) (hx : Evs a xs vs) : Gv P o a w (.func fn #[] vs.toArray) := by
  unfold Gv execOp
  rw [ho]
  have hm := hx.map
  simp [Instr.makeFunc, hm]
theorem run_callVal {f : FuncId} {xf : Operand} {xs : List Operand} {vs caps : List Value} {ats : Array TypeId} (hf : CallOk P f) (ho : o.op = .call { callee := .value xf, args := xs.toArray, argTypes := ats }) (he : a.eval xf = .func (.func f) #[] caps.toArray) (hx : Evs a xs vs) :
    (execOp a.eval o).run P w = .ok (.enter f (vs ++ caps).toArray) w := by
  unfold execOp
  rw [ho]
  have hm := hx.map
  simp [resolve, he, Deferred.ofValue, invoke, run_callFunc hf, hm]
theorem stp_callV {f : FuncId} {xf : Operand} {xs : List Operand} {vs caps : List Value} {ats : Array TypeId} {R : Ending → World → Prop} (hF : Fr N a m) (hw : Region.wanted o (yielded ops a.tmps) = true) {d : Nat} (hd : o.dst = some d) (hN : Nat.blt d N = true) (hf : CallOk P f)
    (ho : o.op = .call { callee := .value xf, args := xs.toArray, argTypes := ats }) (he : a.eval xf = .func (.func f) #[] caps.toArray) (hx : Evs a xs vs) (hc : Calls P f (vs ++ caps).toArray w R)
    (h : ∀ e w', R e w' → ∃ v, e = .returned v ∧ ∀ a', Fr N a' ((d, v) :: m) → K a' w') : Stp P ops Q o a w K := by
  refine stp_wp hw ?_
  unfold Oper.wp
  rw [run_callVal hf ho he hx]
  refine Calls.mono hc fun e w' hr => ?_
  obtain ⟨v, rfl, h⟩ := h e w' hr
  show K (a.put o.dst v) w'
  rw [hd]
  exact h _ (hF.put v hN)
end
end Go.Fw
