/- What is proved: calls, and what the evaluator says of a region that draws its order. -/
import Derived.Test.YtbggihomiadjjaaGreatDoorEvReg
set_option linter.unusedVariables false
set_option linter.unusedSimpArgs false
namespace Go.Ev
open Go Go.Fw

section
variable {P : Program} {o : Oper} {a : Act} {w : World} {f : F} {s s' : S} {ρ : Rho} {r : AV} {call : Nat → List AV → S → R}
/-- What is known of calls. -/
def CallS (P : Program) (call : Nat → List AV → S → R) : Prop := ∀ k l s r s', call k l s = some (r, s') → ∀ ρ w vs, Rel ρ s w → RVs ρ l vs →
  CallOk P k ∧ Calls P k vs.toArray w (fun e w' => ∃ v ρ', e = .returned v ∧ RV ρ' r v ∧ Goes ρ s w ρ' s' w')
theorem isCall_some {q : Op} (h : isCall q = true) : ∃ c, q = .call c ∧ ((∃ x, c.callee = .value x) ∨ ∃ x n, c.callee = .invoke x n) := by
  cases q with
  | call c =>
    refine ⟨c, rfl, ?_⟩
    cases hc : c.callee with
    | value x => exact .inl ⟨x, rfl⟩
    | invoke x n => exact .inr ⟨x, n, rfl⟩
    | builtin b =>
      have h' : (Callee.rec (motive := fun _ => Bool) (fun _ => true) (fun _ _ => true) (fun _ => false) c.callee : Bool) = true := h
      rw [hc] at h'
      cases h'
  | _ => cases h
theorem run_method {t k n : Nat} {v : Value} {name : String} {i : TypeInfo} {m : Method} {e : TypeId} (hi : P.info? t = some i) (hm : i.methods.find? (·.name == name) = some m) (hp : m.path.toList = []) (hf : m.func = some (k, true)) (ht : P.underlying t = some (.pointer e)) :
    (method (n + 1) t v name).run P w = .ok (k, v) w := by
  simp [method, typeInfo, hi, hm, hp, follow, hf, receiverAt, run_und ht, Place.get]
theorem enter_effW {k : Nat} {A : Array Value} (h : (execOp a.eval o).run P w = .ok (.enter k A) w) (hc : Calls P k A w (fun e w' => ∃ v ρ', e = .returned v ∧ RV ρ' r v ∧ Goes ρ s w ρ' s' w')) : EffW P o a w ρ s r s' := by
  intro Q K hK
  unfold Oper.wp
  rw [h]
  refine Calls.mono hc fun e w' he => ?_
  obtain ⟨v, ρ', rfl, h1, h2⟩ := he
  exact hK v ρ' w' h1 h2
theorem opR_effW (hc : CallS P call) (h : opR P call f s o.op = some (r, s')) (hF : FO ρ f a o) (hl : Rel ρ s w) : EffW P o a w ρ s r s' := by
  unfold opR at h
  cases hi : isCall o.op with
  | false =>
    rw [hi] at h
    exact (opA_run h hF hl).effW
  | true =>
    rw [hi] at h
    obtain ⟨c, hq, hcal⟩ := isCall_some hi
    simp only [cond_true, Option.bind_eq_some_iff] at h
    obtain ⟨⟨k, l⟩, hca, h⟩ := h
    rw [hq] at hca
    rcases hcal with ⟨x, hx⟩ | ⟨x, nm, hx⟩
    · simp only [callA, hx, Option.bind_eq_some_iff] at hca
      obtain ⟨v, hv, hca⟩ := hca
      have hrv := hF.opd (by rw [hq]; simp [Op.operands, Call.operands, hx]) hv
      cases v with
      | fn k' first cap =>
        simp only [Option.map_eq_some_iff, Prod.mk.injEq] at hca
        obtain ⟨as, has, rfl, rfl⟩ := hca
        obtain ⟨f', c', he, h1, h2⟩ := hrv
        have hargs := callArgs hq hF has
        obtain ⟨g1, g2⟩ := hc _ _ _ _ _ h ρ w _ hl (h1.append (hargs.append h2))
        refine enter_effW ?_ g2
        unfold execOp
        rw [hq]
        have e1 : (f' ++ c.args.map a.eval ++ c') = (f'.toList ++ ((c.args.map a.eval).toList ++ c'.toList)).toArray := by
          apply Array.ext'
          simp
        simp only [resolve, hx, he, Deferred.ofValue, Sem.run_bind, Sem.run_pure, Result.andThen_ok, invoke, e1, run_callFunc g1]
      | _ => cases hca
    · simp only [callA, hx, Option.bind_eq_some_iff] at hca
      obtain ⟨v, hv, hca⟩ := hca
      have hrv := hF.opd (by rw [hq]; simp [Op.operands, Call.operands, hx]) hv
      cases v with
      | ifc t u =>
        simp only [Option.bind_eq_some_iff, Option.map_eq_some_iff, Prod.mk.injEq] at hca
        obtain ⟨k', hk', as, has, rfl, rfl⟩ := hca
        obtain ⟨uv, he, hu⟩ := hrv
        have hargs := callArgs hq hF has
        obtain ⟨g1, g2⟩ := hc _ _ _ _ _ h ρ w (uv :: (c.args.map a.eval).toList) hl ⟨uv, _, rfl, hu, hargs⟩
        refine enter_effW ?_ g2
        simp only [methA, Option.bind_eq_some_iff] at hk'
        obtain ⟨i, hi, m, hm, hk'⟩ := hk'
        have hi' := infoT_eq hi
        have hm' : i.methods.find? (·.name == nm) = some m := by rw [← Array.find?_toList]; exact hm
        split at hk'
        · rename_i f2 e2 hp hf hu2
          injection hk' with hk'
          subst hk'
          have hpos : ∃ n, P.types.size + Made.depth = n + 1 := by
            have : 0 < P.types.size := by
              rw [infoT, nth_eq] at hi
              have := (List.getElem?_eq_some_iff.1 hi).1
              rw [Array.length_toList] at this
              omega
            exact ⟨P.types.size + Made.depth - 1, by omega⟩
          obtain ⟨n, hn⟩ := hpos
          have hrm := run_method (w := w) (n := n) (v := uv) hi' hm' hp hf (undT_eq hu2)
          have e1 : (#[uv] ++ (#[(.iface t uv : Value)] ++ c.args.map a.eval).extract 1 (#[(.iface t uv : Value)] ++ c.args.map a.eval).size) = (uv :: (c.args.map a.eval).toList).toArray := by
            apply Array.ext'
            simp
            exact List.take_of_length_le (by simp)
          have e0 : (#[(.iface t uv : Value)] ++ c.args.map a.eval)[0]? = some (.iface t uv) := arr0 (l := (c.args.map a.eval).toList) (by rw [Array.toList_append]; rfl)
          have hprog : (program : Sem Program).run P w = .ok P w := rfl
          unfold execOp
          rw [hq]
          simp only [resolve, hx, he, Sem.run_bind, Sem.run_pure, Result.andThen_ok, invoke, e0, callMethod, hprog, hn, hrm, e1, run_callFunc g1]
        · cases hk'
      | _ => cases hca
end
end Go.Ev
