/- What is proved: len, cap, min, max and interfaces of the evaluator are the model's. -/
import Derived.Test.YtbggihomiadjjaaGreatDoorEvOps4
set_option linter.unusedVariables false
set_option linter.unusedSimpArgs false
namespace Go.Ev
open Go Go.Fw

section
variable {P : Program} {o : Oper} {a : Act} {w : World} {f : F} {s s' : S} {ρ : Rho} {N : Nat} {r : AV}
theorem lenB_run {t : Nat} {x : AV} {v : Value} {T : Array TypeId} {A : Array Value} {ty : TypeId} (h : lenB P t x s = some (r, s')) (hv : RV ρ x v) (hT : T[0]? = some t) (hA : A[0]? = some v) : s' = s ∧ ∃ u, (∀ w, (Builtin.len_ T ty A).run P w = .ok u w) ∧ RV ρ r u := by
  unfold lenB at h
  split at h
  · rename_i n c ht
    injection h with h
    injection h with h1 h2
    subst h1 h2
    obtain ⟨b, rfl, hb, _⟩ := hv
    have hbs : b.size = n := by
      show b.data.size = n
      rw [← Array.length_toList, hb, byL_len]
    exact ⟨rfl, .int .i64 (n : Int), fun w => by simp [Builtin.len_, hT, hA, run_und (undT_eq ht), goInt, hbs], rfl⟩
  · rename_i n e ht
    injection h with h
    injection h with h1 h2
    subst h1 h2
    exact ⟨rfl, .int .i64 (n : Int), fun w => by simp [Builtin.len_, hT, hA, run_und (undT_eq ht), goInt], rfl⟩
  · rename_i e ht
    injection h with h
    injection h with h1 h2
    subst h1 h2
    have ev : v = .slice none 0 0 := hv
    exact ⟨rfl, .int .i64 (0 : Nat), fun w => by simp [Builtin.len_, hT, hA, run_und (undT_eq ht), goInt, ev], rfl⟩
  · rename_i e i k n c ht
    injection h with h
    injection h with h1 h2
    subst h1 h2
    obtain ⟨A', c', p, rfl, _⟩ := hv.sl_
    exact ⟨rfl, .int .i64 (n : Int), fun w => by simp [Builtin.len_, hT, hA, run_und (undT_eq ht), goInt], rfl⟩
  · cases h
theorem capB_run {t : Nat} {x : AV} {v : Value} {T : Array TypeId} {A : Array Value} {ty : TypeId} (h : capB P t x s = some (r, s')) (hv : RV ρ x v) (hT : T[0]? = some t) (hA : A[0]? = some v) : s' = s ∧ ∃ u, (∀ w, (Builtin.cap_ T ty A).run P w = .ok u w) ∧ RV ρ r u := by
  unfold capB at h
  split at h
  · rename_i e ht
    injection h with h
    injection h with h1 h2
    subst h1 h2
    have ev : v = .slice none 0 0 := hv
    exact ⟨rfl, .int .i64 (0 : Nat), fun w => by simp [Builtin.cap_, hT, hA, run_und (undT_eq ht), goInt, ev], rfl⟩
  · rename_i e i k n c ht
    injection h with h
    injection h with h1 h2
    subst h1 h2
    obtain ⟨p, hp, rfl, _⟩ := hv
    exact ⟨rfl, .int .i64 (c : Int), fun w => by simp [Builtin.cap_, hT, hA, run_und (undT_eq ht), goInt], rfl⟩
  · cases h
theorem minI_run {x y : AV} {u v : Value} (h : minI x y = some r) (hu : RV ρ x u) (hv : RV ρ y v) : ∃ z, (∀ w, (Builtin.min2 u v).run P w = .ok z w) ∧ RV ρ r z := by
  unfold minI at h
  split at h
  · rename_i k p j q
    injection h with h
    subst h
    rw [show u = _ from hu, show v = _ from hv, iLt_dec]
    refine ⟨.int k (if q < p then q else p), fun w => by simp [Builtin.min2], ?_⟩
    by_cases e : q < p
    · rw [decide_eq_true e, if_pos e]; rfl
    · rw [decide_eq_false e, if_neg e]; rfl
  · cases h
theorem maxI_run {x y : AV} {u v : Value} (h : maxI x y = some r) (hu : RV ρ x u) (hv : RV ρ y v) : ∃ z, (∀ w, (Builtin.max2 u v).run P w = .ok z w) ∧ RV ρ r z := by
  unfold maxI at h
  split at h
  · rename_i k p j q
    injection h with h
    subst h
    rw [show u = _ from hu, show v = _ from hv, iLt_dec]
    refine ⟨.int k (if p < q then q else p), fun w => by simp [Builtin.max2], ?_⟩
    by_cases e : p < q
    · rw [decide_eq_true e, if_pos e]; rfl
    · rw [decide_eq_false e, if_neg e]; rfl
  · cases h
theorem foldI_run {g : AV → AV → Option AV} {G : Value → Value → Sem Value} (hg : ∀ x y u v r, g x y = some r → RV ρ x u → RV ρ y v → ∃ z, (∀ w, (G u v).run P w = .ok z w) ∧ RV ρ r z) :
    ∀ {l : List AV} {vs : List Value} {x : AV} {u : Value} {r : AV}, foldI g l x = some r → RV ρ x u → RVs ρ l vs → ∃ z, (∀ w, (vs.foldlM G u).run P w = .ok z w) ∧ RV ρ r z
  | [], vs, x, u, r, h, hx, hr => by
    injection h with h
    subst h
    rw [show vs = [] from hr]
    exact ⟨u, fun _ => rfl, hx⟩
  | y :: l, vs, x, u, r, h, hx, hr => by
    obtain ⟨v, vs', rfl, hv, hr'⟩ := hr
    simp only [foldI, Option.bind_eq_some_iff] at h
    obtain ⟨q, hq, h⟩ := h
    obtain ⟨z, hz, hzr⟩ := hg _ _ _ _ _ hq hx hv
    obtain ⟨z', hz', hr2⟩ := foldI_run hg h hzr hr'
    refine ⟨z', fun w => ?_, hr2⟩
    rw [List.foldlM_cons]
    simp only [Sem.run_bind, hz, Result.andThen_ok, hz']
theorem op_iface {t : Nat} {x : Operand} (ho : o.op = .makeInterface t x) (h : oIface P f s t x = some (r, s')) (hF : FO ρ f a o) : OpG P o a ρ s r s' := by
  simp only [oIface, Option.bind_eq_some_iff] at h
  obtain ⟨v, hv, d, hd, h⟩ := h
  have hc := hF.opd (by rw [ho]; simp [Op.operands]) hv
  have gen : (∀ m, d ≠ .interface m) → (bif v.one then some (AV.ifc t v, s) else none) = some (r, s') → OpG P o a ρ s r s' := fun hne h => by
    cases h1 : v.one with
    | false => rw [h1] at h; cases h
    | true =>
      rw [h1] at h
      injection h with h
      injection h with h2 h3
      subst h2 h3
      refine OpG.gv (v := .iface t (a.eval x)) (fun w => ?_) ⟨_, rfl, hc⟩
      unfold Gv execOp
      rw [ho]
      cases d <;> first | exact absurd rfl (hne _) | simp [Instr.makeInterface, run_und (undT_eq hd)]
  cases d <;> first | exact gen (by intro m e; cases e) h | cases h
end
end Go.Ev
