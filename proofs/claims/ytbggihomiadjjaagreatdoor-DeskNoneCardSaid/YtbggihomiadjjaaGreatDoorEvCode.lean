/- What is proved: what the evaluator says of code and of calls is what the model comes to. -/
import Derived.Test.YtbggihomiadjjaaGreatDoorEvD
import Derived.LoopN
import Derived.Scope
set_option linter.unusedVariables false
set_option linter.unusedSimpArgs false
namespace Go.Ev
open Go Go.Fw

section
variable {P : Program} {call : Nat → List AV → S → R} {Q : Exit → Act → World → Prop} {N : Nat}
theorem loadVar_run {s : S} {t i o : Nat} {v : AV} {ρ : Rho} {w : World} {p : Pl} (hv : loadA P s t i o = some v) (hl : Rel ρ s w) (hp : ρ i = some p) : ∃ u, (loadVar t ⟨p.b, p.o + o, none⟩).run P w = .ok u w ∧ RV ρ v u := by
  unfold loadA at hv
  cases hr : s.h.get i with
  | none => rw [hr] at hv; cases hv
  | some row =>
    rw [hr] at hv
    simp only [Option.bind_eq_some_iff] at hv
    obtain ⟨A, hA, hv⟩ := hv
    have hnd : row ≠ .dead := by
      rintro rfl
      cases A
      · cases hv
      · simp only [cond_true, Option.bind_eq_some_iff] at hv
        obtain ⟨n, _, hv⟩ := hv
        cases hv
    simp only [isAggT, Option.bind_eq_some_iff] at hA
    obtain ⟨d, hd, hA⟩ := hA
    obtain ⟨p', hp', hra⟩ := hl.row i row hr hnd
    rw [hp] at hp'
    injection hp' with hp'
    subst hp'
    cases A with
    | false =>
      obtain ⟨u, hu, hru, _⟩ := hra.cell hv
      refine ⟨u, ?_, hru⟩
      have h1 := run_isAgg_false (P := P) (undT_eq hd) (by cases d <;> first | rfl | cases hA)
      simp [loadVar, h1, load, Sem.run, hu]
    | true =>
      simp only [cond_true, Option.bind_eq_some_iff] at hv
      obtain ⟨n, hn, hv⟩ := hv
      obtain ⟨vs, hlen, hcs, hru⟩ := hra.cells_ hv
      refine ⟨.agg vs.toArray, ?_, hru⟩
      have h1 := run_isAgg_true (P := P) (undT_eq hd) (by cases d <;> first | rfl | cases hA)
      have h2 := run_loadCells_list (P := P) w ⟨p.b, p.o + o, none⟩ vs (fun j u hu => by rw [Fw.add_lit]; exact hcs j u hu)
      have h3 := Fw.run_sizeOf (P := P) (e := t) (n := vs.length) (by rw [hlen]; exact sizeT_eq hn)
      simp [loadVar, h1, h3, h2]

/-! ### Regions in the order of the text -/
theorem seqA_run {ops : Array Oper} (hc : CallS P call) : ∀ (l : List Oper) {f f' : F} {s s' : S} {a : Act} {w : World} {ρ : Rho}, seqA P call N ops.toList l f s = some (f', s') → Rel ρ s w → FR N ρ f a →
    (∀ a' w' ρ', FR N ρ' f' a' → Goes ρ s w ρ' s' w' → Q .normal a' w') → wpList P ops Q l a w
  | [], f, f', s, s', a, w, ρ, h, hR, hF, hQ => by
    have h : some (f, s) = some (f', s') := h
    simp only [Option.some.injEq, Prod.mk.injEq] at h
    obtain ⟨rfl, rfl⟩ := h
    exact hQ a w ρ hF (Goes.refl hR)
  | o :: l, f, f', s, s', a, w, ρ, h, hR, hF, hQ => by
    have h : ((step1 P call N ops.toList o f s).bind fun (f, s) => seqA P call N ops.toList l f s) = some (f', s') := h
    simp only [Option.bind_eq_some_iff] at h
    obtain ⟨⟨f2, s2⟩, h1, h2⟩ := h
    simp only [step1, Option.bind_eq_some_iff] at h1
    obtain ⟨wt, hw, h1⟩ := h1
    have hwt := want_run (o := o) (a := a) (ρ := ρ) hw (fun t _ v hv => hF.get t v hv)
    unfold wpList
    rw [hwt]
    cases wt with
    | false =>
      rw [if_neg Bool.false_ne_true]
      simp only [cond_false, Option.bind_eq_some_iff, Option.some.injEq, Prod.mk.injEq] at h1
      obtain ⟨f3, hf, rfl, rfl⟩ := h1
      exact seqA_run hc l h2 hR (hF.put (r := .undef) rfl hf) hQ
    | true =>
      rw [if_pos rfl]
      refine .inl ?_
      simp only [cond_true, Option.bind_eq_some_iff, Option.some.injEq, Prod.mk.injEq] at h1
      obtain ⟨⟨r, s3⟩, hr, f3, hf, rfl, rfl⟩ := h1
      refine opR_effW hc hr (hF.fo hR.gl) hR Q _ fun v ρ' w' hv G => ?_
      exact seqA_run hc l h2 G.rel ((hF.mono G.ext).put hv hf) fun a' w'' ρ'' g1 g2 => hQ a' w'' ρ'' g1 (G.trans g2)

/-! ### Code -/
def exOf : Ex → Exit
  | .norm => .normal
  | .exit i => .exit i
  | .ret => .ret
def CodeS (P : Program) (rec : Nat → Code → F → S → RC) : Prop := ∀ N c f s e f' s', rec N c f s = some (e, f', s') → ∀ ρ a w, Rel ρ s w → FR N ρ f a → ∀ Q : Exit → Act → World → Prop,
  (∀ a' w' ρ', FR N ρ' f' a' → Goes ρ s w ρ' s' w' → Q (exOf e) a' w') → c.wp P Q a w
def LoopS (P : Program) (rec : Nat → Code → F → S → RC) : Prop := ∀ N b f s e f' s', rec N (.loop b) f s = some (e, f', s') → ∃ k, ∀ ρ a w, Rel ρ s w → FR N ρ f a → ∀ Q : Exit → Act → World → Prop,
  (∀ a' w' ρ', FR N ρ' f' a' → Goes ρ s w ρ' s' w' → Q (exOf e) a' w') → Code.rounds P b Q k a w
/-- What is asked of a program: that regions may draw their order, and no function of a name that the model keeps for itself. -/
structure PrOk (P : Program) : Prop where
  mixed : P.follows .mixedOrders = true
  names : ∀ fn ∈ P.funcs.toList, (fn.name == "runtime.NumGoroutine") = false
theorem argsF_get : ∀ (l : List AV) (i : Nat) (f : F) {t : Nat} {v : AV}, (argsF l i f).get t = some v → f.get t = some v ∨ (i ≤ t ∧ l[t - i]? = some v)
  | [], i, f, t, v, h => .inl h
  | x :: l, i, f, t, v, h => by
    rcases argsF_get l (Nat.succ i) _ h with h | ⟨h1, h2⟩
    · rcases T.get_set h with ⟨rfl, rfl⟩ | ⟨_, h⟩
      · exact .inr ⟨Nat.le_refl _, by simp⟩
      · exact .inl h
    · refine .inr ⟨Nat.le_of_succ_le h1, ?_⟩
      rw [show t - i = (t - Nat.succ i) + 1 by omega, List.getElem?_cons_succ]
      exact h2
theorem resA_run {f : F} {s : S} {ρ : Rho} {a : Act} {w : World} (hF : FR N ρ f a) (hR : Rel ρ s w) {g : ResultVar → Sem Value} (hg1 : ∀ t, g (.tmp t) = pure (a.tmps.getD t undef)) (hg2 : ∀ b t, g (.cell b t) = (do loadVar t (← asAddr (a.tmps.getD b undef)))) : ∀ {rs : List ResultVar} {l : List AV}, resA P f s rs = some l →
    ∃ vs, (rs.mapM g).run P w = Result.ok vs w ∧ RVs ρ l vs
  | [], l, h => by
    injection h with h
    subst h
    exact ⟨[], rfl, rfl⟩
  | .tmp t :: rs, l, h => by
    simp only [resA, Option.bind_eq_some_iff, Option.map_eq_some_iff] at h
    obtain ⟨v, hv, l', hl, rfl⟩ := h
    obtain ⟨vs, g1, g2⟩ := resA_run hF hR hg1 hg2 hl
    refine ⟨_ :: vs, ?_, _, _, rfl, hF.get t v hv, g2⟩
    rw [List.mapM_cons, hg1]
    simp only [Sem.run_bind, Sem.run_pure, Result.andThen_ok, g1]
    rfl
  | .cell b t :: rs, l, h => by
    simp only [resA] at h
    split at h
    · rename_i i o hb
      simp only [Option.bind_eq_some_iff, Option.map_eq_some_iff] at h
      obtain ⟨v, hv, l', hl, rfl⟩ := h
      obtain ⟨vs, g1, g2⟩ := resA_run hF hR hg1 hg2 hl
      obtain ⟨p, hp, he⟩ := hF.get b _ hb
      obtain ⟨u, hu, hru⟩ := loadVar_run hv hR hp
      refine ⟨u :: vs, ?_, _, _, rfl, hru, g2⟩
      have he' : a.tmps.getD b undef = .pointer (some ⟨p.b, p.o + o, none⟩) := he
      rw [List.mapM_cons, hg2]
      simp only [Sem.run_bind, he', asAddr, Sem.run_pure, Result.andThen_ok, hu, g1]
    · cases h
theorem results_run {fn : Func} {f : F} {s : S} {ρ : Rho} {a : Act} {w : World} (hF : FR N ρ f a) (hR : Rel ρ s w) {l : List AV} (h : resA P f s fn.results.toList = some l) : ∃ v, (results fn a.tmps).run P w = .ok v w ∧ RV ρ (wrapR l) v := by
  obtain ⟨g, hg⟩ : ∃ g : ResultVar → Sem Value, results fn a.tmps = (do let vs ← fn.results.mapM g; pure (if h : vs.size = 1 then vs[0] else .tuple vs)) ∧ (∀ t, g (.tmp t) = pure (a.tmps.getD t undef)) ∧ (∀ b t, g (.cell b t) = (do loadVar t (← asAddr (a.tmps.getD b undef)))) := ⟨_, rfl, fun _ => rfl, fun _ _ => rfl⟩
  obtain ⟨vs, g1, g2⟩ := resA_run hF hR hg.2.1 hg.2.2 h
  refine ⟨if h : vs.toArray.size = 1 then vs.toArray[0] else .tuple vs.toArray, ?_, ?_⟩
  · rw [hg.1, ← Array.toArray_toList (xs := fn.results), List.mapM_toArray]
    simp only [map_eq_pure_bind, Sem.run_bind, Sem.run_pure, Result.andThen_ok, g1]
  · have hlen := g2.len
    unfold wrapR
    split
    · rename_i v
      obtain ⟨u, us, rfl, hu, hus⟩ := g2
      rw [show us = [] from hus]
      exact hu
    · rename_i hne
      have : ¬ vs.toArray.size = 1 := fun h1 => by
        rw [List.size_toArray, ← hlen] at h1
        match l, h1, hne with
        | [v], _, hne => exact hne v rfl
      rw [dif_neg this]
      exact ⟨_, rfl, by simpa using g2⟩
theorem callS_ok (hP : PrOk P) {sm : Nat → List AV → S → R} (hsm : CallS P sm) {rec : Nat → Code → F → S → RC} (hc : CodeS P rec) : CallS P (callS P sm rec) := by
  intro k l s r s' h ρ w vs hR hv
  unfold callS at h
  split at h
  · rename_i r0 h0
    injection h with h
    subst h
    exact hsm k l s _ _ h0 ρ w vs hR hv
  simp only [Option.bind_eq_some_iff] at h
  obtain ⟨fn, hfn, b, hb, h⟩ := h
  rw [nth_eq, Array.getElem?_toList] at hfn
  have hname := hP.names fn (by rw [← Array.getElem?_toList] at hfn; exact List.mem_of_getElem? hfn)
  refine ⟨⟨fn, hfn, hname, by rw [hb]; rfl⟩, ?_⟩
  rw [cble] at h
  split at h
  · rename_i hlen
    simp only [Option.bind_eq_some_iff] at h
    obtain ⟨⟨e, f', s2⟩, hrec, h⟩ := h
    have hlv : vs.length = l.length := hv.len.symm
    rw [lenL_eq] at hlen
    have hF : FR fn.ntmps ρ (argsF l 0 (T.full 9)) { tmps := vs.toArray ++ Array.replicate (fn.ntmps - vs.toArray.size) undef, defers := [] } := by
      refine ⟨by simp; omega, rfl, fun t v ht => ?_⟩
      rcases argsF_get l 0 _ ht with h | ⟨_, h⟩
      · rw [T.get_full] at h; cases h
      · rw [Nat.sub_zero] at h
        obtain ⟨u, hu, hr⟩ := hv.get h
        have : slot { tmps := vs.toArray ++ Array.replicate (fn.ntmps - vs.toArray.size) undef, defers := [] } t = u := by
          have ht := (List.getElem?_eq_some_iff.1 hu).1
          simp only [slot, Array.getD_eq_getD_getElem?]
          rw [Array.getElem?_append_left (by simpa using ht), List.getElem?_toArray, hu]
          rfl
        rw [this]
        exact hr
    have fin : (resA P f' s2 fn.results.toList).bind (fun l => some (wrapR l, s2)) = some (r, s') → (∀ i, e ≠ .exit i) → Calls P k vs.toArray w (fun e w' => ∃ v ρ', e = .returned v ∧ RV ρ' r v ∧ Goes ρ s w ρ' s' w') := fun h hne => by
      simp only [Option.bind_eq_some_iff, Option.some.injEq, Prod.mk.injEq] at h
      obtain ⟨l', hl', rfl, rfl⟩ := h
      refine calls_of_wp hfn hb (hc _ _ _ _ _ _ _ hrec ρ _ w hR hF _ fun a' w' ρ' g1 g2 => ?_)
      obtain ⟨v, g3, g4⟩ := results_run g1 g2.rel hl'
      cases e with
      | norm => exact ⟨g1.dfs, v, g3, v, ρ', rfl, g4, g2⟩
      | ret => exact ⟨g1.dfs, v, g3, v, ρ', rfl, g4, g2⟩
      | exit i => exact absurd rfl (hne i)
    cases e with
    | exit i => cases h
    | norm => exact fin h (by intro i h; cases h)
    | ret => exact fin h (by intro i h; cases h)
  · cases h
theorem loop_next {rec : Nat → Code → F → S → RC} (hc : CodeS P rec) (hl : LoopS P rec) (call : Nat → List AV → S → R) : ∀ N b f s e f' s', stepC P (rec N) call N (.loop b) f s = some (e, f', s') → ∃ k, ∀ ρ a w, Rel ρ s w → FR N ρ f a → ∀ Q : Exit → Act → World → Prop,
    (∀ a' w' ρ', FR N ρ' f' a' → Goes ρ s w ρ' s' w' → Q (exOf e) a' w') → Code.rounds P b Q k a w := by
  intro N b f s e f' s' h
  simp only [stepC, Option.bind_eq_some_iff] at h
  obtain ⟨⟨e1, f1, s1⟩, h1, h⟩ := h
  cases e1 with
  | norm =>
    obtain ⟨k, hk⟩ := hl N b f1 s1 e f' s' h
    refine ⟨k + 1, fun ρ a w hR hF Q hQ => ?_⟩
    rw [rounds_succ]
    refine hc N b f s _ f1 s1 h1 ρ a w hR hF _ fun a' w' ρ' g1 g2 => ?_
    exact hk ρ' a' w' g2.rel g1 Q fun a2 w2 ρ2 g3 g4 => hQ a2 w2 ρ2 g3 (g2.trans g4)
  | exit i =>
    simp only [Option.some.injEq, Prod.mk.injEq] at h
    obtain ⟨rfl, rfl, rfl⟩ := h
    refine ⟨1, fun ρ a w hR hF Q hQ => ?_⟩
    rw [rounds_succ]
    exact hc N b f s _ f1 s1 h1 ρ a w hR hF _ fun a' w' ρ' g1 g2 => hQ a' w' ρ' g1 g2
  | ret =>
    simp only [Option.some.injEq, Prod.mk.injEq] at h
    obtain ⟨rfl, rfl, rfl⟩ := h
    refine ⟨1, fun ρ a w hR hF Q hQ => ?_⟩
    rw [rounds_succ]
    exact hc N b f s _ f1 s1 h1 ρ a w hR hF _ fun a' w' ρ' g1 g2 => hQ a' w' ρ' g1 g2
theorem code_next (hP : PrOk P) {sm : Nat → List AV → S → R} (hsm : CallS P sm) {rec : Nat → Code → F → S → RC} (hc : CodeS P rec) (hl : LoopS P rec) : CodeS P (fun N => stepC P (rec N) (callS P sm rec) N) := by
  intro N c f s e f' s' h ρ a w hR hF Q hQ
  have hcall := callS_ok hP hsm hc
  cases c with
  | skip =>
    simp only [stepC, Option.some.injEq, Prod.mk.injEq] at h
    obtain ⟨rfl, rfl, rfl⟩ := h
    exact wp_skip (hQ a w ρ hF (Goes.refl hR))
  | label l =>
    simp only [stepC, Option.some.injEq, Prod.mk.injEq] at h
    obtain ⟨rfl, rfl, rfl⟩ := h
    exact wp_label (hQ a w ρ hF (Goes.refl hR))
  | region id ops d =>
    simp only [stepC] at h
    cases d with
    | false =>
      simp only [cond_false, Option.bind_eq_some_iff, Option.some.injEq, Prod.mk.injEq] at h
      obtain ⟨⟨f2, s2⟩, h1, rfl, rfl, rfl⟩ := h
      exact wp_region_list (seqA_run hcall ops.toList h1 hR hF hQ)
    | true =>
      simp only [cond_true, Option.bind_eq_some_iff, Option.some.injEq, Prod.mk.injEq] at h
      obtain ⟨⟨f2, s2⟩, h1, rfl, rfl, rfl⟩ := h
      refine wp_region_any hP.mixed (seqD_run hcall h1 (hR.drew _) hF fun a' w' ρ' g1 g2 => hQ a' w' ρ' g1 ((Goes.drew hR _).trans g2))
  | seq x y =>
    simp only [stepC, Option.bind_eq_some_iff] at h
    obtain ⟨⟨e1, f1, s1⟩, h1, h⟩ := h
    refine wp_seq (hc N x f s e1 f1 s1 h1 ρ a w hR hF _ fun a' w' ρ' g1 g2 => ?_)
    cases e1 with
    | norm => exact hc N y f1 s1 e f' s' h ρ' a' w' g2.rel g1 Q fun a2 w2 ρ2 g3 g4 => hQ a2 w2 ρ2 g3 (g2.trans g4)
    | exit i =>
      simp only [Option.some.injEq, Prod.mk.injEq] at h
      obtain ⟨rfl, rfl, rfl⟩ := h
      exact hQ a' w' ρ' g1 g2
    | ret =>
      simp only [Option.some.injEq, Prod.mk.injEq] at h
      obtain ⟨rfl, rfl, rfl⟩ := h
      exact hQ a' w' ρ' g1 g2
  | cond x p q =>
    simp only [stepC, Option.bind_eq_some_iff] at h
    obtain ⟨v, hv, h⟩ := h
    have hx := hF.opd hR.gl hv
    cases v with
    | bool t =>
      cases t with
      | true => exact wp_cond_true hx (hc N p f s e f' s' h ρ a w hR hF Q hQ)
      | false => exact wp_cond_false hx (hc N q f s e f' s' h ρ a w hR hF Q hQ)
    | _ => cases h
  | block i b =>
    simp only [stepC, Option.bind_eq_some_iff] at h
    obtain ⟨⟨e1, f1, s1⟩, h1, h⟩ := h
    refine wp_block (hc N b f s e1 f1 s1 h1 ρ a w hR hF _ fun a' w' ρ' g1 g2 => ?_)
    cases e1 with
    | norm =>
      simp only [Option.some.injEq, Prod.mk.injEq] at h
      obtain ⟨rfl, rfl, rfl⟩ := h
      exact hQ a' w' ρ' g1 g2
    | ret =>
      simp only [Option.some.injEq, Prod.mk.injEq] at h
      obtain ⟨rfl, rfl, rfl⟩ := h
      exact hQ a' w' ρ' g1 g2
    | exit j =>
      simp only [cbeq] at h
      show (if j = i then Q .normal a' w' else Q (.exit j) a' w')
      by_cases e0 : i = j
      · rw [if_pos e0] at h
        simp only [Option.some.injEq, Prod.mk.injEq] at h
        obtain ⟨rfl, rfl, rfl⟩ := h
        rw [if_pos e0.symm]
        exact hQ a' w' ρ' g1 g2
      · rw [if_neg e0] at h
        simp only [Option.some.injEq, Prod.mk.injEq] at h
        obtain ⟨rfl, rfl, rfl⟩ := h
        rw [if_neg fun e => e0 e.symm]
        exact hQ a' w' ρ' g1 g2
  | loop b =>
    obtain ⟨k, hk⟩ := loop_next hc hl _ N b f s e f' s' h
    exact wp_loop_rounds k (hk ρ a w hR hF Q hQ)
  | scope b =>
    simp only [stepC] at h
    refine wp_scope_straight (hc N b f s e f' s' h ρ a w hR hF _ fun a' w' ρ' g1 g2 => ?_)
    have := hQ a' w' ρ' g1 g2
    cases e <;> exact this
  | exit i =>
    simp only [stepC, Option.some.injEq, Prod.mk.injEq] at h
    obtain ⟨rfl, rfl, rfl⟩ := h
    exact wp_exit (hQ a w ρ hF (Goes.refl hR))
  | ret =>
    simp only [stepC, Option.some.injEq, Prod.mk.injEq] at h
    obtain ⟨rfl, rfl, rfl⟩ := h
    exact wp_ret (hQ a w ρ hF (Goes.refl hR))
  | _ => cases h
theorem run_ok (hP : PrOk P) {sm : Nat → List AV → S → R} (hsm : CallS P sm) : ∀ n, CodeS P (run P sm n) ∧ LoopS P (run P sm n)
  | 0 => ⟨fun N c f s e f' s' h => (by cases h), fun N b f s e f' s' h => (by cases h)⟩
  | n + 1 => by
    obtain ⟨h1, h2⟩ := run_ok hP hsm n
    exact ⟨code_next hP hsm h1 h2, loop_next h1 h2 (callS P sm (run P sm n))⟩
/-- **The evaluator is right.** -/
theorem ev_callS (hP : PrOk P) {sm : Nat → List AV → S → R} (hsm : CallS P sm) (n : Nat) : CallS P (ev P sm n) := callS_ok hP hsm (run_ok hP hsm n).1
theorem sm0_ok : CallS P sm0 := fun k l s r s' h => by cases h
end
end Go.Ev
