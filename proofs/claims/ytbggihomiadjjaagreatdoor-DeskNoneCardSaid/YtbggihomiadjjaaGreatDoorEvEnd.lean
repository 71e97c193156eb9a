/- What is proved: a call that the evaluator says to return true, from memory of which package variables alone are known, returns true, and leaves all memory that was there as it was. -/
import Derived.Test.YtbggihomiadjjaaGreatDoorEvCode
set_option linter.unusedVariables false
set_option linter.unusedSimpArgs false
namespace Go.Ev
open Go Go.Fw

section
variable {P : Program}
noncomputable def okE (r : R) : Bool := match r with
  | some (.bool b, _) => b
  | _ => false
theorem okE_some {r : R} (h : okE r = true) : ∃ s, r = some (.bool true, s) := by
  unfold okE at h
  split at h
  · subst h; exact ⟨_, rfl⟩
  · cases h
/-- Only package variables are known. -/
def Low (s : S) : Prop := ∀ i r, s.h.get i = some r → i < 1000
theorem Goes.toExt {ρ ρ' : Rho} {s s' : S} {w w' : World} (h : Goes ρ s w ρ' s' w') (hR : Rel ρ s w) (hl : Low s) : Ext w w' := by
  refine ⟨h.os, h.tape, h.output, h.size, fun b hb => ?_⟩
  by_cases ho : Own ρ s b
  · obtain ⟨i, r, p, hi, hd, hp, hb'⟩ := ho
    have hlt := hl i r hi
    obtain ⟨sz, hp'⟩ := hR.gl i hlt
    rw [hp] at hp'
    injection hp' with hp'
    subst hp'
    have := h.gk i r hlt hi hd
    rw [← hb']
    exact this
  · exact h.keep b hb ho
theorem Goes.ofExt {ρ : Rho} {s : S} {w w' : World} (hR : Rel ρ s w) (hx : Ext w w') : Goes ρ s w ρ s w' :=
  ⟨fun _ _ h => h, Nat.le_refl _, hx.size, hx.os, hx.tape, hx.output, fun _ _ h => h, fun b hb _ => hx.block b hb, hR.more (fun _ _ h => h) (fun i p hp => ⟨(hR.nx i p hp).1, fun h => Nat.lt_of_lt_of_le ((hR.nx i p hp).2 h) hx.size⟩) (fun b hb => hx.block b hb), fun _ _ h => .inl h, fun _ _ => rfl, fun g r hg hr hd => hx.block g (hR.glt hg hr hd)⟩
theorem ev_true (hP : PrOk P) {sm : Nat → List AV → S → R} (hsm : CallS P sm) {n k : Nat} {l : List AV} {s : S} (h : okE (ev P sm n k l s) = true) {ρ : Rho} {w : World} {vs : List Value} (hR : Rel ρ s w) (hl : Low s) (hv : RVs ρ l vs) :
    Calls P k vs.toArray w (fun e w' => e = .returned (.bool true) ∧ Ext w w') := by
  obtain ⟨s', hs⟩ := okE_some h
  refine Calls.mono (ev_callS hP hsm n k l s _ s' hs ρ w vs hR hv).2 fun e w' he => ?_
  obtain ⟨v, ρ', rfl, hr, G⟩ := he
  exact ⟨by rw [show v = _ from hr], G.toExt hR hl⟩
/-- What is known of a call that leaves memory as it was. -/
theorem smExt {k : Nat} {l : List AV} {s : S} {r : AV} {ρ : Rho} {w : World} {vs : List Value} (hok : CallOk P k) (hR : Rel ρ s w) (hc : Calls P k vs.toArray w (fun e w' => ∃ v, e = .returned v ∧ RV ρ r v ∧ Ext w w')) :
    CallOk P k ∧ Calls P k vs.toArray w (fun e w' => ∃ v ρ', e = .returned v ∧ RV ρ' r v ∧ Goes ρ s w ρ' s w') :=
  ⟨hok, Calls.mono hc fun e w' ⟨v, h1, h2, h3⟩ => ⟨v, ρ, h1, h2, Goes.ofExt hR h3⟩⟩
/-- Package variables at their blocks. -/
def rho0 (sz : Nat → Nat) : Rho := fun i => if i < 1000 then some ⟨i, 0, sz i⟩ else none
theorem rel0 {s : S} {w : World} {sz : Nat → Nat} (hn : s.nx = 1000) (hl : Low s) (hr : ∀ i r, s.h.get i = some r → RowAt (rho0 sz) w ⟨i, 0, sz i⟩ r) : Rel (rho0 sz) s w := by
  have hp : ∀ i p, rho0 sz i = some p → i < 1000 ∧ p = ⟨i, 0, sz i⟩ := fun i p h => by
    unfold rho0 at h
    split at h
    · injection h with h; exact ⟨by assumption, h.symm⟩
    · cases h
  refine ⟨fun i r hi _ => ⟨_, if_pos (hl i r hi), hr i r hi⟩, fun i j r q p p' hi _ hj _ h1 h2 hb => ?_, fun i p h => ?_, fun g hg => ⟨sz g, if_pos hg⟩, by rw [hn]; exact Nat.le_refl _⟩
  · obtain ⟨_, rfl⟩ := hp i p h1
    obtain ⟨_, rfl⟩ := hp j p' h2
    exact hb
  · obtain ⟨h1, _⟩ := hp i p h
    exact ⟨by rw [hn]; exact h1, fun h2 => by omega⟩
/-- The end of a function's code. -/
noncomputable def endC (P : Program) (fn : Func) (r : RC) : R := r.bind fun (e, f, s) => match e with
  | .exit _ => none
  | _ => (resA P f s fn.results.toList).bind fun l => some (wrapR l, s)
/-- The rest of a function, by the evaluator. -/
theorem tail_true (hP : PrOk P) {sm : Nat → List AV → S → R} (hsm : CallS P sm) {n N : Nat} {fn : Func} {c : Code} {f : F} {s : S} (h : okE (endC P fn (run P sm n N c f s)) = true) {ρ : Rho} {a : Act} {w W : World} (hF : FR N ρ f a) (hR : Rel ρ s w) (hx : Ext W w) (ho : ∀ b, Own ρ s b → W.heap.size ≤ b) :
    c.wp P (bodyPost P fn (fun e w' => e = .returned (.bool true) ∧ Ext W w')) a w := by
  obtain ⟨s', hs⟩ := okE_some h
  simp only [endC, Option.bind_eq_some_iff] at hs
  obtain ⟨⟨e, f1, s1⟩, hrun, hs⟩ := hs
  have fin : (resA P f1 s1 fn.results.toList).bind (fun l => some (wrapR l, s1)) = some (.bool true, s') → (∀ i, e ≠ .exit i) → c.wp P (bodyPost P fn (fun e w' => e = .returned (.bool true) ∧ Ext W w')) a w := fun hs hne => by
    simp only [Option.bind_eq_some_iff, Option.some.injEq, Prod.mk.injEq] at hs
    obtain ⟨l, hl, hw, rfl⟩ := hs
    refine (run_ok hP hsm n).1 N c f s e f1 s1 hrun ρ a w hR hF _ fun a' w' ρ' g1 g2 => ?_
    obtain ⟨v, g3, g4⟩ := results_run g1 g2.rel hl
    rw [hw] at g4
    have hv : v = .bool true := g4
    subst hv
    have hxx : Ext W w' := ⟨g2.os.trans hx.os, g2.tape.trans hx.tape, g2.output.trans hx.output, Nat.le_trans hx.size g2.size, fun b hb => (g2.keep b (Nat.lt_of_lt_of_le hb hx.size) fun hob => by have := ho b hob; omega).trans (hx.block b hb)⟩
    cases e with
    | norm => exact ⟨g1.dfs, _, g3, rfl, hxx⟩
    | ret => exact ⟨g1.dfs, _, g3, rfl, hxx⟩
    | exit i => exact absurd rfl (hne i)
  cases e with
  | exit i => cases hs
  | norm => exact fin hs (by intro i h; cases h)
  | ret => exact fin hs (by intro i h; cases h)
end
end Go.Ev
