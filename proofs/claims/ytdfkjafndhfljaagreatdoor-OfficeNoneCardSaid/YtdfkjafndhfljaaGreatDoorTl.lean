/- What is proved: the rest of OfficeNone behind its guards returns true, at some numbers. -/
import Derived.Test.YtdfkjafndhfljaaGreatDoorFit
set_option linter.unusedVariables false
set_option linter.unusedSimpArgs false
namespace Go.Proofs.YtdfkjafndhfljaaGreatDoor
open Go Go.RowKit Go.Fw Go.Ev
set_option maxRecDepth 100000
noncomputable def f3x (x : Int) (vb : Value) : F := ((T.full 9).set 0 (.int .i64 x)).set 1 (.val 100 vb)
noncomputable def c3x : Code := match Tryz.f3.body with
  | some (.seq _ (.seq _ (.seq _ c))) => c
  | _ => .skip
def TailOk (x : Int) : Prop := ∀ (m : Int) (vb : Value), okE (endC Tryz.prog Tryz.f3 (run Tryz.prog smF 100000 119 c3x (f3x x vb) (s0 (.int .i64 m)))) = true
/-- The rest of a function, by the evaluator, from memory of which package variables alone are known. -/
theorem tail_low {P : Program} (hP : PrOk P) {sm : Nat → List AV → S → R} (hsm : CallS P sm) {n N : Nat} {fn : Func} {c : Code} {f : F} {s : S} (h : okE (endC P fn (run P sm n N c f s)) = true) {ρ : Rho} {a : Act} {w W : World} (hF : FR N ρ f a) (hR : Rel ρ s w) (hx : Ext W w) (hl : Low s) :
    c.wp P (bodyPost P fn (fun e w' => e = .returned (.bool true) ∧ Ext W w')) a w := by
  obtain ⟨s', hs⟩ := okE_some h
  simp only [endC, Option.bind_eq_some_iff] at hs
  obtain ⟨⟨e, f1, s1⟩, hrun, hs⟩ := hs
  have fin : (resA P f1 s1 fn.results.toList).bind (fun l => some (wrapR l, s1)) = some (.bool true, s') → (∀ i, e ≠ .exit i) → c.wp P (bodyPost P fn (fun e w' => e = .returned (.bool true) ∧ Ext W w')) a w := fun hs hne => by
    simp only [Option.bind_eq_some_iff, Option.some.injEq, Prod.mk.injEq] at hs
    obtain ⟨l, hl', hw, rfl⟩ := hs
    refine (run_ok hP hsm n).1 N c f s e f1 s1 hrun ρ a w hR hF _ fun a' w' ρ' g1 g2 => ?_
    obtain ⟨v, g3, g4⟩ := results_run g1 g2.rel hl'
    rw [hw] at g4
    have hv : v = .bool true := g4
    subst hv
    have hxx : Ext W w' := hx.trans (g2.toExt hR hl)
    cases e with
    | norm => exact ⟨g1.dfs, _, g3, rfl, hxx⟩
    | ret => exact ⟨g1.dfs, _, g3, rfl, hxx⟩
    | exit i => exact absurd rfl (hne i)
  cases e with
  | exit i => cases hs
  | norm => exact fin hs (by intro i h; cases h)
  | ret => exact fin hs (by intro i h; cases h)
end Go.Proofs.YtdfkjafndhfljaaGreatDoor
