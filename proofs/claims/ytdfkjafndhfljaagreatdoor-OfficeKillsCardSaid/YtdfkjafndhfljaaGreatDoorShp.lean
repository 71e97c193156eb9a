/- What is proved: bytealg.MaxLen, of which the row says nothing, holds some whole number; the change form's lifting with the worlds' shape beside it. -/
import Derived.Test.YtdfkjafndhfljaaGreatDoorGlb
import Derived.Handed
import Derived.KernelRfl
set_option linter.unusedVariables false
set_option linter.unusedSimpArgs false
set_option linter.constructorNameAsVariable false
set_option maxRecDepth 100000
namespace Go.Proofs.YtdfkjafndhfljaaGreatDoor
open Go Go.RowKit Go.Fw Go.Ev

theorem handed_shaped {H : Type} {enc : TypeId × Value → H} {a : Assume} {C : Checked} {os : Os} {f : FuncId} {fn : Func} {s : ChangeSpec} {conds : List PathCond} {apart fresh handsOn again : Bool} {X : World → Array Value → Prop}
    (hX : ∀ (w w' : World) (args : Array Value), w.heap = w'.heap → X w args → X w' args)
    (own : ownKnob C.prog.godebug = none) (started : os.Started) (noInit : C.prog.inits.idxOf? f = none) (hfn : C.prog.funcs[f]? = some fn)
    (witness : ∃ (w : World) (tape : Tape) (i : Input), w.os = os ∧ (w.forCall tape i).Shaped C.prog ∧ i.vars = [] ∧ Input.okWide C.prog (w.forCall tape i) .any w.heap.size f i ∧
      ((s.pre enc C.prog fn conds apart (w.forCall tape i).memory i.args ∧ X (w.forCall tape i).memory i.args) ∧ sizedMet enc C.prog fn (OpenSpec.ofChange s) apart (w.forCall tape i).memory i.args) ∧ a.holds C.prog (lone (Frame.enter C.prog f i.args .normal) [] (w.forCall tape i)))
    (contract : ∀ (W : World) (base : Nat) (args : Array Value) (ds gs : List (DataW H)) (before : List MemPlace), W.ShapedOpen C.prog →
      (∀ (j : Nat) t v, fn.params[j]? = some t → args[j]? = some v → Value.okWide C.prog W .any base t v) →
      DataW.Whole enc C.prog fn.params.toList s.vars apart W args.toList ds gs before → X W args →
      Calls C.prog f args W fun e W' => ∃ v, e = .returned v ∧ s.post enc C.prog fn apart fresh handsOn again W args v W') :
    ReturnsInHanded a C os f .any (fun w args => (s.pre enc C.prog fn conds apart w args ∧ X w args) ∧ sizedMet enc C.prog fn (OpenSpec.ofChange s) apart w args) (s.post enc C.prog fn apart fresh handsOn again) := by
  refine returnsInHanded_of_calls own started noInit witness ?_
  intro w tape i _ hsh _ hok hpre hholds
  obtain ⟨_, _, _, fn', hfn', _, _, _, _, hval⟩ := hok
  have e : fn' = fn := Option.some.inj (hfn'.symm.trans hfn)
  subst e
  obtain ⟨⟨⟨ds, gs, before, hw, hc⟩, hx⟩, hz⟩ := hpre
  have hw' := DataW.Whole.of_heap (w' := w.forCall tape i) (by rfl) hw
  refine (contract (w.forCall tape i) w.heap.size i.args ds gs before hsh hval hw' (hX _ _ _ (by rfl) hx)).mono fun e W' ⟨v, he, hp⟩ => ?_
  subst he
  exact ChangeSpec.post_blind hp
theorem max_zero : (((begin Tryz.prog (fun _ _ => 0) default).world.heap[0]?).bind Obj.row?) = some (#[.int .i64 0], 3) := by kernel_rfl
theorem max_types : Tryz.prog.cellTypes Tryz.prog.depth 3 = some [3] := by kernel_rfl
theorem max_size : 0 < Tryz.prog.globals.size := by decide +kernel
theorem max_build : Tryz.prog.buildable 3 = true := by kernel_rfl
theorem max_und : Tryz.prog.underlying 3 = some (.int .i64) := by kernel_rfl
theorem max_of {W : World} (h : W.ShapedOpen Tryz.prog) : ∃ m, MaxAt W m := by
  have h1 := h.1
  clear h
  obtain ⟨cs, hb, hs, hr⟩ := h1 0 (#[.int .i64 0]) 3 max_size max_zero
  obtain ⟨ts, h1, _, h3⟩ := hr max_build
  rw [max_types] at h1
  injection h1 with h1
  subst h1
  have hs1 : cs.size = 1 := hs
  have h0 : 0 < cs.size := by omega
  obtain ⟨u, hu, hc⟩ := h3 0 cs[0] (Array.getElem?_eq_getElem h0)
  have hu : (some 3 : Option TypeId) = some u := hu
  injection hu with hu
  subst hu
  obtain ⟨v, hv⟩ : ∃ v, v = cs[0] := ⟨_, rfl⟩
  rw [← hv] at hc
  have : ∃ m, v = .int .i64 m := by
    cases v <;> simp [Cell.ok, max_und] at hc
    exact ⟨_, by rw [hc.1]⟩
  obtain ⟨m, rfl⟩ := this
  exact ⟨m, cs, 3, hb, by rw [Array.getElem?_eq_getElem h0, hv]⟩
end Go.Proofs.YtdfkjafndhfljaaGreatDoor
