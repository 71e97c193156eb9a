/- What is proved: structs and arrays that the evaluator builds are the model's. -/
import Derived.Test.YtbggihomiadjjaaGreatDoorEvOps5
set_option linter.unusedVariables false
set_option linter.unusedSimpArgs false
namespace Go.Ev
open Go Go.Fw

section
variable {P : Program} {o : Oper} {a : Act} {w : World} {f : F} {s s' : S} {ρ : Rho} {N : Nat} {r : AV}
/-- Parts stand for parts. -/
def RPs (ρ : Rho) : List (Nat × AV) → List (Nat × Value) → Prop
  | [], l => l = []
  | (i, x) :: xs, l => ∃ v vs, l = (i, v) :: vs ∧ RV ρ x v ∧ RPs ρ xs vs
theorem opdsP_rv : ∀ {xs : List (Nat × Operand)} {vs : List (Nat × AV)}, (∀ x ∈ xs, ∀ v, opd f x.2 = some v → RV ρ v (a.eval x.2)) → opdsP f xs = some vs → RPs ρ vs (xs.map fun p => (p.1, a.eval p.2))
  | [], vs, _, hx => by simp [opdsP] at hx; subst hx; rfl
  | (i, x) :: xs, vs, h, hx => by
    simp only [opdsP, Option.bind_eq_some_iff, Option.map_eq_some_iff] at hx
    obtain ⟨v, hv, us, hus, rfl⟩ := hx
    exact ⟨_, _, rfl, h (i, x) (by simp) v hv, opdsP_rv (fun y hy => h y (List.mem_cons_of_mem _ hy)) hus⟩
theorem fillA_run {pl : Nat → Option (Nat × Nat)} {place : Nat → Option (Nat × Nat)} (hp : ∀ i q, pl i = some q → place i = some q) :
    ∀ {ps : List (Nat × AV)} {vs : List (Nat × Value)} {z z' : List AV} {zs : List Value}, fillA ps pl z = some z' → RPs ρ ps vs → RVs ρ z zs → (∀ x ∈ z, x.one = true) →
    ∃ zs' : List Value, Instr.fill place zs.toArray vs = some zs'.toArray ∧ RVs ρ z' zs' ∧ (∀ x ∈ z', x.one = true) ∧ z'.length = z.length
  | [], vs, z, z', zs, h, hv, hz, h1 => by
    injection h with h
    subst h
    rw [show vs = [] from hv]
    exact ⟨zs, rfl, hz, h1, rfl⟩
  | (i, x) :: ps, vs, z, z', zs, h, hv, hz, h1 => by
    obtain ⟨v, vs', rfl, hx, hps⟩ := hv
    simp only [fillA, Option.bind_eq_some_iff] at h
    obtain ⟨⟨off, k⟩, hpi, y, hy, h⟩ := h
    simp only [cbeq] at h
    split at h
    · rename_i hk
      simp only [Option.bind_eq_some_iff] at h
      obtain ⟨q, hq, h⟩ := h
      obtain ⟨c1, c2, c3⟩ := hx.cel hy
      obtain ⟨e, hfit⟩ := setL_some _ _ _ _ hq
      have hlen : v.cells.toList.length = k := by rw [← c1.len, ← lenL_eq]; exact hk
      have hq1 : RVs ρ q (splice zs off v.cells.toList) := by
        rw [e]
        have := ((hz.take off).append c1).append (hz.drop (off + y.length))
        rw [c1.len] at this ⊢
        exact this
      have hq2 : ∀ x ∈ q, x.one = true := fun x hx => by
        rw [e, List.mem_append, List.mem_append] at hx
        rcases hx with (hx | hx) | hx
        · exact h1 x (List.mem_of_mem_take hx)
        · exact c2 x hx
        · exact h1 x (List.mem_of_mem_drop hx)
      obtain ⟨zs', g1, g2, g3, g4⟩ := fillA_run hp h hps hq1 hq2
      refine ⟨zs', ?_, g2, g3, by rw [g4, setL_len hq]⟩
      rw [fill_cons (vs := v.cells.toList) (by rw [hlen]; exact hp i _ hpi) (by simp) (by rw [← c1.len, ← hz.len]; exact hfit)]
      exact g1
    · cases h
theorem plS_run : ∀ {fs : List Field} {l : List (Nat × Nat)}, plS P fs = some l → ∀ w, (fs.mapM fun f => (do pure (f.offset, ← sizeOf f.type) : Sem (Nat × Nat))).run P w = .ok l w
  | [], l, h, w => by
    injection h with h
    subst h
    rfl
  | fd :: fs, l, h, w => by
    simp only [plS, Option.bind_eq_some_iff, Option.some.injEq] at h
    obtain ⟨z, hz, r, hr, rfl⟩ := h
    rw [List.mapM_cons]
    simp only [Sem.run_bind, Fw.run_sizeOf (sizeT_eq hz), Result.andThen_ok, Sem.run_pure, plS_run hr w]
theorem op_build {t : Nat} {ps : Array (Nat × Operand)} (ho : o.op = .build t ps) (h : oBuild P f s t ps = some (r, s')) (hF : FO ρ f a o) : OpG P o a ρ s r s' := by
  simp only [oBuild, Option.bind_eq_some_iff] at h
  obtain ⟨l, hv, h⟩ := h
  have h2 := ret1_some h
  clear h
  obtain ⟨h, rfl⟩ := h2
  have hps := opdsP_rv (fun x hx v hv => hF.opd (by rw [ho]; simp only [Op.operands]; exact List.mem_map.2 ⟨x, hx, rfl⟩) hv) hv
  simp only [buildA, Option.bind_eq_some_iff] at h
  obtain ⟨z, hz, h⟩ := h
  obtain ⟨zv, hzv, hzr⟩ := zeroT_some hz
  have hz' := hzr ρ
  have fin : ∀ v, (∀ w, (Instr.build t (ps.toList.map fun p => (p.1, a.eval p.2)).toArray).run P w = .ok v w) → RV ρ r v → OpG P o a ρ s' r s' := fun v g1 g2 =>
    OpG.gv (fun w => gv_build (l := ps.toList) (by rw [ho, Array.toArray_toList]) rfl (g1 w)) g2
  have gen : ∀ (place : Nat → Option (Nat × Nat)) (pl : Nat → Option (Nat × Nat)), (∀ i q, pl i = some q → place i = some q) → (z.cel.bind fun c => (fillA l pl c).bind (normT P t)) = some r →
      ∃ cs : Array Value, Instr.fill place zv.cells (ps.toList.map fun p => (p.1, a.eval p.2)) = some cs ∧ RV ρ r (.agg cs) := fun place pl hp h => by
    simp only [Option.bind_eq_some_iff] at h
    obtain ⟨c, hc, q, hq, h⟩ := h
    obtain ⟨c1, c2, _⟩ := hz'.cel hc
    obtain ⟨zs', g1, g2, g3, _⟩ := fillA_run hp hq hps c1 c2
    exact ⟨zs'.toArray, by simpa using g1, normT_rv h g2 (allOne_of g3)⟩
  split at h
  · rename_i fs ht
    simp only [Option.bind_eq_some_iff] at h
    obtain ⟨pl, hpl, h⟩ := h
    obtain ⟨cs, g1, g2⟩ := gen (fun i => pl.toArray[i]?) (nth pl) (fun i q hi => by rw [nth_eq] at hi; simpa using hi) (by simpa only [Option.bind_eq_some_iff] using h)
    refine fin _ (fun w => run_buildStr (places := pl.toArray) (undT_eq ht) hzv rfl (fun w => ?_) g1) g2
    have := plS_run hpl w
    rw [← Array.toArray_toList (xs := fs), List.mapM_toArray]
    simp only [map_eq_pure_bind, Sem.run_bind, this, Result.andThen_ok, Sem.run_pure]
  · rename_i n e ht
    simp only [Option.bind_eq_some_iff] at h
    obtain ⟨sz, hsz, h⟩ := h
    split at h
    · injection h with h
      subst h
      rw [show (ps.toList.map fun p => (p.1, a.eval p.2)) = [] from hps] at fin
      obtain ⟨ev, hb⟩ := hz'
      refine fin _ (fun w => run_buildArr (undT_eq ht) (sizeT_eq hsz) hzv rfl rfl) ?_
      rw [ev]
      exact ⟨rfl, hb⟩
    · obtain ⟨cs, g1, g2⟩ := gen (fun i => some (i * sz, sz)) (fun i => some (Nat.mul i sz, sz)) (fun i q hi => hi) (by simpa only [Option.bind_eq_some_iff] using h)
      exact fin _ (fun w => run_buildArr (undT_eq ht) (sizeT_eq hsz) hzv rfl g1) g2
  · cases h
end
end Go.Ev
