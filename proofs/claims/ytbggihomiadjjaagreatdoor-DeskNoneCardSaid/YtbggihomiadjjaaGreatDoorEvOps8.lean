/- What is proved: slices that the evaluator builds are the model's. -/
import Derived.Test.YtbggihomiadjjaaGreatDoorEvOps7
set_option linter.unusedVariables false
set_option linter.unusedSimpArgs false
namespace Go.Ev
open Go Go.Fw

section
variable {P : Program} {o : Oper} {a : Act} {w : World} {f : F} {s s' : S} {ρ : Rho} {N : Nat} {r : AV}
theorem run_bslice {t e n sz : Nat} {z : Value} {pl : List (Nat × Value)} {cs : Array Value} (ht : P.underlying t = some (.slice e)) (hs : (P.info? e).map (·.size) = some sz) (hz : (P.info? e).map (·.zero) = some (some z)) (h : n * sz ≤ 16777216)
    (hf : Instr.fill (fun i => some (i * sz, sz)) (madeCells z.cells (n * sz)) pl = some cs) : (Instr.buildSlice t n pl.toArray).run P w = .ok (.slice (some ⟨w.heap.size, 0, none⟩) n n) (w.alloc (.cells cs e)) := by
  unfold madeCells at hf
  by_cases h0 : n * sz = 0
  · rw [h0] at hf
    have hf' : Instr.fill (fun i => some (i * sz, sz)) #[] pl = some cs := by simpa [Array.range_zero'] using hf
    simp [Instr.buildSlice, run_und ht, Fw.run_sizeOf hs, h0, Array.range_zero', hf', newRow]
  · have hn : ¬ 2 ^ 24 < n * sz := by omega
    simp [Instr.buildSlice, run_und ht, Fw.run_sizeOf hs, h0, hn, run_zeroValue hz, hf, newRow]
theorem op_buildSlice {t n : Nat} {ps : Array (Nat × Operand)} (ho : o.op = .buildSlice t n ps) (h : oBuildSlice P f s t n ps = some (r, s')) (hF : FO ρ f a o) : OpN P o a ρ s r s' := by
  simp only [oBuildSlice, Option.bind_eq_some_iff] at h
  obtain ⟨l, hv, h⟩ := h
  have hps := opdsP_rv (fun x hx v hv => hF.opd (by rw [ho]; simp only [Op.operands]; exact List.mem_map.2 ⟨x, hx, rfl⟩) hv) hv
  unfold buildSliceA at h
  split at h
  · rename_i e ht
    simp only [Option.bind_eq_some_iff] at h
    obtain ⟨y, hy, c, hc, sz, hsz, h⟩ := h
    cases hb : and (okZ P e) (Nat.ble (Nat.mul n sz) 16777216) with
    | false => rw [hb] at h; cases h
    | true =>
      rw [hb] at h
      simp only [Bool.and_eq_true, ble_dec, decide_eq_true_eq] at hb
      obtain ⟨hok, hcm⟩ := hb
      simp only [cond_true, Option.bind_eq_some_iff] at h
      obtain ⟨q, hq, h⟩ := h
      obtain ⟨row, hrow, rfl, rfl⟩ := ret2_some h
      obtain ⟨i, z, hi, hz, hzs, hzz⟩ := okZ_eq hok
      obtain ⟨z', hz', hzr⟩ := zeroT_some hy
      rw [hzz] at hz'
      injection hz' with hz'
      injection hz' with hz'
      subst hz'
      obtain ⟨c1, c2, _⟩ := (hzr ρ).cel hc
      have hsz' := sizeT_eq hsz
      have hsi : i.size = sz := by rw [hi] at hsz'; simpa using hsz'
      rw [repl_reps] at hq
      obtain ⟨zs', g1, g2, g3, g4⟩ := fillA_run (place := fun i => some (i * sz, sz)) (fun i q hi => hi) hq hps (c1.reps n) (fun x hx => by
        obtain ⟨j, hj⟩ := List.getElem?_of_mem hx
        have hlt := (List.getElem?_eq_some_iff.1 hj).1
        rw [reps_len] at hlt
        rw [reps_get _ _ _ hlt] at hj
        exact c2 x (List.mem_of_getElem? hj))
      have hm : (reps n z.cells.toList).toArray = madeCells z.cells (n * sz) := by
        rw [← hsi, ← hzs, ← madeCells_reps]
      rw [hm] at g1
      refine ⟨row, .sl n n, rfl, rfl, fun w => ?_⟩
      have hrun := run_bslice (w := w) (undT_eq ht) hsz' hzz hcm g1
      obtain ⟨h1, h2, h3⟩ := heap_push w (.cells zs'.toArray e)
      refine ⟨.slice (some ⟨w.heap.size, 0, none⟩) n n, w.alloc (.cells zs'.toArray e), zs'.toArray.size, ?_, h3, rfl, rfl, rfl, h1, (rowOf_at hrow (v := .agg zs'.toArray) ⟨_, rfl, g2, allOne_of g3⟩ (pad := []) h2 (by simp [Value.cells]) rfl (frok0 _) fun _ => rfl), fun ρ' i hi => ⟨_, hi, rfl, Nat.le_refl _⟩⟩
      unfold execOp
      rw [ho]
      have e1 : ps.map (fun x => match x with | (i, x) => (i, a.eval x)) = (ps.toList.map fun p => (p.1, a.eval p.2)).toArray := by
        apply Array.ext'
        simp
      simp only [e1, Sem.run_bind, hrun, Result.andThen_ok, Sem.run_pure]
  · cases h
end
end Go.Ev
