/- What is proved: rows of zeros, makeSlice. -/
import Derived.Test.YtbggihomiadjjaaGreatDoorEvOps6
import Derived.Laws.MakeOwn
set_option linter.unusedVariables false
set_option linter.unusedSimpArgs false
namespace Go.Ev
open Go Go.Fw

section
variable {P : Program} {o : Oper} {a : Act} {w : World} {f : F} {s s' : S} {ρ : Rho} {N : Nat} {r : AV}
/-- So many of a list. -/
def reps {α : Type} : Nat → List α → List α
  | 0, _ => []
  | n + 1, l => l ++ reps n l
theorem reps_len {α : Type} (l : List α) : ∀ n, (reps n l).length = n * l.length
  | 0 => by simp [reps]
  | n + 1 => by rw [reps, List.length_append, reps_len l n, Nat.succ_mul, Nat.add_comm]
theorem reps_get {α : Type} (l : List α) : ∀ (n j : Nat), j < n * l.length → (reps n l)[j]? = l[j % l.length]?
  | 0, j, h => by rw [Nat.zero_mul] at h; omega
  | n + 1, j, h => by
    rw [Nat.succ_mul] at h
    rw [reps]
    by_cases hj : j < l.length
    · rw [List.getElem?_append_left hj, Nat.mod_eq_of_lt hj]
    · rw [List.getElem?_append_right (by omega), reps_get l n (j - l.length) (by omega)]
      congr 1
      rw [Nat.mod_eq_sub_mod (by omega : j ≥ l.length)]
theorem repl_reps : ∀ (n : Nat) (l : List AV), repl n l = reps n l
  | 0, _ => rfl
  | n + 1, l => by rw [repl, reps, repl_reps n l]
theorem RVs.reps {l : List AV} {vs : List Value} (h : RVs ρ l vs) : ∀ n, RVs ρ (Ev.reps n l) (Ev.reps n vs)
  | 0 => rfl
  | n + 1 => h.append (RVs.reps h n)
theorem byL_zero : ∀ n, byL n 0 = List.replicate n 0
  | 0 => rfl
  | n + 1 => by rw [byL, List.replicate_succ, show 0 / 256 = 0 from rfl, byL_zero n]; rfl
theorem reps_replicate {α : Type} (x : α) (m : Nat) : ∀ n, reps n (List.replicate m x) = List.replicate (n * m) x
  | 0 => by rw [Nat.zero_mul]; rfl
  | n + 1 => by rw [reps, reps_replicate x m n, List.replicate_append_replicate, Nat.succ_mul, Nat.add_comm]
/-- Zeros stand for zeros. -/
theorem zerosT_rv {e k : Nat} {x : AV} (h : zerosT P e k = some x) : ∃ z, (P.info? e).map (·.zero) = some (some z) ∧ RV ρ x (.agg (reps k z.cells.toList).toArray) := by
  simp only [zerosT, Option.bind_eq_some_iff] at h
  obtain ⟨y, hy, h⟩ := h
  obtain ⟨z, hz, hzr⟩ := zeroT_some hy
  have hr := hzr ρ
  refine ⟨z, hz, ?_⟩
  split at h
  · rename_i n c
    rw [cbeq] at h
    split at h
    · rename_i hc
      subst hc
      injection h with h
      subst h
      obtain ⟨rfl, _⟩ := hr
      refine ⟨?_, Nat.two_pow_pos _⟩
      show Value.agg (reps k ((byL n 0).map vU)).toArray = Value.agg ((byL (k * n) 0).map vU).toArray
      rw [byL_zero, byL_zero, List.map_replicate, List.map_replicate, reps_replicate]
    · cases h
  · rename_i q
    rw [iEq_dec] at h
    by_cases hq : q = 0
    · subst hq
      rw [decide_eq_true rfl] at h
      injection h with h
      subst h
      rw [show z = .int .u8 0 from hr]
      refine ⟨?_, Nat.two_pow_pos _⟩
      show Value.agg (reps k [Value.int .u8 0]).toArray = Value.agg ((byL k 0).map vU).toArray
      rw [byL_zero, List.map_replicate, show [Value.int .u8 0] = List.replicate 1 (Value.int .u8 0) from rfl, reps_replicate, Nat.mul_one]
      rfl
    · rw [decide_eq_false hq] at h
      cases h
  · simp only [Option.bind_eq_some_iff, Option.some.injEq] at h
    obtain ⟨c, hc, rfl⟩ := h
    obtain ⟨c1, c2, _⟩ := hr.cel hc
    rw [repl_reps]
    refine ⟨_, rfl, c1.reps k, allOne_of fun x hx => ?_⟩
    obtain ⟨j, hj⟩ := List.getElem?_of_mem hx
    have hlt := (List.getElem?_eq_some_iff.1 hj).1
    rw [reps_len] at hlt
    rw [reps_get _ _ _ hlt] at hj
    exact c2 x (List.mem_of_getElem? hj)
theorem madeCells_reps (z : Array Value) (k : Nat) : (madeCells z (k * z.size)).toList = reps k z.toList := by
  apply List.ext_getElem?
  intro j
  by_cases hj : j < k * z.size
  · rw [reps_get _ _ _ (by simpa using hj)]
    have hz : 0 < z.size := by
      rcases Nat.eq_zero_or_pos z.size with h | h
      · rw [h, Nat.mul_zero] at hj; omega
      · exact h
    have hm := Nat.mod_lt j hz
    simp [madeCells, hj, hm, getElem!_pos, List.getElem?_range]
  · rw [List.getElem?_eq_none (by simp [madeCells]; omega), List.getElem?_eq_none (by rw [reps_len]; simp; omega)]
theorem okZ_eq {e : Nat} (h : okZ P e = true) : ∃ i z, P.info? e = some i ∧ i.zero = some z ∧ z.cells.size = i.size ∧ (P.info? e).map (·.zero) = some (some z) := by
  unfold okZ at h
  split at h
  · rename_i x n hx hn
    simp only [Bool.and_eq_true] at h
    obtain ⟨h1, h2⟩ := h
    have h2 := Nat.eq_of_beq_eq_true h2
    obtain ⟨z, hz, hr⟩ := zeroT_some hx
    have hs := sizeT_eq hn
    cases hi : P.info? e with
    | none => rw [hi] at hz; cases hz
    | some i =>
      rw [hi] at hz hs
      simp only [Option.map_some, Option.some.injEq] at hz hs
      have hc := (hr (fun _ => none)).cnt (by intro e; rw [e] at h1; cases h1)
      exact ⟨i, z, rfl, hz, by rw [hc, h2, hs], by rw [Option.map_some, hz]⟩
  · cases h
theorem fits_eq {e k : Nat} (h : fits P e k = true) : ∃ i, P.info? e = some i ∧ i.bytes * k ≤ 140737488355328 := by
  unfold fits at h
  split at h
  · rename_i i hi
    exact ⟨i, infoT_eq hi, by rw [ble_dec] at h; exact of_decide_eq_true h⟩
  · cases h
theorem ret2_some {v : Option Row} {k n : Nat} {c : Cap} {s s' : S} {r : AV} (h : ret2 v k n c s = some (r, s')) : ∃ row, v = some row ∧ r = .sl s.nx k n c ∧ s' = ⟨s.h.set s.nx row, s.nx + 1⟩ := by
  simp only [ret2, Option.bind_eq_some_iff, Option.some.injEq, Prod.mk.injEq] at h
  obtain ⟨u, hu, rfl, rfl⟩ := h
  exact ⟨u, hu, rfl, rfl⟩
theorem op_makeSlice {t : Nat} {x y : Operand} (ho : o.op = .makeSlice t x y) (h : oMakeSlice P f s t x y = some (r, s')) (hF : FO ρ f a o) : OpN P o a ρ s r s' := by
  simp only [oMakeSlice, Option.bind_eq_some_iff] at h
  obtain ⟨u, hu, v, hv, h⟩ := h
  have hu' := hF.opd (by rw [ho]; simp [Op.operands]) hu
  have hv' := hF.opd (by rw [ho]; simp [Op.operands]) hv
  unfold makeSliceA at h
  split at h
  · rename_i e ht
    simp only [Option.bind_eq_some_iff] at h
    obtain ⟨n, hn, c, hc, h⟩ := h
    cases hb : and (Nat.ble n c) (and (fits P e c) (and (okZ P e) (Nat.ble c 140737488355328))) with
    | false => rw [hb] at h; cases h
    | true =>
      rw [hb] at h
      simp only [Bool.and_eq_true, ble_dec, decide_eq_true_eq] at hb
      obtain ⟨hnc, hfit, hok, hcm⟩ := hb
      obtain ⟨row, hrow, rfl, rfl⟩ := ret2_some h
      obtain ⟨kn, en⟩ := natI_some hn hu'
      obtain ⟨kc, ec⟩ := natI_some hc hv'
      obtain ⟨i, z, hi, hz, hzs, hzz⟩ := okZ_eq hok
      obtain ⟨i', hi', hby⟩ := fits_eq hfit
      rw [hi] at hi'
      injection hi' with hi'
      subst hi'
      refine ⟨row, .sl n c, rfl, rfl, fun w => ?_⟩
      have hrun := run_make (P := P) w t e i z (undT_eq ht) hi hz kn kc (n : Int) (c : Int) (by omega) (by omega) (by
        have : ((i.bytes * c : Nat) : Int) ≤ 140737488355328 := by omega
        rw [Int.natCast_mul] at this
        omega) (by omega)
      simp only [Int.toNat_natCast] at hrun
      rw [← hzs] at hrun
      simp only [zeroRow, Option.bind_eq_some_iff] at hrow
      obtain ⟨x', hx', hrow⟩ := hrow
      obtain ⟨z', hz', hrv⟩ := zerosT_rv (ρ := ρ) hx'
      rw [hzz] at hz'
      injection hz' with hz'
      injection hz' with hz'
      subst hz'
      obtain ⟨h1, h2, h3⟩ := heap_push w (.cells (madeCells z.cells (c * z.cells.size)) e)
      refine ⟨.slice (some ⟨w.heap.size, 0, none⟩) n c, w.alloc (.cells (madeCells z.cells (c * z.cells.size)) e), c * z.cells.size, ?_, h3, rfl, rfl, rfl, h1, (rowOf_at hrow hrv (pad := []) h2 (by rw [madeCells_reps]; simp [Value.cells]) (size_madeCells _ _) (frok0 _) fun _ => rfl), fun ρ' i hi => ⟨_, hi, rfl, hnc⟩⟩
      unfold execOp
      rw [ho]
      simp [en, ec, hrun]
  · cases h
end
end Go.Ev
