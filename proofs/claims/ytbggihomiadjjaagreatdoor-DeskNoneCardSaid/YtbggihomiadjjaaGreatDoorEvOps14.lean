/- What is proved: append onto a slice whose room is not known, where there is room. -/
import Derived.Test.YtbggihomiadjjaaGreatDoorEvOps13
import Derived.Laws.IdiomCopy
set_option linter.unusedVariables false
set_option linter.unusedSimpArgs false
namespace Go.Ev
open Go Go.Fw

section
variable {P : Program} {w : World} {s s' : S} {ρ : Rho}
theorem catRow_off {e o m : Nat} {r row : Row} {y v : AV} {olds news : Array Value} (h : catRow e r o m v = some row) (hy : readRow r o m = some y) (ho : RV ρ y (.agg olds)) (hn : RV ρ v (.agg news)) {w' : World} {b o' sz : Nat} {arr : Array Value} {et : TypeId} {fr : Nat × Nat} (hb : w'.heap[b]? = some (.cells arr et fr))
    (hc : ∀ j u, (olds.toList ++ news.toList)[j]? = some u → arr[o' + j]? = some u) (hle : o' + (olds.size + news.size) ≤ sz) (hsz : arr.size = sz) (hfr : FrOk fr sz) : ∀ ρ', (∀ i p, ρ i = some p → ρ' i = some p) → RowAt ρ' w' ⟨b, o', sz⟩ row := by
  simp only [catRow, hy, Option.bind_some] at h
  split at h
  · rename_i n1 c1 n2 c2
    injection h with h
    subst h
    obtain ⟨e1, b1⟩ := ho
    obtain ⟨e2, b2⟩ := hn
    injection e1 with e1
    injection e2 with e2
    subst e1 e2
    intro ρ' _
    have hlen : o' + (n1 + n2) ≤ sz := by simpa [byL_len] using hle
    refine ⟨bCat_lt b1 b2, arr, et, fr, hb, hsz, hfr, hlen, (fun hr => absurd hr (by decide)), fun k x hx => ?_⟩
    apply hc
    rw [show Nat.add n1 n2 = n1 + n2 from rfl, byL_cat n1 n2 c1 c2 b1] at hx
    have := congrArg (Option.map vU) hx
    rw [← List.getElem?_map, List.map_append] at this
    exact this
  · rename_i l1 l2
    injection h with h
    subst h
    obtain ⟨a1, e1, r1, o1⟩ := ho
    obtain ⟨a2, e2, r2, o2⟩ := hn
    injection e1 with e1
    injection e2 with e2
    subst e1 e2
    intro ρ' hx
    have hr := r1.append r2
    have hlen : o' + (l1 ++ l2).length ≤ sz := by
      have := hr.len
      rw [this]
      simpa using hle
    refine ⟨arr, et, fr, hb, hsz, hfr, hlen, (fun hr => absurd hr (by decide)), fun k z hz => ?_⟩
    obtain ⟨u, hu, hru⟩ := hr.get hz
    refine ⟨?_, u, hc k u hu, RV.mono hx z u hru⟩
    rcases List.mem_append.1 (List.mem_of_getElem? hz) with hm | hm
    · exact allOne_mem o1 z hm
    · exact allOne_mem o2 z hm
  · cases h
theorem readRow_agg {r : Row} {o n : Nat} {y : AV} (h : readRow r o n = some y) : y.isAgg = true ∧ y.cnt = n := by
  cases r with
  | cells e m l =>
    simp only [readRow, Option.bind_eq_some_iff, Option.some.injEq] at h
    obtain ⟨x, hx, rfl⟩ := h
    obtain ⟨h1, h2⟩ := takeL_some _ _ _ hx
    refine ⟨rfl, ?_⟩
    show lenL x = n
    rw [lenL_eq, h1, List.length_take]
    omega
  | bytes e m k c =>
    rw [readRow, cble] at h
    split at h
    · injection h with h
      subst h
      exact ⟨rfl, rfl⟩
    · cases h
  | dead => cases h
theorem srcA_agg {x v : AV} {z k : Nat} (h : srcA s x z k = some v) : v.isAgg = true := by
  unfold srcA at h
  split at h
  · rw [cble] at h
    split at h
    · injection h with h
      subst h
      rfl
    · cases h
  · rw [cbeq] at h
    split at h
    · injection h with h
      subst h
      rfl
    · cases h
  · rw [cble] at h
    split at h
    · simp only [Option.bind_eq_some_iff] at h
      obtain ⟨r, _, h⟩ := h
      exact (readRow_agg h).1
    · cases h
  · cases h
theorem catRow_len {e o m : Nat} {r row : Row} {v : AV} (h : catRow e r o m v = some row) : ∃ y, readRow r o m = some y := by
  simp only [catRow, Option.bind_eq_some_iff] at h
  obtain ⟨y, hy, _⟩ := h
  exact ⟨y, hy⟩
theorem aggRV_one {v : AV} {cs : Array Value} (h : RV ρ v (.agg cs)) (hv : v.isAgg = true) : ∀ u ∈ cs.toList, u.oneCell' = true := by
  cases v with
  | agg l => exact (h.cel (l := l) rfl).2.2
  | bag n c => exact (h.cel (l := bList c n 0) rfl).2.2
  | _ => cases hv
theorem appU_run {e n c k z i q : Nat} {ti : TypeInfo} {zv : Value} {ty : TypeId} {T : Array TypeId} {A cs : Array Value} {v : AV} {r row : Row} {p : Pl} (hS : Src P w T ty A e ti zv k cs) (hsz : ti.size = z)
    (hA : A[0]? = some (.slice (some ⟨p.b, p.o + q, none⟩) n c)) (hrv : RV ρ v (.agg cs)) (hp : ρ i = some p) (h1000 : 1000 ≤ i) (hl : Rel ρ s w)
    (hr : s.h.get i = some r) (hva : v.isAgg = true) (hvc : v.cnt = k * z) (hcat : catRow e r q (n * z) v = some row)
    (hcap : p.o + q + c * z = p.sz) (hroom : n + k ≤ c) :
    ∃ r' w' p2, (Builtin.append_ T ty A).run P w = .ok r' w' ∧ RV (ρ.set s.nx p2) (.sl s.nx 0 (n + k) (.u z)) r' ∧ Goes ρ s w (ρ.set s.nx p2) ⟨(s.h.set i .dead).set s.nx row, s.nx + 1⟩ w' := by
  have hcn : cs.size = k * z := by rw [hrv.aggcnt hva, hvc]
  obtain ⟨y, hy⟩ := catRow_len hcat
  have hnd : r ≠ .dead := by rintro rfl; cases hy
  obtain ⟨p', hp', hra⟩ := hl.row i r hr hnd
  rw [hp] at hp'
  injection hp' with hp'
  subst hp'
  obtain ⟨vs, hlen, hcells, hru⟩ := hra.cells_ hy
  have hb : ∃ arr et fr, w.heap[p.b]? = some (.cells arr et fr) ∧ arr.size = p.sz ∧ FrOk fr p.sz := by
    cases r with
    | cells e m l => obtain ⟨arr, et, fr, h1, h2, h3, _⟩ := hra; exact ⟨arr, et, fr, h1, h2, h3⟩
    | bytes e m n c => obtain ⟨_, arr, et, fr, h1, h2, h3, _⟩ := hra; exact ⟨arr, et, fr, h1, h2, h3⟩
    | dead => exact hra.elim
  obtain ⟨arr, et, fr, hb, hasz, hfr⟩ := hb
  have hm : (n + k) * z ≤ c * z := Nat.mul_le_mul_right _ hroom
  rw [Nat.add_mul] at hm
  obtain ⟨M, hM⟩ : ∃ M, M = n * z := ⟨_, rfl⟩
  obtain ⟨K, hK⟩ : ∃ K, K = k * z := ⟨_, rfl⟩
  obtain ⟨C, hC⟩ : ∃ C, C = c * z := ⟨_, rfl⟩
  rw [← hM, ← hK, ← hC] at hm
  rw [← hC] at hcap
  have hst := run_storeCells_cells (P := P) p.b (p.o + q + M) cs.toList 0 w (fun j hj => by
      rw [Array.length_toList, hcn, ← hK] at hj
      rw [Nat.add_zero, cell_of hb, Array.getElem?_eq_getElem (by omega)]
      rfl) (fun j hj => by
      rw [Array.length_toList, hcn, ← hK] at hj
      rw [Nat.add_zero]
      have := hfr.no (p.o + q + M + j) (by omega)
      obtain ⟨f1, f2⟩ := fr
      simp only [World.frozen?, hb]
      simp only at this
      by_cases hf : f1 ≤ p.o + q + M + j
      · have : ¬ p.o + q + M + j < f2 := fun hh => this ⟨hf, hh⟩
        simp [this]
      · simp [hf]) (aggRV_one hrv hva)
  rw [Nat.add_zero] at hst
  obtain ⟨arr', c1, c2, c3, c4, c5, c6, c7, c8⟩ := setCells_heap p.b cs.toList (p.o + q + M) w arr et fr hb
  have hset : (ρ.set s.nx ⟨p.b, p.o + q, p.sz⟩) s.nx = some ⟨p.b, p.o + q, p.sz⟩ := if_pos rfl
  refine ⟨_, _, ⟨p.b, p.o + q, p.sz⟩, hS.room _ n c (w.setCells p.b (p.o + q + M) cs.toList) hA hroom ?_,
    ⟨⟨p.b, p.o + q, p.sz⟩, _, c, hset, rfl, hroom, .inl ⟨rfl, by show p.o + q + 0 + c * z = p.sz; rw [← hC]; omega⟩⟩, ?_⟩
  · rw [Addr.add_lit, hsz, ← hM]
    exact hst
  · refine goes_move hl h1000 hr hnd hp rfl c5 c6 c7 c8 c4 (catRow_off hcat hy hru hrv c1 (fun j u hj => ?_) (by rw [List.size_toArray, hlen, hcn, ← hM, ← hK]; omega) (by rw [c2]; exact hasz) hfr)
    simp only [List.toList_toArray] at hj
    have hj' : j < vs.length + cs.toList.length := by have := (List.getElem?_eq_some_iff.1 hj).1; rwa [List.length_append] at this
    rw [show cs.toList.length = cs.size from Array.length_toList, hcn, hlen, ← hM, ← hK] at hj'
    rw [c3 (p.o + q + j), Array.length_toList, hcn, ← hK]
    by_cases hjm : j < M
    · rw [if_neg (by omega)]
      rw [List.getElem?_append_left (by rw [hlen, ← hM]; exact hjm)] at hj
      have := hcells j u hj
      rwa [cell_of hb] at this
    · rw [if_pos ⟨by omega, by omega, by omega⟩]
      rw [List.getElem?_append_right (by rw [hlen, ← hM]; omega), hlen, ← hM] at hj
      rw [show p.o + q + j - (p.o + q + M) = j - M by omega]
      exact hj
end
end Go.Ev
