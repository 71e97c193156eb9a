/- What is proved: how the calls of a law of layer 18 come in. -/
import Derived.Test.YtfhalnobaeogkaaDoorProg
import Derived.Test.YtfhalnobaeogkaaDoorFwSep
import Derived.KernelRfl
import Derived.Test.YtfhalnobaeogkaaDoorFwRow4
import Derived.Test.YtfhalnobaeogkaaDoorVCall
set_option linter.unusedVariables false
set_option linter.unusedSimpArgs false
namespace Go.Proofs.YtfhalnobaeogkaaDoor
open Go Go.RowKit Go.Fw




instance : Inhabited CallV := ⟨⟨0, [], [], false, 0, 0⟩⟩
theorem callsV_field {j : Nat} {f : Field} {d0 d1 d2 d3 d4 d5 : Field} (h : (#[d0, d1, d2, d3, d4, d5] : Array Field)[j]? = some f) : (j = 0 ∧ f = d0) ∨ (j = 1 ∧ f = d1) ∨ (j = 2 ∧ f = d2) ∨ (j = 3 ∧ f = d3) ∨ (j = 4 ∧ f = d4) ∨ (j = 5 ∧ f = d5) := by
  match j, h with
  | 0, h => exact .inl ⟨rfl, by simpa using h.symm⟩
  | 1, h => exact .inr (.inl ⟨rfl, by simpa using h.symm⟩)
  | 2, h => exact .inr (.inr (.inl ⟨rfl, by simpa using h.symm⟩))
  | 3, h => exact .inr (.inr (.inr (.inl ⟨rfl, by simpa using h.symm⟩)))
  | 4, h => exact .inr (.inr (.inr (.inr (.inl ⟨rfl, by simpa using h.symm⟩))))
  | 5, h => exact .inr (.inr (.inr (.inr (.inr ⟨rfl, by simpa using h.symm⟩))))
  | j + 6, h => simp at h
theorem rd_callsV {H : Type} {enc : TypeId × Value → H} {w : World} {base : Nat} {held : Bool} {A : Option Addr} {len cap : Nat} {d : DataW H} {p : List MemPlace} (h : DataW.Trod enc Tryd.prog w base (fun _ => true) held 83 (.slice A len cap) d p) (hs : ∀ n ∈ d.weights Tryd.prog 83, n ≤ reachBytes) : ∃ cs, CVd w (.slice A len cap) cs := by
  obtain ⟨h1, h2, h3⟩ := open_structs Tryd.underlying83 Tryd.underlying87 (k := 6) (by kernel_rfl) rfl (by decide) (fun j f hf => by
    rcases callsV_field hf with ⟨rfl, rfl⟩ | ⟨rfl, rfl⟩ | ⟨rfl, rfl⟩ | ⟨rfl, rfl⟩ | ⟨rfl, rfl⟩ | ⟨rfl, rfl⟩ <;> exact ⟨rfl, by kernel_rfl⟩) h
  have hmax : maxLen = 9223372036854775807 := rfl
  by_cases hl : len = 0
  · subst hl
    exact ⟨[], ⟨A, cap, rfl, fun h => absurd h (by simp)⟩, (fun x hx => by cases hx), by simp⟩
  · obtain ⟨b, o, rfl, hf⟩ := h3 (by omega)
    obtain ⟨C, hC⟩ := Deep.choose_lt (α := CallV) (n := len) (p := fun i x => (∀ j u, x.cells[j]? = some u → w.cell? ⟨b, o + i * 6 + j, none⟩ = some u) ∧ x.Ok) (fun i hi => by
      obtain ⟨v0, f0⟩ := hf i hi 0 _ rfl
      obtain ⟨v1, f1⟩ := hf i hi 1 _ rfl
      obtain ⟨v2, f2⟩ := hf i hi 2 _ rfl
      obtain ⟨v3, f3⟩ := hf i hi 3 _ rfl
      obtain ⟨v4, f4⟩ := hf i hi 4 _ rfl
      obtain ⟨v5, f5⟩ := hf i hi 5 _ rfl
      obtain ⟨kd, rfl, _⟩ := f0.int Tryd.underlying3
      obtain ⟨ca, rfl, ha⟩ := f1.str Tryd.underlying9 hs
      obtain ⟨cc, rfl, hc⟩ := f2.str Tryd.underlying9 hs
      obtain ⟨cp, rfl⟩ := f3.bool Tryd.underlying4
      obtain ⟨cn, rfl, hn⟩ := f4.int Tryd.underlying3
      obtain ⟨ct, rfl, ht⟩ := f5.int Tryd.underlying3
      refine ⟨⟨kd, ca, cc, cp, cn, ct⟩, fun j u hu => ?_, ha, hc, hn, ht⟩
      match j, hu with
      | 0, hu => simp only [CallV.cells, List.getElem?_cons_zero, Option.some.injEq] at hu; subst hu; exact f0.cell
      | 1, hu => simp only [CallV.cells, List.getElem?_cons_succ, List.getElem?_cons_zero, Option.some.injEq] at hu; subst hu; exact f1.cell
      | 2, hu => simp only [CallV.cells, List.getElem?_cons_succ, List.getElem?_cons_zero, Option.some.injEq] at hu; subst hu; exact f2.cell
      | 3, hu => simp only [CallV.cells, List.getElem?_cons_succ, List.getElem?_cons_zero, Option.some.injEq] at hu; subst hu; exact f3.cell
      | 4, hu => simp only [CallV.cells, List.getElem?_cons_succ, List.getElem?_cons_zero, Option.some.injEq] at hu; subst hu; exact f4.cell
      | 5, hu => simp only [CallV.cells, List.getElem?_cons_succ, List.getElem?_cons_zero, Option.some.injEq] at hu; subst hu; exact f5.cell
      | j + 6, hu => simp [CallV.cells] at hu)
    have hget : ∀ i x, ((List.range len).map C)[i]? = some x → i < len ∧ x = C i := fun i x hx => by
      rw [List.getElem?_map] at hx
      obtain ⟨q, hq, rfl⟩ := Option.map_eq_some_iff.1 hx
      have hq1 := List.getElem?_eq_some_iff.1 hq
      have hlt : i < len := by simpa using hq1.1
      have : q = i := by have := hq1.2; simpa using this.symm
      exact ⟨hlt, by rw [this]⟩
    refine ⟨(List.range len).map C, ⟨_, cap, by simp, fun _ => ⟨b, o, rfl, fun i x hx => ?_⟩⟩, fun x hx => ?_, by simp; omega⟩
    · obtain ⟨hlt, rfl⟩ := hget i x hx
      exact (hC i hlt).1
    · obtain ⟨i, hi⟩ := List.getElem?_of_mem hx
      obtain ⟨hlt, rfl⟩ := hget i x hi
      exact (hC i hlt).2



end Go.Proofs.YtfhalnobaeogkaaDoor
