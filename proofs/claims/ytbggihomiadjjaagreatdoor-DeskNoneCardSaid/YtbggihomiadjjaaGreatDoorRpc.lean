/- What is proved: how a request comes in: sixteen cells, each a value of one cell, two of them slices of elements. -/
import Derived.Test.YtbggihomiadjjaaGreatDoorOpn
set_option linter.unusedVariables false
set_option linter.constructorNameAsVariable false
namespace Go.Proofs.YtbggihomiadjjaaGreatDoor
open Go Go.RowKit Go.Fw

theorem Tryz.cells24 : Tryz.prog.cellsOf 24 = 16 := by kernel_rfl
theorem Tryz.cells3 : Tryz.prog.cellsOf 3 = 1 := by kernel_rfl
theorem Tryz.cells4 : Tryz.prog.cellsOf 4 = 1 := by kernel_rfl
section
variable {H : Type} {enc : TypeId × Value → H} {w : World} {base : Nat} {sp : Nat → Bool} {held : Bool}
theorem one_str {P : Program} {t : TypeId} (ht : P.underlying t = some .string) {fuel : Nat} {c : Value} {x : DataW H × List MemPlace} (h : DataW.trod enc P w base sp held fuel t [c] = some x) : c.oneCell' = true ∧ c.cells = #[c] := by
  obtain ⟨s, e⟩ := trod_str1 ht h
  injection e with e
  subst e
  exact ⟨rfl, rfl⟩
theorem one_int {P : Program} {t : TypeId} {k : IntKind} (ht : P.underlying t = some (.int k)) {fuel : Nat} {c : Value} {x : DataW H × List MemPlace} (h : DataW.trod enc P w base sp held fuel t [c] = some x) : c.oneCell' = true ∧ c.cells = #[c] := by
  obtain ⟨n, e, _⟩ := DataW.trod_int ht h
  injection e with e
  subst e
  exact ⟨rfl, rfl⟩
theorem one_bool {P : Program} {t : TypeId} (ht : P.underlying t = some .bool) {fuel : Nat} {c : Value} {x : DataW H × List MemPlace} (h : DataW.trod enc P w base sp held fuel t [c] = some x) : c.oneCell' = true ∧ c.cells = #[c] := by
  obtain ⟨n, e, _⟩ := DataW.trod_bool ht h
  injection e with e
  subst e
  exact ⟨rfl, rfl⟩
theorem one_els {v : Value} (h : Els w v) : v.oneCell' = true ∧ v.cells = #[v] := by
  obtain ⟨A, n, c, rfl⟩ := h.slice
  exact ⟨rfl, rfl⟩
theorem list16 {α : Type} {l : List α} (h : l.length = 16) : ∃ c0 c1 c2 c3 c4 c5 c6 c7 c8 c9 c10 c11 c12 c13 c14 c15, l = [c0, c1, c2, c3, c4, c5, c6, c7, c8, c9, c10, c11, c12, c13, c14, c15] := by
  match l, h with
  | [c0, c1, c2, c3, c4, c5, c6, c7, c8, c9, c10, c11, c12, c13, c14, c15], _ => exact ⟨c0, c1, c2, c3, c4, c5, c6, c7, c8, c9, c10, c11, c12, c13, c14, c15, rfl⟩
theorem open_rpc {r : Reach} {base0 : Nat} {v : Value} {d : DataW H} {p : List MemPlace} (hok : Value.okWide Tryz.prog w r base0 24 v) (h : DataW.Trod enc Tryz.prog w base sp held 24 v d p) :
    ∃ c0 c1 c2 c3 c4 c5 c6 c7 c8 c9 c10 c11 c12 c13 c14 c15, v = .agg #[c0, c1, c2, c3, c4, c5, c6, c7, c8, c9, c10, c11, c12, c13, c14, c15] ∧ (∀ u ∈ [c0, c1, c2, c3, c4, c5, c6, c7, c8, c9, c10, c11, c12, c13, c14, c15], u.oneCell' = true ∧ u.cells = #[u]) ∧ Els w c5 ∧ Els w c10 := by
  simp only [Value.okWide, Tryz.underlying24] at hok
  obtain ⟨cs, rfl, h2, _⟩ := hok
  obtain ⟨fuel, hf⟩ := h
  obtain ⟨xs, m, _, _, _, hl, hel⟩ := DataW.trod_struct Tryz.underlying24 hf
  obtain ⟨cl⟩ := cs
  rw [Tryz.cells24] at h2
  have h2 : cl.length = 16 := h2
  obtain ⟨c0, c1, c2, c3, c4, c5, c6, c7, c8, c9, c10, c11, c12, c13, c14, c15, rfl⟩ := list16 h2
  have hel : ∀ (i : Nat) (f : Field), _ → DataW.trod enc Tryz.prog w base sp held m f.type ((([c0, c1, c2, c3, c4, c5, c6, c7, c8, c9, c10, c11, c12, c13, c14, c15] : List Value).drop f.offset).take (Tryz.prog.cellsOf f.type)) = xs[i]? := hel
  have hx : ∀ k, k < 16 → ∃ z, xs[k]? = some z := fun k hk => ⟨_, List.getElem?_eq_getElem (by rw [hl]; exact hk)⟩
  obtain ⟨z0, e0⟩ := hx 0 (by omega)
  obtain ⟨z1, e1⟩ := hx 1 (by omega)
  obtain ⟨z2, e2⟩ := hx 2 (by omega)
  obtain ⟨z3, e3⟩ := hx 3 (by omega)
  obtain ⟨z4, e4⟩ := hx 4 (by omega)
  obtain ⟨z5, e5⟩ := hx 5 (by omega)
  obtain ⟨z6, e6⟩ := hx 6 (by omega)
  obtain ⟨z7, e7⟩ := hx 7 (by omega)
  obtain ⟨z8, e8⟩ := hx 8 (by omega)
  obtain ⟨z9, e9⟩ := hx 9 (by omega)
  obtain ⟨z10, e10⟩ := hx 10 (by omega)
  obtain ⟨z11, e11⟩ := hx 11 (by omega)
  obtain ⟨z12, e12⟩ := hx 12 (by omega)
  obtain ⟨z13, e13⟩ := hx 13 (by omega)
  obtain ⟨z14, e14⟩ := hx 14 (by omega)
  obtain ⟨z15, e15⟩ := hx 15 (by omega)
  have g0 : DataW.trod enc Tryz.prog w base sp held m 9 [c0] = some z0 := fld1 hel 0 rfl rfl rfl Tryz.cells9 rfl e0
  have g1 : DataW.trod enc Tryz.prog w base sp held m 9 [c1] = some z1 := fld1 hel 1 rfl rfl rfl Tryz.cells9 rfl e1
  have g2 : DataW.trod enc Tryz.prog w base sp held m 3 [c2] = some z2 := fld1 hel 2 rfl rfl rfl Tryz.cells3 rfl e2
  have g3 : DataW.trod enc Tryz.prog w base sp held m 3 [c3] = some z3 := fld1 hel 3 rfl rfl rfl Tryz.cells3 rfl e3
  have g4 : DataW.trod enc Tryz.prog w base sp held m 4 [c4] = some z4 := fld1 hel 4 rfl rfl rfl Tryz.cells4 rfl e4
  have g5 : DataW.trod enc Tryz.prog w base sp held m 22 [c5] = some z5 := fld1 hel 5 rfl rfl rfl Tryz.cells22 rfl e5
  have g6 : DataW.trod enc Tryz.prog w base sp held m 3 [c6] = some z6 := fld1 hel 6 rfl rfl rfl Tryz.cells3 rfl e6
  have g7 : DataW.trod enc Tryz.prog w base sp held m 3 [c7] = some z7 := fld1 hel 7 rfl rfl rfl Tryz.cells3 rfl e7
  have g8 : DataW.trod enc Tryz.prog w base sp held m 3 [c8] = some z8 := fld1 hel 8 rfl rfl rfl Tryz.cells3 rfl e8
  have g9 : DataW.trod enc Tryz.prog w base sp held m 4 [c9] = some z9 := fld1 hel 9 rfl rfl rfl Tryz.cells4 rfl e9
  have g10 : DataW.trod enc Tryz.prog w base sp held m 22 [c10] = some z10 := fld1 hel 10 rfl rfl rfl Tryz.cells22 rfl e10
  have g11 : DataW.trod enc Tryz.prog w base sp held m 4 [c11] = some z11 := fld1 hel 11 rfl rfl rfl Tryz.cells4 rfl e11
  have g12 : DataW.trod enc Tryz.prog w base sp held m 3 [c12] = some z12 := fld1 hel 12 rfl rfl rfl Tryz.cells3 rfl e12
  have g13 : DataW.trod enc Tryz.prog w base sp held m 9 [c13] = some z13 := fld1 hel 13 rfl rfl rfl Tryz.cells9 rfl e13
  have g14 : DataW.trod enc Tryz.prog w base sp held m 9 [c14] = some z14 := fld1 hel 14 rfl rfl rfl Tryz.cells9 rfl e14
  have g15 : DataW.trod enc Tryz.prog w base sp held m 3 [c15] = some z15 := fld1 hel 15 rfl rfl rfl Tryz.cells3 rfl e15
  have k5 := els_trod _ _ _ g5
  have k10 := els_trod _ _ _ g10
  obtain ⟨v5, e5', k5⟩ := k5
  obtain ⟨v10, e10', k10⟩ := k10
  injection e5' with e5'
  injection e10' with e10'
  subst e5' e10'
  refine ⟨c0, c1, c2, c3, c4, c5, c6, c7, c8, c9, c10, c11, c12, c13, c14, c15, rfl, fun u hu => ?_, k5, k10⟩
  simp only [List.mem_cons, List.not_mem_nil, or_false] at hu
  rcases hu with rfl | rfl | rfl | rfl | rfl | rfl | rfl | rfl | rfl | rfl | rfl | rfl | rfl | rfl | rfl | rfl
  · exact one_str Tryz.underlying9 g0
  · exact one_str Tryz.underlying9 g1
  · exact one_int Tryz.underlying3 g2
  · exact one_int Tryz.underlying3 g3
  · exact one_bool Tryz.underlying4 g4
  · exact one_els k5
  · exact one_int Tryz.underlying3 g6
  · exact one_int Tryz.underlying3 g7
  · exact one_int Tryz.underlying3 g8
  · exact one_bool Tryz.underlying4 g9
  · exact one_els k10
  · exact one_bool Tryz.underlying4 g11
  · exact one_int Tryz.underlying3 g12
  · exact one_str Tryz.underlying9 g13
  · exact one_str Tryz.underlying9 g14
  · exact one_int Tryz.underlying3 g15
end
end Go.Proofs.YtbggihomiadjjaaGreatDoor
