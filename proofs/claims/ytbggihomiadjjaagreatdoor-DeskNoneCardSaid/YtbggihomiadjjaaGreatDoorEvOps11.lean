/- What is proved: the row behind an append that grows. -/
import Derived.Test.YtbggihomiadjjaaGreatDoorEvOps10
set_option linter.unusedVariables false
set_option linter.unusedSimpArgs false
namespace Go.Ev
open Go Go.Fw

section
variable {P : Program} {w : World} {s s' : S} {ρ : Rho}
theorem cells_at {e : Nat} {l : List AV} {vs pad : List Value} (h1 : RVs ρ l vs) (h2 : ∀ y ∈ l, y.one = true) {w' : World} {b sz : Nat} {arr : Array Value} {et : TypeId} {fr : Nat × Nat} (hb : w'.heap[b]? = some (.cells arr et fr)) (harr : arr.toList = vs ++ pad) (hsz : arr.size = sz) (hfr : FrOk fr sz) :
    ∀ ρ', (∀ i p, ρ i = some p → ρ' i = some p) → RowAt ρ' w' ⟨b, 0, sz⟩ (.cells e true l) := by
  intro ρ' hx
  have hlen : arr.size = vs.length + pad.length := by rw [← Array.length_toList, harr, List.length_append]
  refine ⟨arr, et, fr, hb, hsz, hfr, by show 0 + l.length ≤ sz; rw [h1.len]; omega, (fun hr => absurd hr (by decide)), fun k y hy => ?_⟩
  obtain ⟨u, hu, hru⟩ := h1.get hy
  refine ⟨h2 y (List.mem_of_getElem? hy), u, ?_, RV.mono hx y u hru⟩
  rw [Nat.zero_add, ← Array.getElem?_toList, harr, List.getElem?_append_left (by exact (List.getElem?_eq_some_iff.1 hu).1)]
  exact hu
theorem bytes_at {e n c : Nat} {pad : List Value} (hc : c < 2 ^ (8 * n)) {w' : World} {b sz : Nat} {arr : Array Value} {et : TypeId} {fr : Nat × Nat} (hb : w'.heap[b]? = some (.cells arr et fr)) (harr : arr.toList = (byL n c).map vU ++ pad) (hsz : arr.size = sz) (hfr : FrOk fr sz) :
    ∀ ρ' : Rho, RowAt ρ' w' ⟨b, 0, sz⟩ (.bytes e true n c) := by
  intro ρ'
  have hlen : arr.size = n + pad.length := by rw [← Array.length_toList, harr, List.length_append, List.length_map, byL_len]
  refine ⟨hc, arr, et, fr, hb, hsz, hfr, by show 0 + n ≤ sz; omega, (fun hr => absurd hr (by decide)), fun k y hy => ?_⟩
  have hk : k < n := by have := (List.getElem?_eq_some_iff.1 hy).1; rwa [byL_len] at this
  rw [Nat.zero_add, ← Array.getElem?_toList, harr, List.getElem?_append_left (by rw [List.length_map, byL_len]; exact hk), List.getElem?_map, hy]
  rfl
theorem catRow_at {e o m : Nat} {r row : Row} {y v : AV} {olds news : Array Value} {pad : List Value} (h : catRow e r o m v = some row) (hy : readRow r o m = some y) (ho : RV ρ y (.agg olds)) (hn : RV ρ v (.agg news)) {w' : World} {b sz : Nat} {arr : Array Value} {et : TypeId} {fr : Nat × Nat} (hb : w'.heap[b]? = some (.cells arr et fr))
    (harr : arr.toList = (olds.toList ++ news.toList) ++ pad) (hsz : arr.size = sz) (hfr : FrOk fr sz) : ∀ ρ', (∀ i p, ρ i = some p → ρ' i = some p) → RowAt ρ' w' ⟨b, 0, sz⟩ row := by
  simp only [catRow, hy, Option.bind_some] at h
  split at h
  · rename_i n1 c1 n2 c2
    injection h with h
    subst h
    obtain ⟨e1, b1⟩ := ho
    obtain ⟨e2, b2⟩ := hn
    injection e1 with e1
    injection e2 with e2
    subst e1 e2
    intro ρ' _
    exact bytes_at (n := n1 + n2) (bCat_lt b1 b2) hb (by rw [harr, byL_cat n1 n2 c1 c2 b1, List.map_append]) hsz hfr ρ'
  · rename_i l1 l2
    injection h with h
    subst h
    obtain ⟨a1, e1, r1, o1⟩ := ho
    obtain ⟨a2, e2, r2, o2⟩ := hn
    injection e1 with e1
    injection e2 with e2
    subst e1 e2
    exact cells_at (r1.append r2) (fun x hx => by
      rcases List.mem_append.1 hx with hx | hx
      · exact allOne_mem o1 x hx
      · exact allOne_mem o2 x hx) hb harr hsz hfr
  · cases h
end
end Go.Ev
