/- What is proved: how an array of two slices of bytes comes in. -/
import Derived.Test.YtbggihomiadjjaaGreatDoorFwRow2
set_option linter.unusedVariables false
set_option linter.unusedSimpArgs false
namespace Go.Fw
open Go Go.RowKit Go.ChangeShapes Go.WideShapes Go.Deep
theorem rd_cell1 {H : Type} {enc : TypeId × Value → H} {P : Program} {w : World} {base : Nat} {held : Bool} {e b : TypeId} {c : Value} {m : Nat} {x : DataW H × List MemPlace} (he : P.underlying e = some (.slice b)) (hb : P.underlying b = some (.int .u8)) (hcb : P.cellsOf b = 1)
    (h : DataW.trod enc P w base (fun _ => true) held m e [c] = some x) : ∃ l : List UInt8, Rd w c (l.map vB) := by
  rcases open_ints he hb hcb h with ⟨hcs, _⟩ | ⟨y, l', c', zs, hcs, _, hl', hm', hz, hy, hcell, hwz⟩
  · injection hcs with hcs _
    rw [hcs]
    exact ⟨[], Rd.nil w⟩
  · injection hcs with hcs _
    rw [hcs]
    exact rd_ints hl' hm' (by simpa using hz) hcell hwz
theorem open_arr2 {H : Type} {enc : TypeId × Value → H} {P : Program} {w : World} {r : Reach} {base0 base : Nat} {held : Bool} {t e b : TypeId} {v : Value} {d : DataW H} {p : List MemPlace} (ht : P.underlying t = some (.array 2 e)) (he : P.underlying e = some (.slice b)) (hb : P.underlying b = some (.int .u8)) (hct : P.cellsOf t = 2) (hce : P.cellsOf e = 1) (hcb : P.cellsOf b = 1)
    (hok : Value.okWide P w r base0 t v) (h : DataW.Trod enc P w base (fun _ => true) held t v d p) : ∃ (v0 v1 : Value) (l0 l1 : List UInt8), v = .agg #[v0, v1] ∧ Rd w v0 (l0.map vB) ∧ Rd w v1 (l1.map vB) := by
  simp only [Value.okWide, ht] at hok
  obtain ⟨cs, rfl, h2, _⟩ := hok
  obtain ⟨fuel, hf⟩ := h
  obtain ⟨xs, m, _, _, _, hl, hel⟩ := DataW.trod_array ht hf
  obtain ⟨cl⟩ := cs
  rw [hct] at h2
  match cl, h2 with
  | [c0, c1], _ =>
    have h0 := hel 0 (by decide)
    have h1 := hel 1 (by decide)
    rw [hce] at h0 h1
    rw [List.getElem?_eq_getElem (by omega)] at h0 h1
    obtain ⟨l0, r0⟩ := rd_cell1 he hb hcb (c := c0) h0
    obtain ⟨l1, r1⟩ := rd_cell1 he hb hcb (c := c1) h1
    exact ⟨c0, c1, l0, l1, rfl, r0, r1⟩
end Go.Fw
