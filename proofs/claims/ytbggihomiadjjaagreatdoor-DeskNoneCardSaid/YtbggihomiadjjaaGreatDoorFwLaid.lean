/- What is proved: a table of words of 64 bits that a row lists, cell by cell. -/
import Derived.Test.YtbggihomiadjjaaGreatDoorFwRow3
import Derived.Test.YtbggihomiadjjaaGreatDoorFwStr
import Derived.ProofKit
import Derived.LaidMore
import Derived.OpenShut
import Derived.Stop.Joined
set_option linter.unusedVariables false
set_option linter.unusedSimpArgs false
namespace Go.Fw
open Go Go.RowKit Go.ChangeShapes Go.WideShapes
theorem table_u64 {H : Type} {enc : TypeId × Value → H} {P : Program} {w : World} {base : Nat} {spare : Nat → Bool} {held : Bool} {fuel : Nat} {t e : TypeId} {n : Nat} {cs : List Value} {l : List UInt64} {p : List MemPlace} (ht : P.underlying t = some (.array n e)) (he : P.underlying e = some (.int .u64)) (hc : P.cellsOf e = 1) (hl : l.length = n)
    (h : DataW.trod enc P w base spare held fuel t cs = some (.agg (l.map fun x => .lit (.int .u64 (x.toNat : Int))), p)) : ∀ i, i < n → cs[i]? = some (vD (l.getD i 0)) := by
  intro i hi
  obtain ⟨xs, m, _, hx, _, hn, hel⟩ := DataW.trod_array ht h
  simp only [Prod.mk.injEq, DataW.agg.injEq] at hx
  have hi' := hel i hi
  rw [hc, Nat.mul_one, List.getElem?_eq_getElem (by omega)] at hi'
  obtain ⟨k, e1, e2, _⟩ := DataW.trod_int he hi'
  have hd : (l.map fun x => (DataW.lit (.int .u64 (x.toNat : Int)) : DataW H))[i]? = some (xs[i].1) := by rw [hx.1, List.getElem?_map, List.getElem?_eq_getElem (by omega)]; rfl
  rw [List.getElem?_map, List.getElem?_eq_getElem (by omega)] at hd
  simp only [Option.map_some, Option.some.injEq] at hd
  rw [e2] at hd
  injection hd with hd
  injection hd with _ hd
  have h1 : ((cs.drop i).take 1)[0]? = some (.int .u64 k) := by rw [e1]; rfl
  rw [List.getElem?_take, if_pos (by omega), List.getElem?_drop, Nat.add_zero] at h1
  rw [h1, ← hd, vD, List.getD_eq_getElem?_getD, List.getElem?_eq_getElem (by omega)]
  rfl
end Go.Fw
namespace Go.Fw
open Go Go.RowKit Go.ChangeShapes Go.WideShapes
theorem open_boolW {P : Program} {w : World} {r : Reach} {base : Nat} {t : TypeId} {v : Value} (ht : P.underlying t = some .bool) (h : Value.okWide P w r base t v) : ∃ b : Bool, v = .bool b := by
  simp only [Value.okWide, ht, Cell.okWide] at h
  cases v <;> simp [Cell.ok, ht] at h
  exact ⟨_, rfl⟩
theorem open_strW {P : Program} {w : World} {r : Reach} {base : Nat} {t : TypeId} {v : Value} (ht : P.underlying t = some .string) (h : Value.okWide P w r base t v) : ∃ l : List UInt8, v = sV l := by
  simp only [Value.okWide, ht, Cell.okWide] at h
  cases v with
  | string s => exact ⟨s.data.toList, by rw [sV]⟩
  | _ => simp [Cell.ok, ht] at h
end Go.Fw
