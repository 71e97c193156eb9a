/- What is proved: how the arguments of a row come in: bytes, arrays of bytes. -/
import Derived.Test.YtbggihomiadjjaaGreatDoorFwSep
import Derived.ProofKit
import Derived.OpenShut
import Derived.ShutString
import Derived.ChangeOld
import Derived.Below
set_option linter.unusedVariables false
namespace Go.Fw
open Go Go.RowKit Go.ChangeShapes Go.WideShapes

/-- The bytes of cells that are bytes. -/
theorem cells_bytes {cs : List Value} (h : ∀ v ∈ cs, ∃ n : Int, v = .int .u8 n ∧ IntKind.u8.has n) : ∃ bl : List UInt8, bl.length = cs.length ∧ cs = bl.map vB := by
  induction cs with
  | nil => exact ⟨[], rfl, rfl⟩
  | cons v cs ih =>
    obtain ⟨bl, h1, h2⟩ := ih fun u hu => h u (List.mem_cons_of_mem _ hu)
    obtain ⟨n, rfl, hn⟩ := h v List.mem_cons_self
    have hb : 0 ≤ n ∧ n ≤ 255 := hn
    refine ⟨UInt8.ofNat n.toNat :: bl, by simp [h1], ?_⟩
    rw [h2, List.map_cons]
    congr 1
    unfold vB
    congr 1
    rw [UInt8.toNat_ofNat']
    omega
theorem open_agg8 {P : Program} {ts : List TypeId} {w : World} {r : Reach} {base : Nat} {t e : TypeId} {n m : Nat} {v : Value} (ht : P.underlying t = some (.array n e)) (he : ∀ u ∈ ts, P.underlying u = some (.int .u8)) (hc : P.cellTypes P.depth t = some ts) (hn : P.cellsOf t = m) (h : Value.okWide P w r base t v) : ∃ bl : List UInt8, bl.length = m ∧ v = .agg (bl.map vB).toArray := by
  simp only [Value.okWide, ht] at h
  obtain ⟨cs, rfl, h2, ts', h3, _, h4⟩ := h
  rw [hc] at h3
  injection h3 with h3
  subst h3
  obtain ⟨bl, h5, h6⟩ := cells_bytes (cs := cs.toList) fun v hv => by
    obtain ⟨i, hi⟩ := List.getElem?_of_mem hv
    obtain ⟨u, hu, hk⟩ := h4 i v (by simpa using hi)
    have := he u (List.mem_of_getElem? hu)
    unfold Cell.okWide at hk
    rw [this] at hk
    cases v <;> simp [Cell.ok, this] at hk
    obtain ⟨rfl, hk⟩ := hk
    exact ⟨_, rfl, hk⟩
  refine ⟨bl, by rw [h5, ← hn, ← h2]; simp, ?_⟩
  rw [← h6]
end Go.Fw
namespace Go.Fw
open Go Go.RowKit Go.ChangeShapes Go.WideShapes
theorem rd_ints {w : World} {a : Addr} {len cap : Nat} {zs : List Int} (hl : len ≤ cap) (hm : cap ≤ maxLen) (hz : zs.length = cap) (hc : ∀ i, i < zs.length → w.cell? (a.add i) = some (.int .u8 (zs.getD i 0))) (hwf : ∀ n ∈ zs, (Lit.int .u8 n).wf = true) : ∃ l : List UInt8, Rd w (.slice (some a) len cap) (l.map vB) := by
  obtain ⟨l, h1, h2⟩ := cells_bytes (cs := (zs.take len).map (Value.int .u8)) fun v hv => by
    obtain ⟨n, hn, rfl⟩ := List.mem_map.1 hv
    refine ⟨n, rfl, ?_⟩
    have := bounds_u8 (hwf n (List.mem_of_mem_take hn))
    exact this
  rw [List.length_map, List.length_take, hz, Nat.min_eq_left hl] at h1
  refine ⟨l, ?_⟩
  rw [← h2]
  refine ⟨some a, cap, by simp [hz, Nat.min_eq_left hl], by simp [hz]; omega, ?_, fun hp => ?_⟩
  · have : maxLen = 9223372036854775807 := rfl
    omega
  · have hp' : 0 < zs.length := by simp at hp; omega
    obtain ⟨b, off, rfl, hj⟩ := ints_at hc hp'
    refine ⟨b, off, rfl, fun i v hv => ?_⟩
    have hi : i < zs.length := by
      have := (List.getElem?_eq_some_iff.1 hv).1
      simp at this; omega
    rw [hj i hi, ← hv]
    have hi' : i < len := by
      have := (List.getElem?_eq_some_iff.1 hv).1
      simp at this; omega
    simp [hi', List.getD_eq_getElem?_getD, List.getElem?_eq_getElem hi]
theorem rd_trod {H : Type} {enc : TypeId × Value → H} {P : Program} {w : World} {base : Nat} {held : Bool} {t e : TypeId} {a : Option Addr} {len cap : Nat} {d : DataW H} {p : List MemPlace} (ht : P.underlying t = some (.slice e)) (he : P.underlying e = some (.int .u8)) (hc : P.cellsOf e = 1)
    (h : DataW.Trod enc P w base (fun _ => true) held t (.slice a len cap) d p) : ∃ l : List UInt8, Rd w (.slice a len cap) (l.map vB) := by
  obtain ⟨fuel, hf⟩ := h
  rcases open_ints ht he hc hf with ⟨hcs, _⟩ | ⟨x, l, c, zs, hcs, _, hl, hm, hz, _, hcell, hwz⟩
  · simp [Value.cells] at hcs
    obtain ⟨rfl, rfl, rfl⟩ := hcs
    exact ⟨[], Rd.nil w⟩
  · simp [Value.cells] at hcs
    obtain ⟨rfl, rfl, rfl⟩ := hcs
    exact rd_ints hl hm (by simpa using hz) hcell hwz
end Go.Fw
namespace Go.Fw
open Go Go.RowKit Go.ChangeShapes Go.WideShapes
theorem open_i64 {P : Program} {w : World} {r : Reach} {base : Nat} {t : TypeId} {v : Value} (ht : P.underlying t = some (.int .i64)) (h : Value.okWide P w r base t v) : ∃ p : Int, v = .int .i64 p ∧ -9223372036854775808 ≤ p ∧ p ≤ 9223372036854775807 := by
  simp only [Value.okWide, ht, Cell.okWide] at h
  cases v <;> simp [Cell.ok, ht] at h
  obtain ⟨rfl, h⟩ := h
  exact ⟨_, rfl, h⟩
end Go.Fw
