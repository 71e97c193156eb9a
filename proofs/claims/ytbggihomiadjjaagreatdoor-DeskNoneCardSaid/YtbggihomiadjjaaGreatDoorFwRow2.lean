/- What is proved: how a slice of slices of bytes comes in. -/
import Derived.Test.YtbggihomiadjjaaGreatDoorFwRow
import Derived.Deep.Slices
import Derived.SizedLaws
set_option linter.unusedVariables false
set_option linter.unusedSimpArgs false
namespace Go.Fw
open Go Go.RowKit Go.ChangeShapes Go.WideShapes Go.Deep
theorem weights_all {H : Type} {P : Program} {e : TypeId} : ∀ {l : List (DataW H)} {d : DataW H}, d ∈ l → ∀ n ∈ d.weights P e, n ∈ DataW.weightsAll P e l
  | x :: l, d, hd, n, hn => by
    simp only [DataW.weightsAll, List.mem_append]
    rcases List.mem_cons.1 hd with rfl | hd
    · exact .inl hn
    · exact .inr (weights_all hd n hn)
theorem rd_ints_len {w : World} {a : Addr} {len cap : Nat} {zs : List Int} (hl : len ≤ cap) (hm : cap ≤ maxLen) (hz : zs.length = cap) (hc : ∀ i, i < zs.length → w.cell? (a.add i) = some (.int .u8 (zs.getD i 0))) (hwf : ∀ n ∈ zs, (Lit.int .u8 n).wf = true) : ∃ l : List UInt8, Rd w (.slice (some a) len cap) (l.map vB) ∧ l.length = len := by
  obtain ⟨l, hr⟩ := rd_ints hl hm hz hc hwf
  refine ⟨l, hr, ?_⟩
  obtain ⟨A, c, h1, _⟩ := hr.is
  injection h1 with _ h2 _
  simpa using h2.symm
theorem rd_parts {H : Type} {enc : TypeId × Value → H} {P : Program} {w : World} {base : Nat} {held : Bool} {t e b : TypeId} {a : Option Addr} {len cap : Nat} {d : DataW H} {p : List MemPlace} (ht : P.underlying t = some (.slice e)) (he : P.underlying e = some (.slice b)) (hb : P.underlying b = some (.int .u8)) (hce : P.cellsOf e = 1) (hcb : P.cellsOf b = 1) (hby : P.bytesOf b = 1)
    (h : DataW.Trod enc P w base (fun _ => true) held t (.slice a len cap) d p) (hs : ∀ n ∈ d.weights P t, n ≤ reachBytes) : ∃ (pvs : List Value) (pls : List (List UInt8)), Rd w (.slice a len cap) pvs ∧ (∀ i, i < pvs.length → Rd w (pvs.getD i undef) ((pls.getD i []).map vB)) ∧ ∀ i, (pls.getD i []).length ≤ 140737488355328 := by
  obtain ⟨fuel, hf⟩ := h
  rcases open_slice1 ht hce hf with ⟨hcs, _⟩ | ⟨x, l, c, m, n, V, D, Pl, hcs, _, hl, hm, hmm, hx, hel⟩
  · simp [Value.cells] at hcs
    obtain ⟨rfl, rfl, rfl⟩ := hcs
    exact ⟨[], [], Rd.nil w, fun i hi => absurd hi (by simp), fun i => by simp⟩
  · simp [Value.cells] at hcs
    obtain ⟨rfl, rfl, rfl⟩ := hcs
    simp only [Prod.mk.injEq] at hx
    obtain ⟨rfl, _⟩ := hx
    have hm' : m = cap := by simpa using hmm
    subst hm'
    obtain ⟨L, hL⟩ := choose_lt (α := List UInt8) (n := len) (p := fun i l => Rd w (V i) (l.map vB) ∧ l.length ≤ 140737488355328) (fun i hi => by
      obtain ⟨h1, h2⟩ := hel i (by omega)
      rcases open_ints he hb hcb h2 with ⟨hcs, _⟩ | ⟨y, l', c', zs, hcs, _, hl', hm', hz, hy, hcell, hwz⟩
      · injection hcs with hcs _
        rw [hcs]
        exact ⟨[], Rd.nil w, by simp⟩
      · injection hcs with hcs _
        rw [hcs]
        obtain ⟨l, hr, hlen⟩ := rd_ints_len hl' hm' (by simpa using hz) hcell hwz
        refine ⟨l, hr, ?_⟩
        simp only [Prod.mk.injEq] at hy
        have hw := hs ((lits IntKind.u8 (zs.take l') (H := H)).length + (lits IntKind.u8 (zs.drop l') (H := H)).length) (by
          simp only [DataW.weights, ht, List.mem_cons, List.mem_append]
          refine .inr (.inl (weights_all (d := D i) (List.mem_map.2 ⟨i, List.mem_range.2 hi, rfl⟩) _ ?_))
          rw [hy.1]
          simp only [DataW.weights, he, hby, Nat.mul_one, List.mem_cons, true_or])
        have hzl : zs.length = c' := by simpa using hz
        simp only [lits, List.length_map, List.length_take, List.length_drop, reachBytes] at hw
        rw [hlen]
        omega)
    refine ⟨(List.range len).map V, (List.range len).map L, ?_, fun i hi => ?_, fun i => ?_⟩
    · refine ⟨⟨some x, m, by simp, by simpa using hl, by have : maxLen = 9223372036854775807 := rfl; omega, fun hp => ?_⟩⟩
      have hp' : 0 < len := by simpa using hp
      have h0 := (hel 0 (by omega)).1
      obtain ⟨bb, off, spot⟩ := x
      have hspot : spot = none := by simpa [Addr.add] using World.cell?_spot h0
      subst hspot
      refine ⟨bb, off, rfl, fun i u hu => ?_⟩
      rw [List.getElem?_map] at hu
      obtain ⟨j, hj, rfl⟩ := Option.map_eq_some_iff.1 hu
      have hji := List.getElem?_eq_some_iff.1 hj
      have hlt : i < len := by simpa using hji.1
      have hje : j = i := by have := hji.2; simpa using this.symm
      subst hje
      have := (hel j (by omega)).1
      rwa [add_plain] at this
    · have hi' : i < len := by simpa using hi
      have e1 : ((List.range len).map V).getD i undef = V i := by simp [List.getD_eq_getElem?_getD, hi']
      have e2 : ((List.range len).map L).getD i [] = L i := by simp [List.getD_eq_getElem?_getD, hi']
      rw [e1, e2]
      exact (hL i hi').1
    · by_cases hi' : i < len
      · have e2 : ((List.range len).map L).getD i [] = L i := by simp [List.getD_eq_getElem?_getD, hi']
        rw [e2]
        exact (hL i hi').2
      · have e2 : ((List.range len).map L).getD i [] = [] := by simp [List.getD_eq_getElem?_getD, hi']
        rw [e2]; simp
end Go.Fw
