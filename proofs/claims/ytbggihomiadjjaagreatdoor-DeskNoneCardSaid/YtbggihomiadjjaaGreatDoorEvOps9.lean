/- What is proved: what is appended or copied, copy. -/
import Derived.Test.YtbggihomiadjjaaGreatDoorEvOps8
import Derived.ArgAppend
set_option linter.unusedVariables false
set_option linter.unusedSimpArgs false
namespace Go.Ev
open Go Go.Fw

section
variable {P : Program} {o : Oper} {a : Act} {w : World} {f : F} {s s' : S} {ρ : Rho} {N : Nat} {r : AV}
theorem lenA_run {x : AV} {u : Value} {n : Nat} (h : lenA x = some n) (hv : RV ρ x u) : (Builtin.lenOf u).run P w = .ok n w := by
  cases x with
  | str m c =>
    injection h with h
    subst h
    obtain ⟨b, rfl, hb, _⟩ := hv
    have hbs : b.size = m := by
      show b.data.size = m
      rw [← Array.length_toList, hb, byL_len]
    simp [Builtin.lenOf, hbs]
  | slN =>
    injection h with h
    subst h
    rw [show u = _ from hv]
    rfl
  | sl i o m c =>
    injection h with h
    subst h
    obtain ⟨A', c', p, rfl, _⟩ := hv.sl_
    rfl
  | _ => cases h
theorem first0 {x : AV} {u : Value} {n z : Nat} (h : lenA x = some n) (hv : RV ρ x u) : (Builtin.firstCells z 0 u).run P w = .ok #[] w := by
  cases x with
  | str m c =>
    obtain ⟨b, rfl, hb, _⟩ := hv
    simp [Builtin.firstCells]
  | slN =>
    rw [show u = _ from hv]
    rfl
  | sl i o m c =>
    obtain ⟨A', c', p, rfl, _⟩ := hv.sl_
    exact run_firstCells_some (P := P) w z 0 A' m c' [] (by simp) (fun j u hj => by simp at hj)
  | _ => cases h
theorem srcA_run {x v : AV} {u : Value} {z k : Nat} (h : srcA s x z k = some v) (hv : RV ρ x u) (hl : Rel ρ s w) : ∃ cs : Array Value, (∀ w2 : World, w2.heap = w.heap → (Builtin.firstCells z k u).run P w2 = .ok cs w2) ∧ RV ρ v (.agg cs) := by
  unfold srcA at h
  split at h
  · rename_i n c
    rw [cble] at h
    split at h
    · rename_i hk
      injection h with h
      subst h
      obtain ⟨b, rfl, hb, hc⟩ := hv
      refine ⟨(b.extract 0 k).data.map fun b => .int .u8 b.toNat, fun _ _ => rfl, ?_, bSub_lt _ _ _⟩
      rw [byL_sub (n := n) (show 0 + k ≤ n by omega), List.drop_zero, ← hb]
      congr 1
      apply Array.ext'
      simp [ByteArray.data_extract, List.extract_eq_take_drop]
      rfl
    · cases h
  · rw [cbeq] at h
    split at h
    · injection h with h
      subst h
      rw [show u = _ from hv]
      exact ⟨#[], fun _ _ => rfl, #[], rfl, rfl, rfl⟩
    · cases h
  · rename_i i q n c
    rw [cble] at h
    split at h
    · rename_i hk
      simp only [Option.bind_eq_some_iff] at h
      obtain ⟨row, hrow, h⟩ := h
      have hnd : row ≠ .dead := by rintro rfl; cases h
      obtain ⟨A, c', p, rfl, hn, hp, hA⟩ := hv.sl_
      obtain ⟨p', hp', hra⟩ := hl.row i row hrow hnd
      rw [hp] at hp'
      injection hp' with hp'
      subst hp'
      obtain ⟨vs, hlen, hcs, hru⟩ := hra.cells_ h
      refine ⟨vs.toArray, fun w2 hw2 => ?_, hru⟩
      by_cases h0 : 0 < n
      · rw [hA h0]
        exact run_firstCells_some (P := P) w2 z k ⟨p.b, p.o + q, none⟩ n c' vs hlen (fun j u hj => by rw [Addr.add_lit]; have := hcs j u hj; unfold World.cell? at this ⊢; rw [hw2]; exact this)
      · have hk0 : k = 0 := by omega
        subst hk0
        have hv0 : vs = [] := List.length_eq_zero_iff.1 (by rw [hlen]; show 0 * z = 0; omega)
        subst hv0
        exact run_firstCells_some (P := P) w2 z 0 A n c' [] (by simp) (fun j u hj => by simp at hj)
    · cases h
  · cases h
theorem copyA_run {t : Nat} {x y : AV} {u v : Value} {T : Array TypeId} {A : Array Value} {ty : TypeId} (h : copyA P t x y s = some (r, s')) (hu : RV ρ x u) (hv : RV ρ y v) (hl : Rel ρ s w) (hT : T[0]? = some t) (hA : A[0]? = some u) (hA1 : A[1]? = some v) :
    ∃ z w', (Builtin.copy_ T ty A).run P w = .ok z w' ∧ RV ρ r z ∧ Goes ρ s w ρ s' w' := by
  unfold copyA at h
  split at h
  · rename_i e ht
    simp only [Option.bind_eq_some_iff] at h
    obtain ⟨z, hz, k, hk, h⟩ := h
    have hk' := lenA_run (P := P) (w := w) hk hv
    cases x with
    | slN =>
      injection h with h
      injection h with h1 h2
      subst h1 h2
      have eu : u = .slice none 0 0 := hu
      refine ⟨.int .i64 (0 : Nat), w, ?_, rfl, Goes.refl hl⟩
      simp [Builtin.copy_, hT, hA, hA1, run_und (undT_eq ht), eu, hk', Fw.run_sizeOf (sizeT_eq hz), first0 (P := P) (w := w) (z := z) hk hv, goInt]
    | sl i o n c =>
      have hm : (bif Nat.ble k n then k else n) = min k n := by
        rw [cble]
        split <;> omega
      simp only [hm, cbeq] at h
      obtain ⟨B, c', p, rfl, hn, hp, hB⟩ := hu.sl_
      split at h
      · rename_i h0
        injection h with h
        injection h with h1 h2
        subst h1 h2
        refine ⟨.int .i64 (0 : Nat), w, ?_, rfl, Goes.refl hl⟩
        simp [Builtin.copy_, hT, hA, hA1, run_und (undT_eq ht), hk', Fw.run_sizeOf (sizeT_eq hz), h0, first0 (P := P) (w := w) (z := z) hk hv, goInt, storeCells]
      · rename_i h0
        simp only [Option.bind_eq_some_iff, Option.some.injEq, Prod.mk.injEq] at h
        obtain ⟨q, hq, s2, hs2, rfl, rfl⟩ := h
        obtain ⟨cs, hcs, hr⟩ := srcA_run (P := P) hq hv hl
        replace hcs := hcs w rfl
        obtain ⟨g1, g2⟩ := storeA_goes (P := P) hs2 hr hl hp
        have hB' := hB (by omega)
        subst hB'
        have g1' : (storeCells ⟨p.b, p.o + o, none⟩ cs.toList).run P w = .ok () (w.setCells p.b (p.o + o) cs.toList) := g1
        refine ⟨.int .i64 (min k n : Nat), _, ?_, rfl, g2⟩
        simp [Builtin.copy_, hT, hA, hA1, run_und (undT_eq ht), hk', Fw.run_sizeOf (sizeT_eq hz), hcs, g1', goInt, Value.cells]
    | _ => cases h
  · cases h
end
end Go.Ev
