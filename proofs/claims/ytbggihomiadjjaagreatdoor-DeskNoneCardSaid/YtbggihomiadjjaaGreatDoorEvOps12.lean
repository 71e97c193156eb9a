/- What is proved: append that grows. -/
import Derived.Test.YtbggihomiadjjaaGreatDoorEvOps11
set_option linter.unusedVariables false
set_option linter.unusedSimpArgs false
namespace Go.Ev
open Go Go.Fw

section
variable {P : Program} {w : World} {s s' : S} {ρ : Rho}
def AV.isAgg : AV → Bool
  | .agg _ => true
  | .bag _ _ => true
  | _ => false
theorem RV.aggcnt {y : AV} {cs : Array Value} (h : RV ρ y (.agg cs)) (hy : y.isAgg = true) : cs.size = y.cnt := by
  cases y with
  | agg l =>
    obtain ⟨a, e, r, _⟩ := h
    injection e with e
    subst e
    show _ = lenL l
    rw [lenL_eq, r.len, Array.length_toList]
  | bag n c =>
    obtain ⟨e, _⟩ := h
    injection e with e
    subst e
    simp [AV.cnt, byL_len]
  | _ => cases hy
theorem appG_run {s2 : S} (hl2 : Rel ρ s2 w) {e n c k z i q : Nat} {cap : Cap} {ti : TypeInfo} {zv : Value} {ty : TypeId} {T : Array TypeId} {A news : Array Value} {v y : AV} {B : Option Addr} {r row : Row} (hS : Src P w T ty A e ti zv k news) (hzs : zv.cells.size = ti.size) (hsz : ti.size = z)
    (hA : A[0]? = some (.slice B n c)) (hnr : RV ρ v (.agg news)) (hs : RV ρ (.sl i q n cap) (.slice B n c)) (hl : Rel ρ s w)
    (hr : s.h.get i = some r) (hy : readRow r q (n * z) = some y) (hya : y.isAgg = true) (hva : v.isAgg = true) (hyc : y.cnt = n * z) (hvc : v.cnt = k * z) (hcat : catRow e r q (n * z) v = some row)
    (hroom : c < n + k) (h63 : n + k ≤ 9223372036854775807) (hfit : Builtin.nextslicecap (n + k) c * ti.bytes ≤ 281474976710656) :
    ∃ r' w' p, (Builtin.append_ T ty A).run P w = .ok r' w' ∧ RV (ρ.set s2.nx p) (.sl s2.nx 0 (n + k) (.u z)) r' ∧ Goes ρ s2 w (ρ.set s2.nx p) ⟨s2.h.set s2.nx row, s2.nx + 1⟩ w' := by
  have hsrc0 : srcA s (.sl i q n cap) z n = some y := by
    show (bif Nat.ble n n then (s.h.get i).bind fun r => readRow r q (Nat.mul n z) else none) = some y
    rw [cble, if_pos (Nat.le_refl _), hr]
    exact hy
  obtain ⟨olds, ho, hor⟩ := srcA_run (P := P) hsrc0 hs hl
  subst hsz
  have hrun := hS.grow B n c olds hA (ho w.drew rfl) hroom h63 hfit
  have hge := grownCap_ge w (n + k) c e
  obtain ⟨C, hC⟩ : ∃ C, C = grownCap w (n + k) c e := ⟨_, rfl⟩
  rw [← hC] at hrun hge
  have so : olds.size = n * ti.size := by rw [hor.aggcnt hya, hyc]
  have sn : news.size = k * ti.size := by rw [hnr.aggcnt hva, hvc]
  have hsize : (olds ++ news ++ Builtin.zeroCells zv.cells (C - (n + k))).size = C * ti.size := by
    rw [Array.size_append, Array.size_append, size_zeroCells, hzs, so, sn, ← Nat.add_mul, ← Nat.add_mul]
    congr 1
    omega
  have hh : (w.drew.alloc (.cells (olds ++ news ++ Builtin.zeroCells zv.cells (C - (n + k))) e)).heap = w.heap.push (.cells (olds ++ news ++ Builtin.zeroCells zv.cells (C - (n + k))) e) := rfl
  refine ⟨_, _, ⟨w.heap.size, 0, C * ti.size⟩, hrun, ⟨⟨w.heap.size, 0, C * ti.size⟩, _, C, if_pos rfl, rfl, hge, .inl ⟨rfl, by show 0 + 0 + C * ti.size = C * ti.size; omega⟩⟩,
    goes_new hl2 (by rw [hh, Array.size_push]; omega) rfl rfl rfl (fun j hj => by rw [hh, Array.getElem?_push, if_neg (Nat.ne_of_lt hj)])
      (catRow_at hcat hy hor hnr (pad := (Builtin.zeroCells zv.cells (C - (n + k))).toList) (by rw [hh, Array.getElem?_push, if_pos rfl]) (by simp) hsize (frok0 _))⟩
end
end Go.Ev
