/- What is proved: append onto a slice that is none. -/
import Derived.Test.YtbggihomiadjjaaGreatDoorEvOps12
set_option linter.unusedVariables false
set_option linter.unusedSimpArgs false
namespace Go.Ev
open Go Go.Fw

section
variable {P : Program} {w : World} {s s' : S} {ρ : Rho}
theorem appN_run {e k z : Nat} {ti : TypeInfo} {zv : Value} {ty : TypeId} {T : Array TypeId} {A news : Array Value} {v : AV} {row : Row} (hS : Src P w T ty A e ti zv k news) (hzs : zv.cells.size = ti.size) (hsz : ti.size = z)
    (hA : A[0]? = some (.slice none 0 0)) (hnr : RV ρ v (.agg news)) (hl : Rel ρ s w) (hva : v.isAgg = true) (hvc : v.cnt = k * z) (hcat : rowOf P e true v = some row)
    (hroom : 0 < k) (h63 : k ≤ 9223372036854775807) (hfit : Builtin.nextslicecap k 0 * ti.bytes ≤ 281474976710656) :
    ∃ r' w' p, (Builtin.append_ T ty A).run P w = .ok r' w' ∧ RV (ρ.set s.nx p) (.sl s.nx 0 k (.u z)) r' ∧ Goes ρ s w (ρ.set s.nx p) ⟨s.h.set s.nx row, s.nx + 1⟩ w' := by
  subst hsz
  have hrun := hS.grow none 0 0 #[] hA rfl (by omega) (by omega) (by rw [Nat.zero_add]; exact hfit)
  rw [Nat.zero_add] at hrun
  have hge := grownCap_ge w k 0 e
  obtain ⟨C, hC⟩ : ∃ C, C = grownCap w k 0 e := ⟨_, rfl⟩
  rw [← hC] at hrun hge
  have sn : news.size = k * ti.size := by rw [hnr.aggcnt hva, hvc]
  have hsize : (#[] ++ news ++ Builtin.zeroCells zv.cells (C - k)).size = C * ti.size := by
    have e1 : (#[] ++ news ++ Builtin.zeroCells zv.cells (C - k)).size = k * ti.size + (C - k) * ti.size := by
      rw [Array.size_append, Array.size_append, size_zeroCells, hzs, sn]
      simp
    rw [e1, ← Nat.add_mul]
    congr 1
    omega
  have hh : (w.drew.alloc (.cells (#[] ++ news ++ Builtin.zeroCells zv.cells (C - k)) e)).heap = w.heap.push (.cells (#[] ++ news ++ Builtin.zeroCells zv.cells (C - k)) e) := rfl
  refine ⟨_, _, ⟨w.heap.size, 0, C * ti.size⟩, hrun, ⟨⟨w.heap.size, 0, C * ti.size⟩, _, C, if_pos rfl, rfl, hge, .inl ⟨rfl, by show 0 + 0 + C * ti.size = C * ti.size; omega⟩⟩,
    goes_new hl (by rw [hh, Array.size_push]; omega) rfl rfl rfl (fun j hj => by rw [hh, Array.getElem?_push, if_neg (Nat.ne_of_lt hj)])
      (rowOf_at hcat hnr (pad := (Builtin.zeroCells zv.cells (C - k)).toList) (by rw [hh, Array.getElem?_push, if_pos rfl]) (by simp [Value.cells]) hsize (frok0 _) (fun h => absurd h (by decide)))⟩
end
end Go.Ev
