/- What is proved: append where there is room. -/
import Derived.Test.YtbggihomiadjjaaGreatDoorEvApp2
import Derived.Test.YtbggihomiadjjaaGreatDoorEvOps9
set_option linter.unusedVariables false
set_option linter.unusedSimpArgs false
namespace Go.Ev
open Go Go.Fw

section
variable {P : Program} {w : World} {s s' : S} {ρ : Rho}
/-- What an append does where there is room. -/
def RoomP (P : Program) (w : World) (T : Array TypeId) (ty : TypeId) (A : Array Value) (z k : Nat) (cs : Array Value) : Prop :=
  ∀ (b : Addr) (n c : Nat) (w' : World), A[0]? = some (.slice (some b) n c) → n + k ≤ c → (storeCells (b.add (n * z)) cs.toList).run P w = .ok () w' → (Builtin.append_ T ty A).run P w = .ok (.slice (some b) (n + k) c) w'
theorem appK_run {i q n c k z : Nat} {ty : TypeId} {T : Array TypeId} {A cs : Array Value} {v : AV} {su : Value} {s2 : S} (hS : RoomP P w T ty A z k cs)
    (hA : A[0]? = some su) (hr : RV ρ v (.agg cs)) (hs : RV ρ (.sl i q n (.k c)) su) (hl : Rel ρ s w) (hst : storeA s i (q + n * z) v = some s2) (hroom : n + k ≤ c) :
    ∃ r' w', (Builtin.append_ T ty A).run P w = .ok r' w' ∧ RV ρ (.sl i q (n + k) (.k c)) r' ∧ Goes ρ s w ρ s2 w' := by
  obtain ⟨p, hp, rfl, hn⟩ := hs
  obtain ⟨g1, g2⟩ := storeA_goes (P := P) hst hr hl hp
  refine ⟨_, _, hS _ n c (w.setCells p.b (p.o + (q + n * z)) cs.toList) hA hroom ?_, ⟨p, hp, rfl, hroom⟩, g2⟩
  rw [Addr.add_lit, Nat.add_assoc]
  exact g1
end
end Go.Ev
