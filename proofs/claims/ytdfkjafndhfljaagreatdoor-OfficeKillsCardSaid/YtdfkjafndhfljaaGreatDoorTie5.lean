/- What is proved: the places of the tables are all different. -/
import Derived.Test.YtdfkjafndhfljaaGreatDoorTie0
import Derived.LaidLaws
namespace Go.Proofs.YtdfkjafndhfljaaGreatDoor
open Go
def placeC (b o : Nat) : Nat := Nat.add (Nat.mul b 512) o
def nodupB : List MemPlace → Nat → Bool
  | [], _ => true
  | .cell b o :: l, m => bif and (Nat.blt o 512) (not (Nat.testBit m (placeC b o))) then nodupB l (Nat.lor m (Nat.shiftLeft 1 (placeC b o))) else false
  | .map _ :: _, _ => false
theorem testBit_lor (m k j : Nat) : Nat.testBit (Nat.lor m (Nat.shiftLeft 1 k)) j = (Nat.testBit m j || decide (k = j)) := by
  show (m ||| (1 <<< k)).testBit j = _
  rw [Nat.testBit_or, Nat.one_shiftLeft, Nat.testBit_two_pow]
theorem nodupB_spec : ∀ (l : List MemPlace) (m : Nat), nodupB l m = true → l.Nodup ∧ ∀ b o, MemPlace.cell b o ∈ l → o < 512 ∧ Nat.testBit m (placeC b o) = false
  | [], m, _ => ⟨List.nodup_nil, fun b o h => by cases h⟩
  | .map b :: l, m, h => by cases h
  | .cell b o :: l, m, h => by
    rw [nodupB] at h
    cases hc : and (Nat.blt o 512) (not (Nat.testBit m (placeC b o))) with
    | false => rw [hc] at h; cases h
    | true =>
      rw [hc, cond_true] at h
      rw [Bool.and_eq_true, Bool.not_eq_true'] at hc
      have ho : o < 512 := by
        have := hc.1
        exact Nat.le_of_ble_eq_true this
      obtain ⟨h1, h2⟩ := nodupB_spec l _ h
      have key : ∀ b' o', MemPlace.cell b' o' ∈ l → o' < 512 ∧ Nat.testBit m (placeC b' o') = false ∧ placeC b o ≠ placeC b' o' := fun b' o' hm => by
        obtain ⟨g1, g2⟩ := h2 b' o' hm
        rw [testBit_lor, Bool.or_eq_false_iff] at g2
        exact ⟨g1, g2.1, of_decide_eq_false g2.2⟩
      refine ⟨List.nodup_cons.2 ⟨fun hm => (key b o hm).2.2 rfl, h1⟩, fun b' o' hm => ?_⟩
      rcases List.mem_cons.1 hm with e | hm
      · injection e with e1 e2
        subst e1 e2
        exact ⟨ho, hc.2⟩
      · exact ⟨(key b' o' hm).1, (key b' o' hm).2.1⟩
theorem tie_2a : ∀ os tape, (DataW.laidRun Tryz.prog (varsWorld Tryz.prog 400 (varsId Tryz.prog) os tape).memory 8 (tieL.map (·.1))).map (fun x => nodupB x.2 0) = some true := fun _ _ => by kernel_rfl
end Go.Proofs.YtdfkjafndhfljaaGreatDoor
