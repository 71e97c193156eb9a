/- What is proved: the evaluator's slices are the model's. -/
import Derived.Test.YtbggihomiadjjaaGreatDoorEvOps3
set_option linter.unusedVariables false
set_option linter.unusedSimpArgs false
namespace Go.Ev
open Go Go.Fw

section
variable {P : Program} {o : Oper} {a : Act} {w : World} {f : F} {s s' : S} {ρ : Rho} {N : Nat} {r : AV}
def W0 : World := default
def ORV (ρ : Rho) : Option AV → Option Value → Prop
  | none, v => v = none
  | some x, v => ∃ u, v = some u ∧ RV ρ x u
theorem opdO_rv {x : Option Operand} {v : Option AV} (h : ∀ y, x = some y → ∀ v, opd f y = some v → RV ρ v (a.eval y)) (hx : opdO f x = some v) : ORV ρ v (x.map a.eval) := by
  cases x with
  | none =>
    injection hx with hx
    subst hx
    rfl
  | some y =>
    simp only [opdO, Option.map_eq_some_iff] at hx
    obtain ⟨u, hu, rfl⟩ := hx
    exact ⟨_, rfl, h y rfl u hu⟩
theorem slBd_none {y d n : Nat} (h : slBd none y d = some n) : n = d := by
  injection h with h
  exact h.symm
theorem slBd_some {x : AV} {u : Value} {y d n : Nat} (h : slBd (some x) y d = some n) (hr : RV ρ x u) : n ≤ y ∧ ∀ y', y ≤ y' → ∀ code, (Instr.sliceBound u y' code).run P w = .ok n w := by
  simp only [slBd, Option.bind_eq_some_iff] at h
  obtain ⟨q, hq, h⟩ := h
  rw [cble] at h
  split at h
  · rename_i hle
    injection h with h
    subst h
    obtain ⟨k, rfl⟩ := natI_some hq hr
    refine ⟨hle, fun y' hy code => ?_⟩
    have h1 : (0 : Int) ≤ (q : Int) ∧ (q : Int) ≤ (y' : Int) := ⟨by omega, by omega⟩
    simp [Instr.sliceBound, asIntOf, h1]
  · cases h
/-- The bounds of a slice; the room may be more than is known. -/
theorem bounds_run1 {lo hi mx : Option AV} {vlo vhi vmx : Option Value} {b : Bool} {len cap cap' m h l : Nat} (hm : slBd mx cap cap' = some m) (hh : slBd hi m len = some h ) (hlo : slBd lo h 0 = some l) (r1 : ORV ρ mx vmx) (r2 : ORV ρ hi vhi) (r3 : ORV ρ lo vlo)
    (hc : cap ≤ cap') (hno : and mx.isSome hi.isNone = false) (hlen : mx = none → len ≤ cap') : (Instr.sliceBounds b len cap' vlo vhi vmx).run P w = .ok (l, h, m) w ∧ l ≤ h ∧ h ≤ m ∧ m ≤ cap' := by
  have M : (vmx = none ∧ m = cap' ∧ mx = none) ∨ (∃ u, vmx = some u ∧ (mx.isSome = true) ∧ m ≤ cap ∧ ∀ code, (Instr.sliceBound u cap' code).run P w = .ok m w) := by
    cases mx with
    | none => exact .inl ⟨r1, slBd_none hm, rfl⟩
    | some x =>
      obtain ⟨u, hu, hr⟩ := r1
      obtain ⟨h1, h2⟩ := slBd_some (P := P) (w := w) hm hr
      exact .inr ⟨u, hu, rfl, h1, h2 cap' hc⟩
  have H : (vhi = none ∧ h = len ∧ hi = none) ∨ (∃ u, vhi = some u ∧ h ≤ m ∧ ∀ code, (Instr.sliceBound u m code).run P w = .ok h w) := by
    cases hi with
    | none => exact .inl ⟨r2, slBd_none hh, rfl⟩
    | some x =>
      obtain ⟨u, hu, hr⟩ := r2
      obtain ⟨h1, h2⟩ := slBd_some (P := P) (w := w) hh hr
      exact .inr ⟨u, hu, h1, h2 m (Nat.le_refl _)⟩
  have L : (vlo = none ∧ l = 0) ∨ (∃ u, vlo = some u ∧ l ≤ h ∧ ∀ code, (Instr.sliceBound u h code).run P w = .ok l w) := by
    cases lo with
    | none => exact .inl ⟨r3, slBd_none hlo⟩
    | some x =>
      obtain ⟨u, hu, hr⟩ := r3
      obtain ⟨h1, h2⟩ := slBd_some (P := P) (w := w) hlo hr
      exact .inr ⟨u, hu, h1, h2 h (Nat.le_refl _)⟩
  rcases M with ⟨rfl, rfl, rfl⟩ | ⟨um, rfl, hms, hmc, hmr⟩ <;> rcases H with ⟨rfl, rfl, rfl⟩ | ⟨uh, rfl, hhm, hhr⟩ <;> rcases L with ⟨rfl, rfl⟩ | ⟨ul, rfl, hlh, hlr⟩
  all_goals first
    | (have hlen' := hlen rfl; refine ⟨?_, by omega, by omega, by omega⟩; simp [Instr.sliceBounds, *]; done)
    | (refine ⟨?_, by omega, by omega, by omega⟩; simp [Instr.sliceBounds, *]; done)
    | (exfalso; rw [hms] at hno; cases hno)
theorem bounds_run {lo hi mx : Option AV} {vlo vhi vmx : Option Value} {b : Bool} {len cap cap' m h l : Nat} (hm : slBd mx cap cap' = some m) (hh : slBd hi m len = some h ) (hlo : slBd lo h 0 = some l) (r1 : ORV ρ mx vmx) (r2 : ORV ρ hi vhi) (r3 : ORV ρ lo vlo)
    (hc : cap ≤ cap') (hno : and mx.isSome hi.isNone = false) (hlen : mx = none → len ≤ cap') : (∀ w, (Instr.sliceBounds b len cap' vlo vhi vmx).run P w = .ok (l, h, m) w) ∧ l ≤ h ∧ h ≤ m ∧ m ≤ cap' :=
  ⟨fun w => (bounds_run1 (w := w) hm hh hlo r1 r2 r3 hc hno hlen).1, (bounds_run1 (P := P) (b := b) (w := W0) hm hh hlo r1 r2 r3 hc hno hlen).2⟩
theorem op_slice {t : Nat} {x : Operand} {lo hi mx : Option Operand} (ho : o.op = .slice t x lo hi mx) (h : oSlice P f s t x lo hi mx = some (r, s')) (hF : FO ρ f a o) : OpG P o a ρ s r s' := by
  simp only [oSlice, Option.bind_eq_some_iff] at h
  obtain ⟨v, hv, vl, hvl, vh, hvh, vm, hvm, h⟩ := h
  have hc := hF.opd (by rw [ho]; simp [Op.operands]) hv
  have rl := opdO_rv (fun y hy v hv => hF.opd (by rw [ho]; simp [Op.operands, hy]) hv) hvl
  have rh := opdO_rv (fun y hy v hv => hF.opd (by rw [ho]; simp [Op.operands, hy]) hv) hvh
  have rm := opdO_rv (fun y hy v hv => hF.opd (by rw [ho]; simp [Op.operands, hy]) hv) hvm
  have fin : ∀ {z}, (∀ w, (Instr.sliceAt t (a.eval x) (lo.map a.eval) (hi.map a.eval) (mx.map a.eval)).run P w = .ok z w) → RV ρ r z → s' = s → OpG P o a ρ s r s' := fun {z} g1 g2 g3 => by
    subst g3
    refine OpG.gv (fun w => ?_) g2
    unfold Gv execOp
    rw [ho]
    simp [g1]
  unfold sliceA at h
  split at h
  · rename_i n c ht
    cases vm with
    | some _ => cases h
    | none =>
      simp only [Option.bind_eq_some_iff, Option.some.injEq, Prod.mk.injEq] at h
      obtain ⟨hh, hhh, ll, hll, rfl, rfl⟩ := h
      obtain ⟨b, ev, hb, hcl⟩ := hc
      have hbs : b.size = n := by
        show b.data.size = n
        rw [← Array.length_toList, hb, byL_len]
      obtain ⟨g1, g2, g3, _⟩ := bounds_run (P := P) (b := false) (mx := none) (cap := n) (cap' := n) (len := n) (vmx := none) (m := n) rfl hhh hll rfl rh rl (Nat.le_refl _) rfl (fun _ => Nat.le_refl _)
      refine fin (z := .string (b.extract ll hh)) ?_ ⟨_, rfl, ?_, bSub_lt _ _ _⟩ rfl
      · rw [show mx.map a.eval = none from rm, ev]
        simp [Instr.sliceAt, Instr.slice, run_und (undT_eq ht), hbs, g1]
      · show (b.extract ll hh).data.toList = byL (hh - ll) (bSub c ll (hh - ll))
        rw [byL_sub (n := n) (show ll + (hh - ll) ≤ n by omega), ← hb]
        simp [ByteArray.data_extract, List.extract_eq_take_drop]
  · rename_i e ht
    simp only [Option.bind_eq_some_iff] at h
    obtain ⟨m, hm, hh, hhh, ll, hll, z, hz, h⟩ := h
    cases hno : and vm.isSome vh.isNone with
    | true => rw [hno] at h; cases h
    | false =>
      rw [hno] at h
      injection h with h
      injection h with h1 h2
      subst h1 h2
      obtain ⟨g1, g2, g3, g4⟩ := bounds_run (P := P) (b := true) (len := 0) hm hhh hll rm rh rl (Nat.le_refl _) hno (fun _ => Nat.le_refl _)
      have e0 : ll = 0 ∧ hh = 0 ∧ m = 0 := by omega
      obtain ⟨rfl, rfl, rfl⟩ := e0
      have ev : a.eval x = .slice none 0 0 := hc
      refine fin (z := .slice none 0 0) ?_ rfl rfl
      rw [ev]
      simp [Instr.sliceAt, Instr.slice, run_und (undT_eq ht), g1, Fw.run_sizeOf (sizeT_eq hz)]
  · rename_i e i k n c ht
    simp only [Option.bind_eq_some_iff] at h
    obtain ⟨m, hm, hh, hhh, ll, hll, z, hz, h⟩ := h
    cases hno : and vm.isSome vh.isNone with
    | true => rw [hno] at h; cases h
    | false =>
      rw [hno] at h
      injection h with h
      injection h with h1 h2
      subst h1 h2
      obtain ⟨p, hp, ev, hnc⟩ := hc
      obtain ⟨g1, g2, g3, g4⟩ := bounds_run (P := P) (b := true) (len := n) hm hhh hll rm rh rl (Nat.le_refl _) hno (fun _ => hnc)
      refine fin (z := .slice (some ⟨p.b, p.o + (if m = ll then k else k + ll * z), none⟩) (hh - ll) (m - ll)) ?_ ?_ rfl
      · rw [ev]
        by_cases e2 : m = ll
        · simp [Instr.sliceAt, Instr.slice, run_und (undT_eq ht), g1, Fw.run_sizeOf (sizeT_eq hz), e2]
        · simp [Instr.sliceAt, Instr.slice, run_und (undT_eq ht), g1, Fw.run_sizeOf (sizeT_eq hz), e2, add_lit, Nat.add_assoc]
      · rw [cbeq]
        exact ⟨p, hp, rfl, by show hh - ll ≤ m - ll; omega⟩
  · rename_i e i k n z ht
    simp only [Option.bind_eq_some_iff] at h
    obtain ⟨y, hz, h⟩ := h
    rw [cbeq] at h
    split at h
    · rename_i hyz
      subst hyz
      obtain ⟨p, A, c', hp, ev, hnc, hor⟩ := hc
      cases vm with
      | some um =>
        cases hno : and (Nat.blt 0 n) vh.isSome with
        | false => simp only [hno] at h; cases h
        | true =>
          simp only [hno, cond_true, Option.bind_eq_some_iff, Option.some.injEq, Prod.mk.injEq] at h
          obtain ⟨m, hm, hh, hhh, ll, hll, rfl, rfl⟩ := h
          simp only [Bool.and_eq_true, blt_dec, decide_eq_true_eq] at hno
          obtain ⟨h0, hs⟩ := hno
          have hno' : and (some um).isSome vh.isNone = false := by cases vh <;> first | rfl | cases hs
          obtain ⟨g1, g2, g3, g4⟩ := bounds_run (P := P) (b := true) (len := n) (cap := n) (cap' := c') (mx := some um) hm hhh hll rm rh rl hnc hno' (fun h => by cases h)
          have hA : A = ⟨p.b, p.o + k, none⟩ := by
            rcases hor with ⟨e, _⟩ | e
            · exact e
            · omega
          subst hA
          refine fin (z := .slice (some ⟨p.b, p.o + (if m = ll then k else k + ll * y), none⟩) (hh - ll) (m - ll)) ?_ ?_ rfl
          · rw [ev]
            by_cases e2 : m = ll
            · simp [Instr.sliceAt, Instr.slice, run_und (undT_eq ht), g1, Fw.run_sizeOf (sizeT_eq hz), e2]
            · simp [Instr.sliceAt, Instr.slice, run_und (undT_eq ht), g1, Fw.run_sizeOf (sizeT_eq hz), e2, add_lit, Nat.add_assoc]
          · rw [cbeq]
            exact ⟨p, hp, rfl, by show hh - ll ≤ m - ll; omega⟩
      | none =>
        simp only [Option.bind_eq_some_iff, Option.some.injEq, Prod.mk.injEq] at h
        obtain ⟨hh, hhh, ll, hll, rfl, rfl⟩ := h
        have hhh' : slBd vh c' n = some hh := by
          cases vh with
          | none => exact hhh
          | some uh =>
            simp only [slBd, Option.bind_eq_some_iff] at hhh ⊢
            obtain ⟨q, hq, hhh⟩ := hhh
            refine ⟨q, hq, ?_⟩
            rw [cble] at hhh ⊢
            split at hhh
            · rw [if_pos (by omega)]
              exact hhh
            · cases hhh
        have hn : hh ≤ n := by
          cases vh with
          | none => exact Nat.le_of_eq (slBd_none hhh)
          | some uh =>
            obtain ⟨u, _, hr⟩ := rh
            exact (slBd_some (P := P) (w := W0) hhh hr).1
        obtain ⟨g1, g2, g3, g4⟩ := bounds_run (P := P) (b := true) (len := n) (cap := c') (cap' := c') (mx := none) (m := c') rfl hhh' hll rm rh rl (Nat.le_refl _) rfl (fun _ => hnc)
        by_cases e2 : c' = ll
        · subst e2
          refine fin (z := .slice (some A) (hh - c') (c' - c')) ?_ ⟨p, A, c' - c', hp, rfl, (by show hh - c' ≤ c' - c'; omega), .inr (by omega)⟩ rfl
          rw [ev]
          simp [Instr.sliceAt, Instr.slice, run_und (undT_eq ht), g1, Fw.run_sizeOf (sizeT_eq hz)]
        · rcases hor with ⟨rfl, hsz⟩ | e
          · refine fin (z := .slice (some ⟨p.b, p.o + (k + ll * y), none⟩) (hh - ll) (c' - ll)) ?_ ⟨p, _, c' - ll, hp, rfl, (by show hh - ll ≤ c' - ll; omega), .inl ⟨rfl, ?_⟩⟩ rfl
            · rw [ev]
              simp [Instr.sliceAt, Instr.slice, run_und (undT_eq ht), g1, Fw.run_sizeOf (sizeT_eq hz), e2, add_lit, Nat.add_assoc]
            · show p.o + (k + ll * y) + (c' - ll) * y = p.sz
              rw [← hsz, Nat.sub_mul]
              have : ll * y ≤ c' * y := Nat.mul_le_mul_right _ (by omega)
              omega
          · omega
    · cases h
  · rename_i n e i k ht
    simp only [Option.bind_eq_some_iff] at h
    obtain ⟨m, hm, hh, hhh, ll, hll, z, hz, h⟩ := h
    cases hno : and vm.isSome vh.isNone with
    | true => rw [hno] at h; cases h
    | false =>
      rw [hno] at h
      injection h with h
      injection h with h1 h2
      subst h1 h2
      obtain ⟨p, hp, ev⟩ := hc
      obtain ⟨g1, g2, g3, g4⟩ := bounds_run (P := P) (b := false) (len := n) hm hhh hll rm rh rl (Nat.le_refl _) hno (fun _ => Nat.le_refl _)
      refine fin (z := .slice (some ⟨p.b, p.o + (if m = ll then k else k + ll * z), none⟩) (hh - ll) (m - ll)) ?_ ?_ rfl
      · rw [ev]
        by_cases e2 : m = ll
        · simp [Instr.sliceAt, Instr.sureAddr, run_und (undT_eq ht), g1, Fw.run_sizeOf (sizeT_eq hz), e2]
        · simp [Instr.sliceAt, Instr.sureAddr, run_und (undT_eq ht), g1, Fw.run_sizeOf (sizeT_eq hz), e2, add_lit, Nat.add_assoc]
      · rw [cbeq]
        exact ⟨p, hp, rfl, by show hh - ll ≤ m - ll; omega⟩
  · cases h
end
end Go.Ev
