/- What is proved: what the evaluator says of an append is what the model does. -/
import Derived.Test.YtbggihomiadjjaaGreatDoorEvOps14
set_option linter.unusedVariables false
set_option linter.unusedSimpArgs false
namespace Go.Ev
open Go Go.Fw

section
variable {P : Program} {w : World} {s s' : S} {ρ : Rho} {r : AV}
theorem appC_some {e z n k : Nat} {v : AV} (h : appC P e z n k v = true) : (∃ ti zv, P.info? e = some ti ∧ ti.zero = some zv ∧ zv.cells.size = ti.size) ∧ v.cnt = k * z ∧ n + k ≤ 140737488355328 := by
  simp only [appC, Bool.and_eq_true] at h
  obtain ⟨h1, h2, h3⟩ := h
  obtain ⟨i, zv, g1, g2, g3, _⟩ := okZ_eq h1
  exact ⟨⟨i, zv, g1, g2, g3⟩, Nat.eq_of_beq_eq_true h2, Nat.le_of_ble_eq_true h3⟩
theorem app0_run {t t1 e n c z : Nat} {ty : TypeId} {d1 : TypeDesc} {T : Array TypeId} {A : Array Value} {B : Option Addr} {x : AV} {u : Value} (ht : P.underlying t = some (.slice e)) (hs : (P.info? e).map (·.size) = some z) (hT : T[0]? = some t) (hT1 : T[1]? = some t1) (ht1 : P.underlying t1 = some d1) (hd : isIntD d1 = false)
    (hA : A[0]? = some (.slice B n c)) (hA1 : A[1]? = some u) (hx : RV ρ x u) (hk : lenA x = some 0) (hn : n ≤ c) : (Builtin.append_ T ty A).run P w = .ok (.slice B n c) w :=
  run_app_zero ht hs hT hT1 ht1 hd hA hA1 (lenA_run hk hx) (first0 hk hx) hn
theorem appendV_run {e k z : Nat} {ti : TypeInfo} {ty : TypeId} {T : Array TypeId} {A cs : Array Value} {a v : AV} {ua : Value} (h : appendV P e z a k v s = some (r, s')) (hR : RoomP P w T ty A z k cs) (hG : ∀ zv, ti.zero = some zv → zv.cells.size = ti.size → Src P w T ty A e ti zv k cs) (hi : P.info? e = some ti) (hsz : ti.size = z)
    (hA : A[0]? = some ua) (ha : RV ρ a ua) (hx : RV ρ v (.agg cs)) (hva : v.isAgg = true) (hl : Rel ρ s w) (hk0 : k ≠ 0) (hfit : ∀ m, lenA a = some m → fits P e (m + k) = true) :
    ∃ v' ρ' w', (Builtin.append_ T ty A).run P w = .ok v' w' ∧ RV ρ' r v' ∧ Goes ρ s w ρ' s' w' := by
  have fit : ∀ {m c : Nat}, lenA a = some m → c < m + k → Builtin.nextslicecap (m + k) c * ti.bytes ≤ 281474976710656 := fun {m c} hm hc => by
    obtain ⟨i, hi', hb⟩ := fits_eq (hfit m hm)
    rw [hi] at hi'
    injection hi' with hi'
    subst hi'
    exact growslice_fits hc (by rw [Nat.mul_comm]; exact hb)
  cases a with
  | slN =>
    simp only [appendV] at h
    cases hc : appC P e z 0 k v with
    | false => rw [hc] at h; cases h
    | true =>
      rw [hc] at h
      simp only [cond_true] at h
      obtain ⟨⟨ti', zv, hi', hz, hzs⟩, hcn, hb⟩ := appC_some hc
      rw [hi] at hi'
      injection hi' with hi'
      subst hi'
      have hS := hG zv hz hzs
      obtain ⟨row, hrow, rfl, rfl⟩ := ret2_some h
      have hf := fit (m := 0) (c := 0) rfl (by omega)
      rw [Nat.zero_add] at hf
      obtain ⟨r', w', p, g1, g2, g3⟩ := appN_run hS hzs hsz (by rw [hA, show ua = _ from ha]) hx hl hva hcn hrow (by omega) (by omega) hf
      exact ⟨r', _, w', g1, g2, g3⟩
  | sl i q n cap =>
    cases cap with
    | k c =>
      simp only [appendV] at h
      rw [cble] at h
      split at h
      · rename_i hroom
        simp only [Option.bind_eq_some_iff, Option.some.injEq, Prod.mk.injEq] at h
        obtain ⟨s2, hst, rfl, rfl⟩ := h
        obtain ⟨r', w', g1, g2, g3⟩ := appK_run hR hA hx ha hl hst hroom
        exact ⟨r', ρ, w', g1, g2, g3⟩
      · rename_i hroom
        cases hc : appC P e z n k v with
        | false => rw [hc] at h; cases h
        | true =>
          rw [hc] at h
          simp only [cond_true, Option.bind_eq_some_iff] at h
          obtain ⟨⟨ti', zv, hi', hz, hzs⟩, hcn, hb⟩ := appC_some hc
          rw [hi] at hi'
          injection hi' with hi'
          subst hi'
          have hS := hG zv hz hzs
          obtain ⟨row0, hr0, h⟩ := h
          obtain ⟨row, hrow, rfl, rfl⟩ := ret2_some h
          obtain ⟨y, hy⟩ := catRow_len hrow
          obtain ⟨hya, hyc⟩ := readRow_agg hy
          obtain ⟨p, hp, hua, hnc⟩ := ha
          subst hua
          have hroom' : c < n + k := by
            have : ¬ n + k ≤ c := hroom
            omega
          obtain ⟨r', w', p', g1, g2, g3⟩ := appG_run hl hS hzs hsz hA hx (show RV ρ (.sl i q n (.k c)) _ from ⟨p, hp, rfl, hnc⟩) hl hr0 hy hya hva hyc hcn hrow hroom' (by omega) (fit rfl hroom')
          exact ⟨r', _, w', g1, g2, g3⟩
    | u y0 =>
      simp only [appendV] at h
      cases hc : appC P e z n k v with
      | false => rw [hc] at h; cases h
      | true =>
        rw [hc] at h
        simp only [cond_true, Option.bind_eq_some_iff] at h
        obtain ⟨⟨ti', zv, hi', hz, hzs⟩, hcn, hb⟩ := appC_some hc
        rw [hi] at hi'
        injection hi' with hi'
        subst hi'
        have hS := hG zv hz hzs
        obtain ⟨row0, hr0, h⟩ := h
        cases hcc : and (not (Nat.blt i 1000)) (and (rowEnd row0 (Nat.add q (Nat.mul n z))) (Nat.beq y0 z)) with
        | false => rw [hcc] at h; cases h
        | true =>
          rw [hcc] at h
          simp only [cond_true] at h
          rw [Bool.and_eq_true, Bool.and_eq_true] at hcc
          have h1000 : 1000 ≤ i := by
            have := hcc.1
            rw [blt_dec, Bool.not_eq_true', decide_eq_false_iff_not] at this
            omega
          have hyz : y0 = z := Nat.eq_of_beq_eq_true hcc.2.2
          subst hyz
          obtain ⟨row, hrow, rfl, rfl⟩ := ret2_some h
          obtain ⟨y, hy⟩ := catRow_len hrow
          obtain ⟨hya, hyc⟩ := readRow_agg hy
          have ha0 := ha
          obtain ⟨p, ad, c, hp, hua, hnc, had⟩ := ha
          subst hua
          have hnd : row0 ≠ .dead := by rintro rfl; cases hy
          by_cases hroom : n + k ≤ c
          · rcases had with ⟨had, hsz'⟩ | had
            · subst had
              obtain ⟨r', w', p', g1, g2, g3⟩ := appU_run hS hsz hA hx hp h1000 hl hr0 hva hcn hrow hsz' hroom
              exact ⟨r', _, w', g1, g2, g3⟩
            · omega
          · have kill : Goes ρ s w ρ ⟨s.h.set i .dead, s.nx⟩ w := goes_put hl h1000 hr0 hnd hp rfl rfl rfl rfl (fun _ _ => rfl) (fun h => absurd rfl h)
            have hroom' : c < n + k := by omega
            obtain ⟨r', w', p', g1, g2, g3⟩ := appG_run kill.rel hS hzs hsz hA hx ha0 hl hr0 hy hya hva hyc hcn hrow hroom' (by omega) (fit rfl hroom')
            exact ⟨r', _, w', g1, g2, kill.trans g3⟩
  | _ => cases h
theorem appendA_run {t t1 : Nat} {ty : TypeId} {d1 : TypeDesc} {T : Array TypeId} {A : Array Value} {a x : AV} {ua u : Value} (h : appendA P t a x s = some (r, s')) (hT : T[0]? = some t) (hT1 : T[1]? = some t1) (ht1 : P.underlying t1 = some d1) (hd : isIntD d1 = false)
    (hA : A[0]? = some ua) (hA1 : A[1]? = some u) (ha : RV ρ a ua) (hx : RV ρ x u) (hl : Rel ρ s w) :
    ∃ v' ρ' w', (Builtin.append_ T ty A).run P w = .ok v' w' ∧ RV ρ' r v' ∧ Goes ρ s w ρ' s' w' := by
  unfold appendA at h
  split at h
  · rename_i e ht
    simp only [Option.bind_eq_some_iff] at h
    obtain ⟨z, hz, k, hk, h⟩ := h
    have ht' := undT_eq ht
    have hz' := sizeT_eq hz
    rw [cbeq] at h
    split at h
    · rename_i hk0
      subst hk0
      simp only [Option.bind_eq_some_iff, Option.some.injEq, Prod.mk.injEq] at h
      obtain ⟨a', ha', rfl, rfl⟩ := h
      have hok : a' = a ∧ ∃ B n c, ua = .slice B n c ∧ n ≤ c := by
        cases a with
        | slN =>
          injection ha' with ha'
          exact ⟨ha'.symm, none, 0, 0, ha, Nat.le_refl _⟩
        | sl i o n cp =>
          injection ha' with ha'
          refine ⟨ha'.symm, ?_⟩
          obtain ⟨B, c, p, e1, e2, _⟩ := ha.sl_
          exact ⟨B, n, c, e1, e2⟩
        | _ => cases ha'
      obtain ⟨rfl, hok⟩ := hok
      obtain ⟨B, n, c, rfl, hn⟩ := hok
      exact ⟨_, ρ, w, app0_run (ty := ty) ht' hz' hT hT1 ht1 hd hA hA1 hx hk hn, ha, Goes.refl hl⟩
    · rename_i hk0
      simp only [Option.bind_eq_some_iff] at h
      obtain ⟨m, hm, h⟩ := h
      cases hf : fits P e (Nat.add m k) with
      | false => rw [hf] at h; cases h
      | true =>
        rw [hf] at h
        simp only [cond_true, Option.bind_eq_some_iff] at h
        obtain ⟨v, hv, h⟩ := h
        obtain ⟨ti, hi, hsz⟩ : ∃ ti, P.info? e = some ti ∧ ti.size = z := by
          cases hi : P.info? e with
          | none => rw [hi] at hz'; cases hz'
          | some ti => rw [hi] at hz'; injection hz' with hz'; exact ⟨ti, rfl, hz'⟩
        obtain ⟨cs, hcs, hrv⟩ := srcA_run (P := P) hv hx hl
        have hR : RoomP P w T ty A z k cs := fun b n c w' g1 g2 g3 => run_app_room ht' hz' hT hT1 ht1 hd g1 hA1 (lenA_run hk hx) (hcs w rfl) g2 g3
        have hG : ∀ zv, ti.zero = some zv → zv.cells.size = ti.size → Src P w T ty A e ti zv k cs := fun zv hz hzs => ⟨fun b n c w' g1 g2 g3 => hR b n c w' g1 g2 (by rw [← hsz]; exact g3),
          fun b n c olds g1 g2 g3 g4 g5 => run_app_grow ht' hi hz hT hT1 ht1 hd g1 hA1 (lenA_run hk hx) g2 (by rw [hsz]; exact hcs w.drew rfl) g3 g4 g5⟩
        exact appendV_run h hR hG hi hsz hA ha hrv (srcA_agg hv) hl hk0 fun m' hm' => by
          rw [hm] at hm'
          injection hm' with hm'
          rw [← hm']
          exact hf
  · cases h
theorem zerosT_agg {e k : Nat} {v : AV} (h : zerosT P e k = some v) : v.isAgg = true := by
  simp only [zerosT, Option.bind_eq_some_iff] at h
  obtain ⟨z, _, h⟩ := h
  split at h
  · rw [cbeq] at h
    split at h
    · injection h with h; rw [← h]; rfl
    · cases h
  · cases hz : iEq _ 0 with
    | false => rw [hz] at h; cases h
    | true => rw [hz] at h; injection h with h; rw [← h]; rfl
  · simp only [Option.bind_eq_some_iff, Option.some.injEq] at h
    obtain ⟨c, _, rfl⟩ := h
    rfl
theorem appendZ_run {t t1 : Nat} {ty : TypeId} {kk : IntKind} {T : Array TypeId} {A : Array Value} {a x : AV} {ua u : Value} (h : appendZ P t a x s = some (r, s')) (hT : T[0]? = some t) (hT1 : T[1]? = some t1) (ht1 : P.underlying t1 = some (.int kk))
    (hA : A[0]? = some ua) (hA1 : A[1]? = some u) (ha : RV ρ a ua) (hx : RV ρ x u) (hl : Rel ρ s w) :
    ∃ v' ρ' w', (Builtin.append_ T ty A).run P w = .ok v' w' ∧ RV ρ' r v' ∧ Goes ρ s w ρ' s' w' := by
  unfold appendZ at h
  split at h
  · rename_i e ht
    simp only [Option.bind_eq_some_iff] at h
    obtain ⟨z, hz, k, hk, h⟩ := h
    have ht' := undT_eq ht
    have hz' := sizeT_eq hz
    rw [cbeq] at h
    split at h
    · rename_i hk0
      subst hk0
      simp only [Option.bind_eq_some_iff, Option.some.injEq, Prod.mk.injEq] at h
      obtain ⟨a', ha', rfl, rfl⟩ := h
      have hok : a' = a ∧ ∃ B n c, ua = .slice B n c ∧ n ≤ c := by
        cases a with
        | slN =>
          injection ha' with ha'
          exact ⟨ha'.symm, none, 0, 0, ha, Nat.le_refl _⟩
        | sl i o n cp =>
          injection ha' with ha'
          refine ⟨ha'.symm, ?_⟩
          obtain ⟨B, c, p, e1, e2, _⟩ := ha.sl_
          exact ⟨B, n, c, e1, e2⟩
        | _ => cases ha'
      obtain ⟨rfl, B, n, c, rfl, hn⟩ := hok
      obtain ⟨k2, hu⟩ := natI_some hk hx
      subst hu
      obtain ⟨ti, hi⟩ : ∃ ti, P.info? e = some ti := by
        cases hi : P.info? e with
        | none => rw [hi] at hz'; cases hz'
        | some ti => exact ⟨ti, rfl⟩
      exact ⟨_, ρ, w, run_appz_zero (z := 0) ht' hi hT hT1 ht1 hA hA1 hn, ha, Goes.refl hl⟩
    · rename_i hk0
      simp only [Option.bind_eq_some_iff] at h
      obtain ⟨m, hm, h⟩ := h
      cases hf : and (fits P e (Nat.add m k)) (Nat.ble k 140737488355328) with
      | false => rw [hf] at h; cases h
      | true =>
        rw [hf] at h
        simp only [cond_true, Option.bind_eq_some_iff] at h
        rw [Bool.and_eq_true] at hf
        obtain ⟨v, hv, h⟩ := h
        rw [cbeq] at h
        split at h
        case isFalse => cases h
        rename_i hcc
        obtain ⟨zv, hzv, hrv⟩ := zerosT_rv (ρ := ρ) hv
        obtain ⟨k2, hu⟩ := natI_some hk hx
        subst hu
        obtain ⟨ti, hi, hsz⟩ : ∃ ti, P.info? e = some ti ∧ ti.size = z := by
          cases hi : P.info? e with
          | none => rw [hi] at hz'; cases hz'
          | some ti => rw [hi] at hz'; injection hz' with hz'; exact ⟨ti, rfl, hz'⟩
        have hzero : ti.zero = some zv := by rw [hi] at hzv; injection hzv
        have hva := zerosT_agg hv
        have hbk : ti.bytes * k ≤ 140737488355328 := by
          obtain ⟨i', hi', hb⟩ := fits_eq hf.1
          rw [hi] at hi'
          injection hi' with hi'
          subst hi'
          have : ti.bytes * k ≤ ti.bytes * (m + k) := Nat.mul_le_mul_left _ (Nat.le_add_left _ _)
          exact Nat.le_trans this hb
        have hk2 : k ≤ 140737488355328 := Nat.le_of_ble_eq_true hf.2
        have hzs : zv.cells.size = ti.size := by
          have h1 := hrv.aggcnt hva
          rw [hcc] at h1
          rw [List.size_toArray, reps_len, Array.length_toList] at h1
          rw [hsz]
          exact Nat.eq_of_mul_eq_mul_left (Nat.pos_of_ne_zero hk0) h1
        have hce : (reps k zv.cells.toList).toArray = Builtin.zeroCells zv.cells k := by
          have := madeCells_reps zv.cells k
          apply Array.ext'
          rw [← this]
          rfl
        rw [hce] at hrv
        have hR : RoomP P w T ty A z k (Builtin.zeroCells zv.cells k) := fun b n c w' g1 g2 g3 => run_appz_room ht' hi hzero hzs hT hT1 ht1 g1 hA1 hk2 hbk g2 (by rw [hsz]; exact g3)
        have hG : ∀ zv', ti.zero = some zv' → zv'.cells.size = ti.size → Src P w T ty A e ti zv' k (Builtin.zeroCells zv.cells k) := fun zv' hz' _ => by
          rw [hzero] at hz'
          injection hz' with hz'
          subst hz'
          exact ⟨fun b n c w' g1 g2 g3 => hR b n c w' g1 g2 (by rw [← hsz]; exact g3), fun b n c olds g1 g2 g3 g4 g5 => run_appz_grow ht' hi hzero hzs hT hT1 ht1 g1 hA1 hk2 hbk g2 g3 g4 g5⟩
        exact appendV_run h hR hG hi hsz hA ha hrv hva hl hk0 fun m' hm' => by
          rw [hm] at hm'
          injection hm' with hm'
          rw [← hm']
          exact hf.1
  · cases h
end
end Go.Ev
