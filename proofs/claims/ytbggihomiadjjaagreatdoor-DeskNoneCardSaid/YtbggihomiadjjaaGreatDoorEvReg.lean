/- What is proved: what the evaluator's look at a region's text tells: who waits for whom, and that each looks at what it waits for. -/
import Derived.Test.YtbggihomiadjjaaGreatDoorEvAny
set_option linter.unusedVariables false
set_option linter.unusedSimpArgs false
namespace Go.Ev
open Go Go.Fw

section
theorem bit_eq (m j : Nat) : bit m j = m.testBit j := by
  unfold bit
  rw [beq_dec, Nat.testBit_eq_decide_div_mod_eq]
  congr 1
  show (m >>> j % 2 = 1) = _
  rw [Nat.shiftRight_eq_div_pow]
theorem bit_or (a b j : Nat) : bit (Nat.lor a b) j = (bit a j || bit b j) := by
  rw [bit_eq, bit_eq, bit_eq]
  exact Nat.testBit_or a b j
theorem bit_one (k j : Nat) : bit (Nat.shiftLeft 1 k) j = decide (k = j) := by
  rw [bit_eq]
  show (1 <<< k).testBit j = _
  rw [Nat.one_shiftLeft, Nat.testBit_two_pow]
theorem bit_zero (j : Nat) : bit 0 j = false := by rw [bit_eq]; exact Nat.zero_testBit j
theorem bindsA_eq (e : Edge) : bindsA e = Region.binds .any e := by
  unfold bindsA Region.binds
  cases e.ground <;> rfl
variable {ops : Array Oper} {Nt : Nat}
theorem waits_iff {i j : Nat} {o : Oper} (ho : ops[i]? = some o) : waits ops i j = true ↔ ∃ e ∈ o.after.toList, bindsA e = true ∧ e.on = j := by
  constructor
  · intro h
    obtain ⟨e, he, hb, hj⟩ := waits_spec ho h
    exact ⟨e, by simpa using he, by rw [bindsA_eq]; exact hb, hj⟩
  · rintro ⟨e, he, hb, rfl⟩
    unfold waits
    rw [ho]
    simp only
    rw [Array.any_eq_true']
    exact ⟨e, by simpa using he, by rw [← bindsA_eq, hb]; simp⟩
theorem edgeD_iff (j : Nat) : ∀ l : List Edge, bit (edgeD l) j = true ↔ ∃ e ∈ l, bindsA e = true ∧ e.on = j
  | [] => by simp [edgeD, bit_zero]
  | e :: l => by
    rw [edgeD]
    cases hb : bindsA e with
    | false =>
      rw [cond_false, edgeD_iff j l]
      simp [hb]
    | true =>
      rw [cond_true, bit_or, bit_one, Bool.or_eq_true, edgeD_iff j l]
      simp [hb]
theorem edgeM_iff (ws : List Nat) (j : Nat) : ∀ l : List Edge, bit (edgeM ws l) j = true ↔ ∃ e ∈ l, bindsA e = true ∧ (e.on = j ∨ ∃ m, ws[e.on]? = some m ∧ bit m j = true)
  | [] => by simp [edgeM, bit_zero]
  | e :: l => by
    have hx : bit ((nth ws e.on).getD 0) j = true ↔ ∃ m, ws[e.on]? = some m ∧ bit m j = true := by
      rw [nth_eq]
      cases ws[e.on]? with
      | none => simp [bit_zero]
      | some m => simp
    rw [edgeM]
    cases hb : bindsA e with
    | false =>
      rw [cond_false, edgeM_iff ws j l]
      simp [hb]
    | true =>
      rw [cond_true, bit_or, bit_or, bit_one, Bool.or_eq_true, Bool.or_eq_true, hx, edgeM_iff ws j l]
      simp [hb]
theorem Wp.inv {i j : Nat} (h : Wp ops i j) : waits ops i j = true ∨ ∃ k, waits ops i k = true ∧ Wp ops k j := by
  cases h with
  | one h => exact .inl h
  | step h g => exact .inr ⟨_, h, g⟩
theorem masksG_spec (hback : ∀ (i : Nat) (o : Oper), ops[i]? = some o → ∀ e ∈ o.after, Region.binds .any e = true → e.on < i) : ∀ (l : List Oper) (ws : List Nat), (∀ k, l[k]? = ops[ws.length + k]?) → (∀ i m, ws[i]? = some m → ∀ j, bit m j = true ↔ Wp ops i j) →
    ∀ i m, (masksG l ws)[i]? = some m → ∀ j, bit m j = true ↔ Wp ops i j
  | [], ws, _, h, i, m, hm => h i m hm
  | o :: l, ws, hl, h, i, m, hm => by
    have ho : ops[ws.length]? = some o := by
      have := hl 0
      rw [Nat.add_zero] at this
      rw [← this]
      rfl
    refine masksG_spec hback l (ws ++ [edgeM ws o.after.toList]) (fun k => ?_) (fun i' m' hm' j => ?_) i m hm
    · have := hl (k + 1)
      rw [List.getElem?_cons_succ] at this
      rw [this, List.length_append, List.length_singleton]
      congr 1
      omega
    · by_cases hi : i' < ws.length
      · rw [List.getElem?_append_left hi] at hm'
        exact h i' m' hm' j
      · rw [List.getElem?_append_right (by omega)] at hm'
        have hi0 : i' - ws.length = 0 := by
          have := (List.getElem?_eq_some_iff.1 hm').1
          simp at this
          omega
        rw [hi0] at hm'
        simp only [List.getElem?_cons_zero, Option.some.injEq] at hm'
        have hie : i' = ws.length := by omega
        subst hie
        rw [← hm', edgeM_iff]
        constructor
        · rintro ⟨e, he, hb, rfl | ⟨m2, hm2, hb2⟩⟩
          · exact .one ((waits_iff ho).2 ⟨e, he, hb, rfl⟩)
          · exact .step ((waits_iff ho).2 ⟨e, he, hb, rfl⟩) ((h e.on m2 hm2 j).1 hb2)
        · intro hw
          rcases hw.inv with hw | ⟨k, hw, hk⟩
          · obtain ⟨e, he, hb, rfl⟩ := (waits_iff ho).1 hw
            exact ⟨e, he, hb, .inl rfl⟩
          · obtain ⟨e, he, hb, rfl⟩ := (waits_iff ho).1 hw
            have hlt := hback _ o ho e (by simpa using he) (by rw [← bindsA_eq]; exact hb)
            exact ⟨e, he, hb, .inr ⟨_, List.getElem?_eq_getElem hlt, (h e.on _ (List.getElem?_eq_getElem hlt) j).2 hk⟩⟩
theorem masks_spec (hback : ∀ (i : Nat) (o : Oper), ops[i]? = some o → ∀ e ∈ o.after, Region.binds .any e = true → e.on < i) {i m : Nat} (hm : (masks ops.toList)[i]? = some m) (j : Nat) : bit m j = true ↔ Wp ops i j :=
  masksG_spec hback ops.toList [] (fun k => by simp) (fun i m h => by simp at h) i m hm j
theorem masksG_len : ∀ (l : List Oper) (ws : List Nat), (masksG l ws).length = ws.length + l.length
  | [], ws => rfl
  | o :: l, ws => by
    rw [masksG, masksG_len l, List.length_append, List.length_singleton, List.length_cons]
    omega
theorem masks_len (l : List Oper) : (masks l).length = l.length := by unfold masks; rw [masksG_len]; simp
theorem zipM_len : ∀ (l : List Oper) (ms : List Nat), ms.length = l.length → (zipM l ms).length = l.length
  | [], ms, _ => by cases ms <;> rfl
  | o :: l, [], h => by simp at h
  | o :: l, m :: ms, h => by rw [zipM, List.length_cons, List.length_cons, zipM_len l ms (by simpa using h)]
theorem zipM_get : ∀ {l : List Oper} {ms : List Nat} {j : Nat} {o : Oper} {m : Nat}, (zipM l ms)[j]? = some (o, m) → l[j]? = some o ∧ ms[j]? = some m
  | [], ms, j, o, m, h => by cases ms <;> simp [zipM] at h
  | o' :: l, [], j, o, m, h => by simp [zipM] at h
  | o' :: l, m' :: ms, 0, o, m, h => by
    simp only [zipM, List.getElem?_cons_zero, Option.some.injEq, Prod.mk.injEq] at h
    obtain ⟨rfl, rfl⟩ := h
    exact ⟨rfl, rfl⟩
  | o' :: l, m' :: ms, j + 1, o, m, h => by
    rw [zipM, List.getElem?_cons_succ] at h
    rw [List.getElem?_cons_succ, List.getElem?_cons_succ]
    exact zipM_get h
theorem zipM_at {l : List Oper} {ms : List Nat} {j : Nat} {o : Oper} (h : ms.length = l.length) (ho : l[j]? = some o) : ∃ m, (zipM l ms)[j]? = some (o, m) := by
  have hj : j < (zipM l ms).length := by rw [zipM_len l ms h]; exact (List.getElem?_eq_some_iff.1 ho).1
  obtain ⟨x, hx⟩ : ∃ x, (zipM l ms)[j]? = some x := ⟨_, List.getElem?_eq_getElem hj⟩
  obtain ⟨o', m⟩ := x
  have := (zipM_get hx).1
  rw [ho] at this
  injection this with this
  subst this
  exact ⟨m, hx⟩
theorem operL_eq {q : Op} {l : List Operand} (h : operL q = some l) : l = q.operands.toList := by
  unfold operL at h
  split at h <;> first | (injection h with h; subst h; first | rfl | simp [Op.operands]) | cases h
  · rename_i t x lo hi mx
    cases lo <;> cases hi <;> cases mx <;> simp [oList]
  · rename_i c
    unfold callL
    cases hc : c.callee <;> simp [Call.operands, hc]
theorem tmpL_mem {t : Nat} : ∀ {l : List Operand}, Operand.tmp t ∈ l → t ∈ tmpL l
  | x :: l, h => by
    rcases List.mem_cons.1 h with rfl | h
    · exact List.mem_cons_self
    · have := tmpL_mem h
      cases x <;> first | exact this | exact List.mem_cons_of_mem _ this
theorem dstAt_eq {l : List Oper} {j : Nat} : dstAt l j = (l[j]?).bind (·.dst) := by unfold dstAt; rw [nth_eq]
theorem looksL_eq {o : Oper} {ts : List Nat} (h : looksL ops.toList o = some ts) {t : Nat} (ht : t ∈ o.looksAt ops) : t ∈ ts := by
  simp only [looksL, Option.bind_eq_some_iff] at h
  obtain ⟨l, hl, h⟩ := h
  have hl := operL_eq hl
  unfold Oper.looksAt at ht
  rw [← hl] at ht
  rcases List.mem_append.1 ht with ht | ht
  · replace ht : t ∈ tmpL l := by
      obtain ⟨x, hx, he⟩ := List.mem_filterMap.1 ht
      cases x with
      | tmp t' =>
        injection he with he
        subst he
        exact tmpL_mem hx
      | _ => cases he
    split at h
    · injection h with h; rw [← h]; exact ht
    · split at h
      · injection h with h; rw [← h]; exact List.mem_cons_of_mem _ ht
      · injection h with h; rw [← h]; exact ht
  · split at h
    · rename_i hg
      rw [hg] at ht
      cases ht
    · rename_i g b hg
      rw [hg] at ht
      simp only at ht
      rw [dstAt_eq, Array.getElem?_toList] at h
      cases hd : (ops[g]?).bind (·.dst) with
      | none => rw [hd] at ht; cases ht
      | some d =>
        rw [hd] at ht h
        injection h with h
        rw [← h]
        simp at ht
        rw [ht]
        exact List.mem_cons_self
theorem isD_iff {o : Oper} {t : Nat} : isD o t = true ↔ o.dst = some t := by
  unfold isD
  cases o.dst with
  | none => simp
  | some d => simp [beq_dec]
theorem chkJ_spec {t i dm : Nat} : ∀ (l : List (Oper × Nat)) (j0 : Nat), chkJ t i dm l j0 = true → ∀ (k : Nat) (p : Oper) (m : Nat), l[k]? = some (p, m) → p.dst = some t → (j0 + k < i ∧ bit dm (j0 + k) = true) ∨ (i < j0 + k ∧ bit m i = true)
  | [], _, _, k, p, m, hp, _ => by simp at hp
  | (q, mq) :: l, j0, h, k, p, m, hp, hd => by
    rw [chkJ, Bool.and_eq_true] at h
    cases k with
    | zero =>
      simp only [List.getElem?_cons_zero, Option.some.injEq, Prod.mk.injEq] at hp
      obtain ⟨rfl, rfl⟩ := hp
      have h1 := h.1
      rw [isD_iff.2 hd, cond_true, cblt] at h1
      split at h1
      · rename_i hlt
        exact .inl ⟨hlt, h1⟩
      · rw [Bool.and_eq_true, blt_dec, decide_eq_true_eq] at h1
        exact .inr h1
    | succ k =>
      rw [List.getElem?_cons_succ] at hp
      have := chkJ_spec l (Nat.succ j0) h.2 k p m hp hd
      rw [show Nat.succ j0 + k = j0 + (k + 1) by omega] at this
      exact this
theorem allJ_spec {os : List (Oper × Nat)} {i dm : Nat} : ∀ (l : List Nat), allJ os i dm l = true → ∀ t ∈ l, chkJ t i dm os 0 = true
  | [], _, t, ht => by cases ht
  | x :: l, h, t, ht => by
    rw [allJ, Bool.and_eq_true] at h
    rcases List.mem_cons.1 ht with rfl | ht
    · exact h.1
    · exact allJ_spec l h.2 t ht
theorem backB_spec {i : Nat} : ∀ (l : List Edge), backB i l = true → ∀ e ∈ l, bindsA e = true → e.on < i
  | [], _, e, he, _ => by cases he
  | x :: l, h, e, he, hb => by
    rw [backB, Bool.and_eq_true] at h
    rcases List.mem_cons.1 he with rfl | he
    · have h1 := h.1
      rw [hb, cond_true, blt_dec, decide_eq_true_eq] at h1
      exact h1
    · exact backB_spec l h.2 e he hb
theorem noD_spec {t : Nat} : ∀ (l : List Oper), noD t l = true → ∀ p ∈ l, p.dst ≠ some t
  | [], _, p, hp => by cases hp
  | x :: l, h, p, hp => by
    rw [noD, Bool.and_eq_true] at h
    rcases List.mem_cons.1 hp with rfl | hp
    · intro hd
      have := h.1
      rw [isD_iff.2 hd] at this
      cases this
    · exact noD_spec l h.2 p hp
theorem chkI_spec {os : List Oper} {zs : List (Oper × Nat)} : ∀ (l : List Oper) (i0 : Nat), chkI os zs Nt l i0 = true → ∀ (k : Nat) (o : Oper), l[k]? = some o →
    (∀ e ∈ o.after.toList, bindsA e = true → e.on < i0 + k) ∧ (∃ ts, looksL os o = some ts ∧ allJ zs (i0 + k) (edgeD o.after.toList) ts = true) ∧ (∀ d, o.dst = some d → d < Nt ∧ ∀ (m : Nat) (p : Oper), k < m → l[m]? = some p → p.dst ≠ some d)
  | [], _, _, k, o, ho => by simp at ho
  | q :: l, i0, h, k, o, ho => by
    rw [chkI, Bool.and_eq_true, Bool.and_eq_true, Bool.and_eq_true] at h
    obtain ⟨h1, h2, h3, h4⟩ := h
    cases k with
    | zero =>
      simp only [List.getElem?_cons_zero, Option.some.injEq] at ho
      subst ho
      refine ⟨backB_spec _ h1, ?_, fun d hd => ?_⟩
      · cases hl : looksL os q with
        | none => rw [hl] at h2; cases h2
        | some ts => rw [hl] at h2; exact ⟨ts, rfl, h2⟩
      · rw [hd] at h3
        simp only [Bool.and_eq_true, blt_dec, decide_eq_true_eq] at h3
        refine ⟨h3.1, fun m p hm hp => ?_⟩
        cases m with
        | zero => omega
        | succ m =>
          rw [List.getElem?_cons_succ] at hp
          exact noD_spec l h3.2 p (List.mem_of_getElem? hp)
    | succ k =>
      rw [List.getElem?_cons_succ] at ho
      obtain ⟨g1, ⟨ts, g2, g3⟩, g4⟩ := chkI_spec l (Nat.succ i0) h4 k o ho
      rw [show Nat.succ i0 + k = i0 + (k + 1) by omega] at g1 g3
      refine ⟨g1, ⟨ts, g2, g3⟩, fun d hd => ⟨(g4 d hd).1, fun m p hm hp => ?_⟩⟩
      cases m with
      | zero => omega
      | succ m =>
        rw [List.getElem?_cons_succ] at hp
        exact (g4 d hd).2 m p (by omega) hp
theorem regB_spec (h : regB Nt ops.toList = true) : ROk ops Nt := by
  have H : ∀ (k : Nat) (o : Oper), ops[k]? = some o → _ := fun k o ho => chkI_spec ops.toList 0 h k o (by rw [Array.getElem?_toList]; exact ho)
  have hback : ∀ (i : Nat) (o : Oper), ops[i]? = some o → ∀ e ∈ o.after, Region.binds .any e = true → e.on < i := fun i o ho e he hb => by
    have := (H i o ho).1 e (by simpa using he) (by rw [bindsA_eq]; exact hb)
    omega
  refine ⟨hback, fun i o j p d ho hp hd ht => ?_, fun i o j p d ho hp hd ht => ?_, fun i o d ho hd => ((H i o ho).2.2 d hd).1⟩
  · obtain ⟨_, ⟨ts, g2, g3⟩, _⟩ := H i o ho
    obtain ⟨m, hm⟩ := zipM_at (masks_len ops.toList) (show ops.toList[j]? = some p by rw [Array.getElem?_toList]; exact hp)
    have := chkJ_spec _ 0 (allJ_spec ts g3 d (looksL_eq g2 ht)) j p m hm hd
    rw [Nat.zero_add, Nat.zero_add] at this
    rcases this with ⟨h1, h2⟩ | ⟨h1, h2⟩
    · exact .inl ⟨h1, (waits_iff ho).2 ((edgeD_iff j _).1 h2)⟩
    · exact .inr ⟨h1, (masks_spec hback (zipM_get hm).2 i).1 h2⟩
  · rcases Nat.lt_trichotomy i j with hlt | heq | hgt
    · exact absurd hd (((H i o ho).2.2 d ht).2 j p hlt (by rw [Array.getElem?_toList]; exact hp))
    · exact heq
    · exact absurd ht (((H j p hp).2.2 d hd).2 i o hgt (by rw [Array.getElem?_toList]; exact ho))
end
end Go.Ev
