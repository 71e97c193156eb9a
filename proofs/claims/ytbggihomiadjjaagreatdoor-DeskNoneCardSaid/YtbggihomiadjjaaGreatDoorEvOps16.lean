/- What is proved: what the evaluator says of any operation but a call is what the model does; which operations look at no memory, and which lay a row and do nothing else. -/
import Derived.Test.YtbggihomiadjjaaGreatDoorEvOps15
set_option linter.unusedVariables false
set_option linter.unusedSimpArgs false
namespace Go.Ev
open Go Go.Fw

section
variable {P : Program} {o : Oper} {a : Act} {w : World} {f : F} {s s' : S} {ρ : Rho} {r : AV}
theorem run_builtinOp {c : Call} {b : Builtin} (ho : o.op = .call c) (hb : c.callee = .builtin b) : (execOp a.eval o).run P w = (builtin b c.argTypes o.type (c.args.map fun | .const _ => true | _ => false) (c.args.map a.eval)).run P w := by
  unfold execOp
  rw [ho]
  simp only [resolve, hb, Sem.run_bind, Sem.run_pure, Result.andThen_ok]
  rfl
theorem callArgs {c : Call} (ho : o.op = .call c) (hF : FO ρ f a o) {l : List AV} (h : opds f c.args.toList = some l) : RVs ρ l (c.args.map a.eval).toList := by
  rw [Array.toList_map]
  exact opds_rv (fun x hx v hv => hF.opd (by
    rw [ho]
    have : x ∈ c.args := by simpa using hx
    cases hc : c.callee <;> simp [Op.operands, Call.operands, hc, this]) hv) h
theorem arr0 {A : Array Value} {v : Value} {l : List Value} (h : A.toList = v :: l) : A[0]? = some v := by rw [← Array.getElem?_toList, h]; rfl
theorem arr1 {A : Array Value} {v u : Value} {l : List Value} (h : A.toList = v :: u :: l) : A[1]? = some u := by rw [← Array.getElem?_toList, h]; rfl
theorem tarr0 {A : Array TypeId} {v : TypeId} {l : List TypeId} (h : A.toList = v :: l) : A[0]? = some v := by rw [← Array.getElem?_toList, h]; rfl
theorem tarr1 {A : Array TypeId} {v u : TypeId} {l : List TypeId} (h : A.toList = v :: u :: l) : A[1]? = some u := by rw [← Array.getElem?_toList, h]; rfl
/-- len, cap, min, max. -/
theorem op_quietB {c : Call} {b : Builtin} (ho : o.op = .call c) (hb : c.callee = .builtin b) (hq : b = .len ∨ b = .cap ∨ b = .min ∨ b = .max) (h : oCall P f s c = some (r, s')) (hF : FO ρ f a o) : OpG P o a ρ s r s' := by
  simp only [oCall, hb, Option.bind_eq_some_iff] at h
  obtain ⟨l, hl, h⟩ := h
  have hr := callArgs ho hF hl
  obtain ⟨A, hA⟩ : ∃ A, A = c.args.map a.eval := ⟨_, rfl⟩
  rw [← hA] at hr
  have fin : ∀ v, (∀ w, (builtin b c.argTypes o.type (c.args.map fun | .const _ => true | _ => false) A).run P w = .ok (.value v) w) → RV ρ r v → s' = s → OpG P o a ρ s r s' := fun v g1 g2 g3 => by
    subst g3
    exact OpG.gv (fun w => by unfold Gv; rw [run_builtinOp ho hb, ← hA]; exact g1 w) g2
  rcases hq with rfl | rfl | rfl | rfl
  · simp only [builtinA] at h
    split at h
    · rename_i t ts x e1
      obtain ⟨u, us, hu, hx, hnil⟩ := hr
      obtain ⟨e, v, g1, g2⟩ := lenB_run (T := c.argTypes) (A := A) (ty := o.type) h hx (tarr0 e1) (arr0 hu)
      exact fin v (fun w => by simp [builtin, g1]) g2 e
    · cases h
  · simp only [builtinA] at h
    split at h
    · rename_i t ts x e1
      obtain ⟨u, us, hu, hx, hnil⟩ := hr
      obtain ⟨e, v, g1, g2⟩ := capB_run (T := c.argTypes) (A := A) (ty := o.type) h hx (tarr0 e1) (arr0 hu)
      exact fin v (fun w => by simp [builtin, g1]) g2 e
    · cases h
  · simp only [builtinA] at h
    split at h
    · rename_i x xs e1
      obtain ⟨u, us, hu, hx, hxs⟩ := hr
      obtain ⟨h, e⟩ := ret1_some h
      obtain ⟨z, g1, g2⟩ := foldI_run (P := P) (fun x y u v r => minI_run) h hx hxs
      exact fin z (fun w => by simp [builtin, Builtin.min_, hu, g1]) g2 e
    · cases h
  · simp only [builtinA] at h
    split at h
    · rename_i x xs e1
      obtain ⟨u, us, hu, hx, hxs⟩ := hr
      obtain ⟨h, e⟩ := ret1_some h
      obtain ⟨z, g1, g2⟩ := foldI_run (P := P) (fun x y u v r => maxI_run) h hx hxs
      exact fin z (fun w => by simp [builtin, Builtin.max_, hu, g1]) g2 e
    · cases h
theorem op_builtin {c : Call} (ho : o.op = .call c) (h : oCall P f s c = some (r, s')) (hF : FO ρ f a o) (hl : Rel ρ s w) : OpS P o a w ρ s r s' := by
  have h0 := h
  unfold oCall at h
  split at h
  · rename_i b hb
    simp only [Option.bind_eq_some_iff] at h
    obtain ⟨l, hlA, h⟩ := h
    have hr := callArgs ho hF hlA
    obtain ⟨A, hA⟩ : ∃ A, A = c.args.map a.eval := ⟨_, rfl⟩
    rw [← hA] at hr
    have fin : ∀ v ρ' w', (builtin b c.argTypes o.type (c.args.map fun | .const _ => true | _ => false) A).run P w = .ok (.value v) w' → RV ρ' r v → Goes ρ s w ρ' s' w' → OpS P o a w ρ s r s' := fun v ρ' w' g1 g2 g3 =>
      ⟨v, ρ', w', .inl (by rw [run_builtinOp ho hb, ← hA]; exact g1), g2, g3⟩
    cases b with
    | len => exact (op_quietB ho hb (by simp) h0 hF).opS hl
    | cap => exact (op_quietB ho hb (by simp) h0 hF).opS hl
    | min => exact (op_quietB ho hb (by simp) h0 hF).opS hl
    | max => exact (op_quietB ho hb (by simp) h0 hF).opS hl
    | append =>
      simp only [builtinA] at h
      split at h
      · rename_i t u ts x y e1
        obtain ⟨v1, us, hu, hx, v2, us', hu', hy, hnil⟩ := hr
        subst hu'
        split at h
        · rename_i hd
          obtain ⟨v', ρ', w', g1, g2, g3⟩ := appendA_run (ty := o.type) h (tarr0 e1) (tarr1 e1) (undT_eq hd) rfl (arr0 hu) (arr1 hu) hx hy hl
          exact fin v' ρ' w' (by simp [builtin, g1]) g2 g3
        · rename_i hd
          obtain ⟨v', ρ', w', g1, g2, g3⟩ := appendA_run (ty := o.type) h (tarr0 e1) (tarr1 e1) (undT_eq hd) rfl (arr0 hu) (arr1 hu) hx hy hl
          exact fin v' ρ' w' (by simp [builtin, g1]) g2 g3
        · rename_i kk hd
          obtain ⟨v', ρ', w', g1, g2, g3⟩ := appendZ_run (ty := o.type) h (tarr0 e1) (tarr1 e1) (undT_eq hd) (arr0 hu) (arr1 hu) hx hy hl
          exact fin v' ρ' w' (by simp [builtin, g1]) g2 g3
        · cases h
      · cases h
    | copy =>
      simp only [builtinA] at h
      split at h
      · rename_i t ts x y e1
        obtain ⟨v1, us, hu, hx, v2, us', hu', hy, hnil⟩ := hr
        subst hu'
        obtain ⟨z, w', g1, g2, g3⟩ := copyA_run (ty := o.type) h hx hy hl (tarr0 e1) (arr0 hu) (arr1 hu)
        exact fin z ρ w' (by simp [builtin, g1]) g2 g3
      · cases h
    | _ => cases h
  · cases h
/-- Any operation but a call. -/
theorem opA_run (h : opA P f s o.op = some (r, s')) (hF : FO ρ f a o) (hl : Rel ρ s w) : OpS P o a w ρ s r s' := by
  obtain ⟨q, hq⟩ : ∃ q, o.op = q := ⟨_, rfl⟩
  rw [hq] at h
  cases q with
  | move x => exact (op_move hq h hF).opS hl
  | assign x => exact (op_assign hq h hF).opS hl
  | pick c x y => exact (op_pick hq h hF).opS hl
  | alloc e => exact (op_alloc hq h).opS hl
  | box e x => exact (op_box hq h hF).opS hl
  | build t ps => exact (op_build hq h hF).opS hl
  | buildSlice t n ps => exact (op_buildSlice hq h hF).opS hl
  | load t x => exact op_load hq h hF hl
  | store t x y => exact op_store hq h hF hl
  | nilCheck x => exact (op_nil hq h hF).opS hl
  | binOp op t x y q => exact (op_bin hq h hF).opS hl
  | unOp op t x => exact (op_un hq h hF).opS hl
  | convert p q x => exact op_convert hq h hF hl
  | makeInterface t x => exact (op_iface hq h hF).opS hl
  | makeFunc fn x y => exact (op_makeFunc hq h hF).opS hl
  | makeSlice t x y => exact (op_makeSlice hq h hF).opS hl
  | slice t x lo hi mx => exact (op_slice hq h hF).opS hl
  | fieldAddr t x k => exact (op_fieldAddr hq h hF).opS hl
  | field t x k => exact (op_field hq h hF).opS hl
  | indexAddr t x i => exact (op_indexAddr hq h hF).opS hl
  | index t x i => exact (op_index hq h hF).opS hl
  | extract x i => exact (op_extract hq h hF).opS hl
  | call c => exact op_builtin hq h hF hl
  | _ => cases h
theorem quietB_some {b : Builtin} (h : quietB b = true) : b = .len ∨ b = .cap ∨ b = .min ∨ b = .max := by
  cases b <;> first | exact .inl rfl | exact .inr (.inl rfl) | exact .inr (.inr (.inl rfl)) | exact .inr (.inr (.inr rfl)) | cases h
theorem opA_quiet (h : opA P f s o.op = some (r, s')) (hk : kindO P o.op = .quiet) (hF : FO ρ f a o) : OpG P o a ρ s r s' := by
  obtain ⟨q, hq⟩ : ∃ q, o.op = q := ⟨_, rfl⟩
  rw [hq] at h hk
  cases q with
  | move x => exact op_move hq h hF
  | assign x => exact op_assign hq h hF
  | pick c x y => exact op_pick hq h hF
  | build t ps => exact op_build hq h hF
  | nilCheck x => exact op_nil hq h hF
  | binOp op t x y q => exact op_bin hq h hF
  | unOp op t x => exact op_un hq h hF
  | makeInterface t x => exact op_iface hq h hF
  | makeFunc fn x y => exact op_makeFunc hq h hF
  | slice t x lo hi mx => exact op_slice hq h hF
  | fieldAddr t x k => exact op_fieldAddr hq h hF
  | field t x k => exact op_field hq h hF
  | indexAddr t x i => exact op_indexAddr hq h hF
  | index t x i => exact op_index hq h hF
  | extract x i => exact op_extract hq h hF
  | convert p q x =>
    simp only [kindO] at hk
    cases hc : quietC P p q with
    | false => rw [hc] at hk; cases hk
    | true =>
      have h' : oConv P f s p q x = some (r, s') := h
      simp only [oConv, Option.bind_eq_some_iff] at h'
      obtain ⟨v, hv, h'⟩ := h'
      have hcv := hF.opd (by rw [hq]; simp [Op.operands]) hv
      unfold quietC at hc
      split at hc
      · rename_i k1 k2 h1 h2
        unfold convA at h'
        rw [h1, h2] at h'
        cases v with
        | int k n =>
          injection h' with h'
          injection h' with e1 e2
          subst e1 e2
          refine OpG.gv (v := .int k2 (k2.wrap n)) (fun w => ?_) wr_rv
          have e : a.eval x = .int k n := hcv
          unfold Gv execOp
          rw [hq]
          simp [e, convert, run_und (undT_eq h1), run_und (undT_eq h2), Conv.intToInt]
        | _ => cases h'
      · cases hc
  | call c =>
    simp only [kindO] at hk
    cases hc : c.callee with
    | builtin b =>
      rw [hc] at hk
      simp only at hk
      cases hb : quietB b with
      | true => exact op_quietB hq hc (quietB_some hb) h hF
      | false => rw [hb] at hk; cases hk
    | _ => rw [hc] at hk; cases hk
  | _ => cases hk
theorem opA_new (h : opA P f s o.op = some (r, s')) (hk : kindO P o.op = .new) (hF : FO ρ f a o) : OpN P o a ρ s r s' := by
  obtain ⟨q, hq⟩ : ∃ q, o.op = q := ⟨_, rfl⟩
  rw [hq] at h hk
  cases q with
  | alloc e => exact op_alloc hq h
  | box e x => exact op_box hq h hF
  | buildSlice t n ps => exact op_buildSlice hq h hF
  | makeSlice t x y => exact op_makeSlice hq h hF
  | convert p q x => simp only [kindO] at hk; cases hc : quietC P p q <;> rw [hc] at hk <;> cases hk
  | call c =>
    simp only [kindO] at hk
    cases hc : c.callee with
    | builtin b =>
      rw [hc] at hk
      simp only at hk
      cases hb : quietB b <;> rw [hb] at hk <;> cases hk
    | _ => rw [hc] at hk; cases hk
  | _ => cases hk
theorem opA_load (h : opA P f s o.op = some (r, s')) (hk : kindO P o.op = .load) (hF : FO ρ f a o) (hl : Rel ρ s w) : s' = s ∧ ∃ v, Gv P o a w v ∧ RV ρ r v := by
  obtain ⟨q, hq⟩ : ∃ q, o.op = q := ⟨_, rfl⟩
  rw [hq] at h hk
  cases q with
  | load t x => exact load_gv hq h hF hl
  | convert p q x => simp only [kindO] at hk; cases hc : quietC P p q <;> rw [hc] at hk <;> cases hk
  | call c =>
    simp only [kindO] at hk
    cases hc : c.callee with
    | builtin b =>
      rw [hc] at hk
      simp only at hk
      cases hb : quietB b <;> rw [hb] at hk <;> cases hk
    | _ => rw [hc] at hk; cases hk
  | _ => cases hk
end
end Go.Ev
