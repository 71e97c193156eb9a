/- What is proved: what the evaluator says of an operation is what the model does. -/
import Derived.Test.YtbggihomiadjjaaGreatDoorEvMem
set_option linter.unusedVariables false
set_option linter.unusedSimpArgs false
namespace Go.Ev
open Go Go.Fw

structure FR (N : Nat) (ρ : Rho) (f : F) (a : Act) : Prop where
  size : a.tmps.size = N
  dfs : a.defers = []
  get : ∀ t v, f.get t = some v → RV ρ v (slot a t)
theorem FR.mono {N : Nat} {ρ ρ' : Rho} {f : F} {a : Act} (h : FR N ρ f a) (hx : ∀ i p, ρ i = some p → ρ' i = some p) : FR N ρ' f a := ⟨h.size, h.dfs, fun t v ht => RV.mono hx v _ (h.get t v ht)⟩
theorem FR.put {N : Nat} {ρ : Rho} {f f' : F} {a : Act} {d : Option Nat} {r : AV} {v : Value} (h : FR N ρ f a) (hr : RV ρ r v) (hp : putD N f d r = some f') : FR N ρ f' (a.put d v) := by
  cases d with
  | none =>
    injection hp with hp
    subst hp
    exact h
  | some d =>
    rw [putD, cblt] at hp
    split at hp
    · rename_i hd
      injection hp with hp
      subst hp
      refine ⟨by rw [put_size]; exact h.size, by rw [put_defers]; exact h.dfs, fun t u ht => ?_⟩
      rcases T.get_set ht with ⟨e, e2⟩ | ⟨e, ht⟩
      · subst e e2
        rw [slot_put_same v (by rw [h.size]; exact hd)]
        exact hr
      · rw [slot_put_ne v (fun e' => e (Option.some.inj e').symm)]
        exact h.get t u ht
    · cases hp

section
variable {P : Program} {o : Oper} {a : Act} {w : World} {f : F} {s s' : S} {ρ : Rho} {N : Nat} {r : AV}
/-- The globals' rows lie at their blocks. -/
def Gl (ρ : Rho) : Prop := ∀ g, g < 1000 → ∃ sz, ρ g = some ⟨g, 0, sz⟩
theorem FR.opd {x : Operand} {v : AV} (h : FR N ρ f a) (hl : Gl ρ) (hx : opd f x = some v) : RV ρ v (a.eval x) := by
  cases x with
  | tmp t => exact h.get t v hx
  | const c => exact ofV_rv c v hx
  | global g =>
    have hx : (bif Nat.blt g 1000 then some (AV.ptr g 0) else none) = some v := hx
    rw [cblt] at hx
    split at hx
    · rename_i hg
      injection hx with hx
      subst hx
      obtain ⟨sz, hp⟩ := hl g hg
      exact ⟨_, hp, rfl⟩
    · cases hx
  | func k =>
    injection hx with hx
    subst hx
    exact ⟨#[], #[], rfl, rfl, rfl⟩
/-- What is known of an operation's operands. -/
structure FO (ρ : Rho) (f : F) (a : Act) (o : Oper) : Prop where
  opd : ∀ {x : Operand} {v : AV}, x ∈ o.op.operands.toList → opd f x = some v → RV ρ v (a.eval x)
theorem FR.fo (h : FR N ρ f a) (hl : Gl ρ) : FO ρ f a o := ⟨fun _ hx => h.opd hl hx⟩
theorem opds_rv : ∀ {xs : List Operand} {vs : List AV}, (∀ x ∈ xs, ∀ v, Ev.opd f x = some v → RV ρ v (a.eval x)) → opds f xs = some vs → RVs ρ vs (xs.map a.eval)
  | [], vs, _, hx => by simp [Ev.opds] at hx; subst hx; rfl
  | x :: xs, vs, h, hx => by
    simp only [Ev.opds, Option.bind_eq_some_iff, Option.map_eq_some_iff] at hx
    obtain ⟨v, hv, us, hus, rfl⟩ := hx
    exact ⟨_, _, rfl, h x (by simp) v hv, opds_rv (fun y hy => h y (List.mem_cons_of_mem _ hy)) hus⟩
/-- What an operation does: a value, and what becomes of memory. -/
def OpS (P : Program) (o : Oper) (a : Act) (w : World) (ρ : Rho) (s : S) (r : AV) (s' : S) : Prop :=
  ∃ v ρ' w', ((execOp a.eval o).run P w = .ok (.value v) w' ∨ ((execOp a.eval o).run P w = .ok .skip w' ∧ v = undef)) ∧ RV ρ' r v ∧ Goes ρ s w ρ' s' w'
/-- What an operation does that looks at no memory: one value, in every world. -/
def OpG (P : Program) (o : Oper) (a : Act) (ρ : Rho) (s : S) (r : AV) (s' : S) : Prop := s' = s ∧ ∃ v, (∀ w, Gv P o a w v) ∧ RV ρ r v
theorem OpG.gv {v : Value} (h : ∀ w, Gv P o a w v) (hv : RV ρ r v) : OpG P o a ρ s r s := ⟨rfl, v, h, hv⟩
theorem OpG.opS (hl : Rel ρ s w) (h : OpG P o a ρ s r s') : OpS P o a w ρ s r s' := by
  obtain ⟨rfl, v, h1, h2⟩ := h
  exact ⟨v, ρ, w, .inl (h1 w), h2, Goes.refl hl⟩
theorem OpS.gv {v : Value} (hl : Rel ρ s w) (h : Gv P o a w v) (hv : RV ρ r v) : OpS P o a w ρ s r s := ⟨v, ρ, w, .inl h, hv, Goes.refl hl⟩
theorem ret1_some {v : Option AV} {s s' : S} {r : AV} (h : ret1 v s = some (r, s')) : v = some r ∧ s' = s := by
  simp only [ret1, Option.bind_eq_some_iff, Option.some.injEq, Prod.mk.injEq] at h
  obtain ⟨u, hu, rfl, rfl⟩ := h
  exact ⟨hu, rfl⟩
/-- The facts on a type that the evaluator looks up. -/
theorem infoT_eq {t : Nat} {i : TypeInfo} (h : infoT P t = some i) : P.info? t = some i := by
  rw [infoT, nth_eq] at h
  have hlt : t < P.types.size := by
    have := (List.getElem?_eq_some_iff.1 h).1
    simpa using this
  show Tables.info? P.toTables t = _
  unfold Tables.info?
  rw [if_pos hlt]
  rw [← Array.getElem?_toList]
  exact h
theorem undT_eq {t : Nat} {d : TypeDesc} (h : undT P t = some d) : P.underlying t = some d := by
  unfold undT at h
  cases hi : infoT P t with
  | none => rw [hi] at h; cases h
  | some i =>
    rw [hi] at h
    have hi' := infoT_eq hi
    unfold Program.underlying
    rw [hi']
    obtain ⟨desc, _⟩ := i
    cases desc <;> simp only [Option.some.injEq, Option.bind_eq_some_iff] at h ⊢ <;> (try exact h)
    obtain ⟨j, hj, rfl⟩ := h
    simp [infoT_eq hj]
theorem sizeT_eq {t n : Nat} (h : sizeT P t = some n) : (P.info? t).map (·.size) = some n := by
  simp only [sizeT, Option.bind_eq_some_iff] at h
  obtain ⟨i, hi, h⟩ := h
  rw [infoT_eq hi]
  simpa using h

/-! ### Values alone -/
theorem op_move {x : Operand} (ho : o.op = .move x) (h : ret1 (opd f x) s = some (r, s')) (hF : FO ρ f a o) : OpG P o a ρ s r s' := by
  obtain ⟨hv, rfl⟩ := ret1_some h
  exact OpG.gv (fun w => gv_move ho rfl) (hF.opd (by rw [ho]; simp [Op.operands]) hv)
theorem op_assign {x : Operand} (ho : o.op = .assign x) (h : ret1 (opd f x) s = some (r, s')) (hF : FO ρ f a o) : OpG P o a ρ s r s' := by
  obtain ⟨hv, rfl⟩ := ret1_some h
  exact OpG.gv (fun w => gv_assign ho rfl) (hF.opd (by rw [ho]; simp [Op.operands]) hv)
theorem op_pick {c x y : Operand} (ho : o.op = .pick c x y) (h : oPick f s c x y = some (r, s')) (hF : FO ρ f a o) : OpG P o a ρ s r s' := by
  simp only [oPick, Option.bind_eq_some_iff] at h
  obtain ⟨b, hb, h⟩ := h
  have hc := hF.opd (by rw [ho]; simp [Op.operands]) hb
  cases b with
  | bool b =>
    cases b with
    | true =>
      obtain ⟨hv, rfl⟩ := ret1_some h
      exact OpG.gv (fun w => gv_pick ho hc rfl) (hF.opd (by rw [ho]; simp [Op.operands]) hv)
    | false =>
      obtain ⟨hv, rfl⟩ := ret1_some h
      exact OpG.gv (fun w => gv_pick ho hc rfl) (hF.opd (by rw [ho]; simp [Op.operands]) hv)
  | _ => cases h
theorem op_nil {x : Operand} (ho : o.op = .nilCheck x) (h : oNil f s x = some (r, s')) (hF : FO ρ f a o) : OpG P o a ρ s r s' := by
  simp only [oNil, Option.bind_eq_some_iff] at h
  obtain ⟨b, hb, h⟩ := h
  have hc := hF.opd (by rw [ho]; simp [Op.operands]) hb
  cases b with
  | ptr i k =>
    injection h with h
    injection h with h1 h2
    subst h1 h2
    obtain ⟨p, hp, hv⟩ := hc
    exact OpG.gv (fun w => gv_nilCheck ho hv) ⟨p, hp, rfl⟩
  | fn k l m =>
    injection h with h
    injection h with h1 h2
    subst h1 h2
    obtain ⟨f', c', hv, h1, h2⟩ := hc
    refine OpG.gv (v := .func (.func k) f' c') (fun w => ?_) ⟨f', c', rfl, h1, h2⟩
    unfold Gv execOp
    rw [ho]
    simp [hv]
  | _ => cases h
theorem op_extract {x : Operand} {i : Nat} (ho : o.op = .extract x i) (h : oExtract f s x i = some (r, s')) (hF : FO ρ f a o) : OpG P o a ρ s r s' := by
  simp only [oExtract, Option.bind_eq_some_iff] at h
  obtain ⟨b, hb, h⟩ := h
  have hc := hF.opd (by rw [ho]; simp [Op.operands]) hb
  cases b with
  | tup l =>
    obtain ⟨hv, rfl⟩ := ret1_some h
    obtain ⟨arr, he, hr⟩ := hc
    rw [nth_eq] at hv
    obtain ⟨u, hu, hru⟩ := hr.get hv
    exact OpG.gv (fun w => gv_extract ho he (by rw [← Array.getElem?_toList]; exact hu)) hru
  | _ => cases h
theorem load_gv {t : Nat} {x : Operand} (ho : o.op = .load t x) (h : oLoad P f s t x = some (r, s')) (hF : FO ρ f a o) (hl : Rel ρ s w) : s' = s ∧ ∃ v, Gv P o a w v ∧ RV ρ r v := by
  simp only [oLoad, Option.bind_eq_some_iff] at h
  obtain ⟨b, hb, h⟩ := h
  have hc := hF.opd (by rw [ho]; simp [Op.operands]) hb
  cases b with
  | ptr i k =>
    obtain ⟨hv, rfl⟩ := ret1_some h
    obtain ⟨p, hp, he⟩ := hc
    unfold loadA at hv
    cases hr : s'.h.get i with
    | none => rw [hr] at hv; cases hv
    | some row =>
      rw [hr] at hv
      simp only [Option.bind_eq_some_iff] at hv
      obtain ⟨A, hA, hv⟩ := hv
      have hnd : row ≠ .dead := by
        rintro rfl
        cases A
        · cases hv
        · simp only [cond_true, Option.bind_eq_some_iff] at hv
          obtain ⟨n, _, hv⟩ := hv
          cases hv
      simp only [isAggT, Option.bind_eq_some_iff] at hA
      obtain ⟨d, hd, hA⟩ := hA
      obtain ⟨p', hp', hra⟩ := hl.row i row hr hnd
      rw [hp] at hp'
      injection hp' with hp'
      subst hp'
      cases A with
      | false =>
        obtain ⟨u, hu, hru, _⟩ := hra.cell hv
        exact ⟨rfl, _, gv_load ho (undT_eq hd) (by cases d <;> first | rfl | cases hA) he hu, hru⟩
      | true =>
        simp only [cond_true, Option.bind_eq_some_iff] at hv
        obtain ⟨n, hn, hv⟩ := hv
        obtain ⟨vs, hlen, hcs, hru⟩ := hra.cells_ hv
        exact ⟨rfl, _, gv_loadAgg (vs := vs) ho (undT_eq hd) (by cases d <;> first | rfl | cases hA) (by rw [hlen]; exact sizeT_eq hn) he hcs, hru⟩
  | _ => cases h
theorem op_load {t : Nat} {x : Operand} (ho : o.op = .load t x) (h : oLoad P f s t x = some (r, s')) (hF : FO ρ f a o) (hl : Rel ρ s w) : OpS P o a w ρ s r s' := by
  obtain ⟨rfl, v, h1, h2⟩ := load_gv ho h hF hl
  exact OpS.gv hl h1 h2
/-! ### Cells of values -/
theorem RV.one {x : AV} {v : Value} (h : RV ρ x v) (ho : x.one = true) : v.oneCell' = true ∧ v.cells = #[v] := by
  cases x with
  | bool b => rw [show v = _ from h]; exact ⟨rfl, rfl⟩
  | int k n => rw [show v = _ from h]; exact ⟨rfl, rfl⟩
  | str n c => obtain ⟨s, rfl, _⟩ := h; exact ⟨rfl, rfl⟩
  | nil => rw [show v = _ from h]; exact ⟨rfl, rfl⟩
  | ptr i o => obtain ⟨p, _, rfl⟩ := h; exact ⟨rfl, rfl⟩
  | slN => rw [show v = _ from h]; exact ⟨rfl, rfl⟩
  | sl i o n c =>
    cases c with
    | u z => obtain ⟨p, a, c, _, rfl, _⟩ := h; exact ⟨rfl, rfl⟩
    | k c => obtain ⟨p, _, rfl, _⟩ := h; exact ⟨rfl, rfl⟩
  | fn k f c => obtain ⟨f', c', rfl, _⟩ := h; exact ⟨rfl, rfl⟩
  | nilF => rw [show v = _ from h]; exact ⟨rfl, rfl⟩
  | ifc t a => obtain ⟨u, rfl, _⟩ := h; exact ⟨rfl, rfl⟩
  | nilI => rw [show v = _ from h]; exact ⟨rfl, rfl⟩
  | agg l => cases ho
  | bag n c => cases ho
  | tup l => cases ho
  | undef => cases ho
  | val _ u => obtain ⟨rfl, h1, h2⟩ := h; exact ⟨h1, h2⟩
theorem bList_get : ∀ (n c i j : Nat), j < n → (bList c n i)[j]? = some (.int .u8 (.ofNat (bAt c (i + j))))
  | 0, _, _, _, h => absurd h (Nat.not_lt_zero _)
  | n + 1, c, i, 0, _ => rfl
  | n + 1, c, i, j + 1, h => by
    rw [bList, List.getElem?_cons_succ, bList_get n c (i + 1) j (by omega), show i + 1 + j = i + (j + 1) by omega]
theorem bList_len : ∀ (n c i : Nat), (bList c n i).length = n
  | 0, _, _ => rfl
  | n + 1, c, i => by rw [bList, List.length_cons, bList_len n]
/-- The cells of a value stand for the cells of a value, each of them one. -/
theorem RV.cel {x : AV} {v : Value} (h : RV ρ x v) {l : List AV} (hc : x.cel = some l) : RVs ρ l v.cells.toList ∧ (∀ y ∈ l, y.one = true) ∧ (∀ u ∈ v.cells.toList, u.oneCell' = true) := by
  have key : ∀ {l : List AV} {vs : List Value}, RVs ρ l vs → (∀ y ∈ l, y.one = true) → ∀ u ∈ vs, u.oneCell' = true := fun {l vs} hr ho u hu => by
    obtain ⟨i, hi⟩ := List.getElem?_of_mem hu
    have hlt : i < l.length := by rw [hr.len]; exact (List.getElem?_eq_some_iff.1 hi).1
    obtain ⟨u', hu', hr'⟩ := hr.get (List.getElem?_eq_getElem hlt)
    rw [hi] at hu'
    injection hu' with hu'
    subst hu'
    exact (RV.one hr' (ho _ (List.getElem_mem hlt))).1
  by_cases ho : x.one = true
  · have hl : l = [x] := by cases x <;> first | (injection hc with hc; exact hc.symm) | cases ho
    subst hl
    rw [(RV.one h ho).2]
    have h1 : RVs ρ [x] #[v].toList := ⟨v, [], rfl, h, rfl⟩
    have h2 : ∀ y ∈ [x], y.one = true := fun y hy => by rw [List.mem_singleton.1 hy]; exact ho
    exact ⟨h1, h2, key h1 h2⟩
  · cases x <;> first | exact absurd rfl ho | skip
    case agg m =>
      injection hc with hc
      subst hc
      obtain ⟨arr, rfl, hr, hall⟩ := h
      exact ⟨hr, allOne_mem hall, key hr (allOne_mem hall)⟩
    case bag n c =>
      injection hc with hc
      subst hc
      obtain ⟨rfl, hb⟩ := h
      have h1 : RVs ρ (bList c n 0) ((byL n c).map vU) := by
        refine RVs.mk (by rw [bList_len, List.length_map, byL_len]) fun i y hy => ?_
        have hi : i < n := by
          have := (List.getElem?_eq_some_iff.1 hy).1
          rwa [bList_len] at this
        rw [bList_get n c 0 i hi, Nat.zero_add] at hy
        injection hy with hy
        subst hy
        exact ⟨_, by rw [List.getElem?_map, byL_get n c i hi]; rfl, RV.u8⟩
      have h2 : ∀ y ∈ bList c n 0, y.one = true := fun y hy => by
        obtain ⟨i, hi⟩ := List.getElem?_of_mem hy
        have hlt := (List.getElem?_eq_some_iff.1 hi).1
        rw [bList_len] at hlt
        rw [bList_get n c 0 i hlt] at hi
        injection hi with hi
        rw [← hi]
        rfl
      exact ⟨h1, h2, key h1 h2⟩
    case tup m => cases hc
    case undef => cases hc
theorem packL_some : ∀ {l : List AV} {c : Nat}, packL l = some c → c < 2 ^ (8 * l.length) ∧ ∀ {vs : List Value}, RVs ρ l vs → vs = (byL l.length c).map vU
  | [], c, h => by
    simp [packL] at h
    subst h
    exact ⟨by decide, fun hr => by rw [show _ = [] from hr]; rfl⟩
  | x :: l, c, h => by
    cases x with
    | int k n =>
      cases k with
      | u8 =>
        cases n with
        | ofNat b =>
          rw [packL, cblt] at h
          split at h
          · rename_i hb
            simp only [Option.bind_eq_some_iff, Option.some.injEq] at h
            obtain ⟨q, hq, rfl⟩ := h
            obtain ⟨h1, h2⟩ := packL_some (l := l) hq
            refine ⟨?_, fun hr => ?_⟩
            · rw [List.length_cons, show 8 * (l.length + 1) = 8 + 8 * l.length by omega, Nat.pow_add]
              show b + 256 * q < 256 * _
              omega
            · obtain ⟨v, vs', rfl, hv, hr'⟩ := hr
              rw [h2 hr', show v = _ from hv, List.length_cons, byL]
              show _ :: _ = vU (UInt8.ofNat ((b + 256 * q) % 256)) :: List.map vU (byL l.length ((b + 256 * q) / 256))
              rw [show (b + 256 * q) % 256 = b by omega, show (b + 256 * q) / 256 = q by omega]
              congr 1
              unfold vU
              rw [UInt8.toNat_ofNat', Nat.mod_eq_of_lt hb]
              rfl
          · cases h
        | negSucc _ => cases h
      | _ => cases h
    | _ => cases h
/-- A row made of a value lies where its cells lie, with whatever behind. -/
theorem rowOf_at {e : Nat} {room : Bool} {x : AV} {row : Row} (h : rowOf P e room x = some row) {v : Value} (hv : RV ρ x v) {w' : World} {b sz : Nat} {arr : Array Value} {et : TypeId} {fr : Nat × Nat} {pad : List Value} (hb : w'.heap[b]? = some (.cells arr et fr)) (harr : arr.toList = v.cells.toList ++ pad) (hsz : arr.size = sz) (hfr : FrOk fr sz) (hroom : room = false → pad = []) :
    ∀ ρ', (∀ i p, ρ i = some p → ρ' i = some p) → RowAt ρ' w' ⟨b, 0, sz⟩ row := by
  intro ρ' hx
  have hlen : arr.size = v.cells.toList.length + pad.length := by rw [← Array.length_toList, harr, List.length_append]
  have bytes : ∀ {n c : Nat}, c < 2 ^ (8 * n) → v.cells.toList = (byL n c).map vU → RowAt ρ' w' ⟨b, 0, sz⟩ (.bytes e room n c) := fun {n c} hc hcs => by
    have hn : v.cells.toList.length = n := by rw [hcs, List.length_map, byL_len]
    refine ⟨hc, arr, et, fr, hb, hsz, hfr, by show 0 + n ≤ sz; omega, fun hr => ?_, fun k y hy => ?_⟩
    · rw [hroom hr, List.length_nil] at hlen
      show 0 + n = sz
      omega
    · rw [Nat.zero_add, ← Array.getElem?_toList, harr, List.getElem?_append_left (by rw [hn]; have := (List.getElem?_eq_some_iff.1 hy).1; rwa [byL_len] at this), hcs, List.getElem?_map, hy]
      rfl
  have gen : ∀ l, x.cel = some l → (bif isB P e then rowB e room l else some (.cells e room l)) = some row → RowAt ρ' w' ⟨b, 0, sz⟩ row := fun l hl hrow => by
    obtain ⟨h1, h2, h3⟩ := hv.cel hl
    cases hB : isB P e with
    | true =>
      rw [hB] at hrow
      simp only [cond_true, rowB, Option.bind_eq_some_iff, Option.some.injEq] at hrow
      obtain ⟨c, hc, rfl⟩ := hrow
      obtain ⟨g1, g2⟩ := packL_some (ρ := ρ) hc
      rw [lenL_eq]
      exact bytes g1 (g2 h1)
    | false =>
      rw [hB] at hrow
      injection hrow with hrow
      subst hrow
      refine ⟨arr, et, fr, hb, hsz, hfr, by show 0 + l.length ≤ sz; rw [h1.len]; omega, fun hr => ?_, fun k y hy => ?_⟩
      · rw [hroom hr, List.length_nil] at hlen
        show 0 + l.length = sz
        rw [h1.len]
        omega
      · obtain ⟨u, hu, hru⟩ := h1.get hy
        refine ⟨h2 y (List.mem_of_getElem? hy), u, ?_, RV.mono hx y u hru⟩
        rw [Nat.zero_add, ← Array.getElem?_toList, harr, List.getElem?_append_left (by exact (List.getElem?_eq_some_iff.1 hu).1)]
        exact hu
  unfold rowOf at h
  cases x with
  | bag n c =>
    injection h with h
    subst h
    obtain ⟨rfl, hc⟩ := hv
    exact bytes hc (by simp [Value.cells])
  | _ =>
    simp only [Option.bind_eq_some_iff] at h
    obtain ⟨l, hl, h⟩ := h
    exact gen l hl h
theorem retP_some {v : Option Row} {s s' : S} {r : AV} (h : retP v s = some (r, s')) : ∃ row, v = some row ∧ r = .ptr s.nx 0 ∧ s' = ⟨s.h.set s.nx row, s.nx + 1⟩ := by
  simp only [retP, Option.bind_eq_some_iff, Option.some.injEq, Prod.mk.injEq] at h
  obtain ⟨u, hu, rfl, rfl⟩ := h
  exact ⟨u, hu, rfl, rfl⟩
theorem frok0 (n : Nat) : FrOk (0, 0) n := .inl rfl
theorem heap_push (w : World) (ob : Obj) : (∀ b, b < w.heap.size → (w.alloc ob).heap[b]? = w.heap[b]?) ∧ (w.alloc ob).heap[w.heap.size]? = some ob ∧ w.heap.size < (w.alloc ob).heap.size := by
  refine ⟨fun b hb => ?_, ?_, ?_⟩
  · show (w.heap.push ob)[b]? = _
    rw [Array.getElem?_push, if_neg (Nat.ne_of_lt hb)]
  · show (w.heap.push ob)[w.heap.size]? = _
    rw [Array.getElem?_push, if_pos rfl]
  · show _ < (w.heap.push ob).size
    rw [Array.size_push]
    omega
/-- An operation lays a row, and does nothing else. -/
def NewS (P : Program) (o : Oper) (a : Act) (w : World) (ρ : Rho) (row : Row) (k : NK) : Prop :=
  ∃ v w' sz, (execOp a.eval o).run P w = .ok (.value v) w' ∧ w.heap.size < w'.heap.size ∧ w'.os = w.os ∧ w'.tape = w.tape ∧ w'.output = w.output ∧ (∀ b, b < w.heap.size → w'.heap[b]? = w.heap[b]?) ∧
    (∀ ρ', (∀ i p, ρ i = some p → ρ' i = some p) → RowAt ρ' w' ⟨w.heap.size, 0, sz⟩ row) ∧ (∀ (ρ' : Rho) i, ρ' i = some ⟨w.heap.size, 0, sz⟩ → RV ρ' (k.av i) v)
/-- It lays one, whatever the memory. -/
def OpN (P : Program) (o : Oper) (a : Act) (ρ : Rho) (s : S) (r : AV) (s' : S) : Prop := ∃ row k, r = NK.av k s.nx ∧ s' = ⟨s.h.set s.nx row, s.nx + 1⟩ ∧ ∀ w, NewS P o a w ρ row k
theorem OpN.opS (hl : Rel ρ s w) (h : OpN P o a ρ s r s') : OpS P o a w ρ s r s' := by
  obtain ⟨row, k, rfl, rfl, hw⟩ := h
  obtain ⟨v, w', sz, h1, h2, h3, h4, h5, h6, h7, h8⟩ := hw w
  exact ⟨v, ρ.set s.nx ⟨w.heap.size, 0, sz⟩, w', .inl h1, h8 _ _ (if_pos rfl), goes_new hl h2 h3 h4 h5 h6 h7⟩
theorem op_box {e : Nat} {x : Operand} (ho : o.op = .box e x) (h : oBox P f s e x = some (r, s')) (hF : FO ρ f a o) : OpN P o a ρ s r s' := by
  simp only [oBox, Option.bind_eq_some_iff] at h
  obtain ⟨v, hv, h⟩ := h
  obtain ⟨row, hrow, rfl, rfl⟩ := retP_some h
  have hc := hF.opd (by rw [ho]; simp [Op.operands]) hv
  refine ⟨row, .ptr, rfl, rfl, fun w => ?_⟩
  obtain ⟨h1, h2, h3⟩ := heap_push w (.cells (a.eval x).cells e)
  refine ⟨.pointer (some ⟨w.heap.size, 0, none⟩), w.alloc (.cells (a.eval x).cells e), _, ?_, h3, rfl, rfl, rfl, h1, (rowOf_at hrow hc (pad := []) h2 (by simp) rfl (frok0 _) fun _ => rfl), fun ρ' i hi => ⟨_, hi, rfl⟩⟩
  unfold execOp
  rw [ho]
  simp [Instr.box, run_newVar]
theorem bagOf_rv {x : AV} {v : Value} (h : RV ρ x v) : RV ρ (bagOf x) v := by
  cases x with
  | agg l =>
    cases hp : packL l with
    | none => simp only [bagOf, hp]; exact h
    | some c =>
      simp only [bagOf, hp, cblt]
      by_cases g : 0 < lenL l
      · rw [if_pos g]
        obtain ⟨arr, rfl, hr, _⟩ := h
        obtain ⟨h1, h2⟩ := packL_some (ρ := ρ) hp
        refine ⟨?_, by rw [lenL_eq]; exact h1⟩
        rw [lenL_eq, ← h2 hr]
      · rw [if_neg g]
        exact h
  | _ => exact h
theorem zeroT_some {e : Nat} {x : AV} (h : zeroT P e = some x) : ∃ v, (P.info? e).map (·.zero) = some (some v) ∧ ∀ ρ, RV ρ x v := by
  simp only [zeroT, Option.bind_eq_some_iff, Option.some.injEq] at h
  obtain ⟨i, hi, v, hv, y, hy, rfl⟩ := h
  exact ⟨v, by rw [infoT_eq hi]; simp [hv], fun ρ => bagOf_rv (ofV_rv v y hy)⟩
theorem op_alloc {e : Nat} (ho : o.op = .alloc e) (h : oAlloc P s e = some (r, s')) : OpN P o a ρ s r s' := by
  simp only [oAlloc, Option.bind_eq_some_iff] at h
  obtain ⟨x, hx, h⟩ := h
  obtain ⟨row, hrow, rfl, rfl⟩ := retP_some h
  obtain ⟨v, hz, hv⟩ := zeroT_some hx
  refine ⟨row, .ptr, rfl, rfl, fun w => ?_⟩
  obtain ⟨h1, h2, h3⟩ := heap_push w (.cells v.cells e)
  refine ⟨.pointer (some ⟨w.heap.size, 0, none⟩), w.alloc (.cells v.cells e), _, ?_, h3, rfl, rfl, rfl, h1, (rowOf_at hrow (hv ρ) (pad := []) h2 (by simp) rfl (frok0 _) fun _ => rfl), fun ρ' i hi => ⟨_, hi, rfl⟩⟩
  unfold execOp
  rw [ho]
  simp [Instr.alloc, run_zeroValue hz, run_newVar]
/-- A write into a row. -/
theorem writeRow_at {row row' : Row} {k : Nat} {x : AV} (h : writeRow row k x = some row') {v : Value} (hv : RV ρ x v) {p : Pl} (hr : RowAt ρ w p row) :
    row' ≠ .dead ∧ RowAt ρ (w.setCells p.b (p.o + k) v.cells.toList) p row' ∧ (∀ u ∈ v.cells.toList, u.oneCell' = true) ∧ (∀ j, j < v.cells.toList.length → (w.cell? ⟨p.b, p.o + k + j, none⟩).isSome = true) ∧ (∀ j, j < v.cells.toList.length → w.frozen? ⟨p.b, p.o + k + j, none⟩ = false) := by
  have there : ∀ {arr : Array Value} {et : TypeId} {fr : Nat × Nat} {L : Nat}, w.heap[p.b]? = some (.cells arr et fr) → arr.size = p.sz → FrOk fr p.sz → p.o + L ≤ p.sz → ∀ n, k + n ≤ L →
      (∀ j, j < n → (w.cell? ⟨p.b, p.o + k + j, none⟩).isSome = true) ∧ (∀ j, j < n → w.frozen? ⟨p.b, p.o + k + j, none⟩ = false) := fun {arr et fr L} h1 h2 h3 h4 n hn => by
    refine ⟨fun j hj => ?_, fun j hj => ?_⟩
    · rw [cell_of h1, Array.getElem?_eq_getElem (by omega)]
      rfl
    · have := h3.no (p.o + k + j) (by omega)
      obtain ⟨f1, f2⟩ := fr
      simp only [World.frozen?, h1]
      simp only at this
      by_cases hf : f1 ≤ p.o + k + j
      · have : ¬ p.o + k + j < f2 := fun hh => this ⟨hf, hh⟩
        simp [this]
      · simp [hf]
  cases row with
  | cells e m l =>
    obtain ⟨arr, et, fr, h1, h2, h3, h4, h5, h6⟩ := hr
    simp only [writeRow, Option.bind_eq_some_iff, Option.some.injEq] at h
    obtain ⟨y, hy, l', hl', rfl⟩ := h
    obtain ⟨g1, g2, g3⟩ := hv.cel hy
    have hlen := g1.len
    have hset := setL_get hl'
    have hl2 := setL_len hl'
    obtain ⟨_, hfit⟩ := setL_some _ _ _ _ hl'
    obtain ⟨arr', c1, c2, c3, _⟩ := setCells_heap p.b v.cells.toList (p.o + k) w arr et fr h1
    obtain ⟨t1, t2⟩ := there h1 h2 h3 h4 v.cells.toList.length (by omega)
    refine ⟨by rintro ⟨⟩, ⟨arr', et, fr, c1, by rw [c2]; exact h2, h3, by rw [hl2]; exact h4, fun hm => by rw [hl2]; exact h5 hm, fun j z hz => ?_⟩, g3, t1, t2⟩
    rw [hset j] at hz
    rw [c3 (p.o + j)]
    split at hz
    · rename_i hj
      obtain ⟨u, hu, hru⟩ := g1.get hz
      refine ⟨g2 z (List.mem_of_getElem? hz), u, ?_, hru⟩
      rw [if_pos ⟨by omega, by omega, by omega⟩, show p.o + j - (p.o + k) = j - k by omega]
      exact hu
    · rename_i hj
      obtain ⟨q1, u, q2, q3⟩ := h6 j z hz
      refine ⟨q1, u, ?_, q3⟩
      rw [if_neg (by omega)]
      exact q2
  | bytes e m n c =>
    obtain ⟨h0, arr, et, fr, h1, h2, h3, h4, h5, h6⟩ := hr
    have gen : ∀ kk d, putB e m n c k kk d = some row' → d < 2 ^ (8 * kk) → v.cells.toList = (byL kk d).map vU → row' ≠ .dead ∧ RowAt ρ (w.setCells p.b (p.o + k) v.cells.toList) p row' ∧ (∀ u ∈ v.cells.toList, u.oneCell' = true) ∧ (∀ j, j < v.cells.toList.length → (w.cell? ⟨p.b, p.o + k + j, none⟩).isSome = true) ∧ (∀ j, j < v.cells.toList.length → w.frozen? ⟨p.b, p.o + k + j, none⟩ = false) := fun kk d hput hd hcs => by
      rw [putB, cble] at hput
      split at hput
      · rename_i hfit
        have hfit' : k + kk ≤ n := hfit
        injection hput with hput
        subst hput
        have hlen : v.cells.toList.length = kk := by rw [hcs, List.length_map, byL_len]
        obtain ⟨arr', c1, c2, c3, _⟩ := setCells_heap p.b v.cells.toList (p.o + k) w arr et fr h1
        obtain ⟨t1, t2⟩ := there h1 h2 h3 h4 v.cells.toList.length (by omega)
        refine ⟨by rintro ⟨⟩, ⟨bPut_lt hfit' hd, arr', et, fr, c1, by rw [c2]; exact h2, h3, h4, h5, fun j y hy => ?_⟩, fun u hu => ?_, t1, t2⟩
        · rw [byL_put hfit' hd] at hy
          rw [c3 (p.o + j), hlen]
          have e1 : ((byL n c).take k).length = k := by rw [List.length_take, byL_len]; omega
          by_cases hj1 : j < k
          · rw [List.append_assoc, List.getElem?_append_left (by omega), List.getElem?_take, if_pos hj1] at hy
            rw [if_neg (by omega)]
            exact h6 j y hy
          · by_cases hj2 : j < k + kk
            · rw [List.append_assoc, List.getElem?_append_right (by omega), e1, List.getElem?_append_left (by rw [byL_len]; omega)] at hy
              rw [if_pos ⟨by omega, by omega, by omega⟩, show p.o + j - (p.o + k) = j - k by omega, hcs, List.getElem?_map, hy]
              rfl
            · rw [List.getElem?_append_right (by rw [List.length_append, e1, byL_len]; omega), List.length_append, e1, byL_len, List.getElem?_drop, show k + kk + (j - (k + kk)) = j by omega] at hy
              rw [if_neg (by omega)]
              exact h6 j y hy
        · rw [hcs] at hu
          obtain ⟨x, _, rfl⟩ := List.mem_map.1 hu
          rfl
      · cases hput
    cases x with
    | bag kk d =>
      obtain ⟨rfl, hd⟩ := hv
      exact gen kk d h hd (by simp [Value.cells])
    | agg l =>
      simp only [writeRow, Option.bind_eq_some_iff] at h
      obtain ⟨d, hd, h⟩ := h
      obtain ⟨g1, g2⟩ := packL_some (ρ := ρ) hd
      obtain ⟨arr2, rfl, hr2, _⟩ := hv
      rw [lenL_eq] at h
      exact gen l.length d h g1 (g2 hr2)
    | int kd num =>
      cases kd with
      | u8 =>
        cases num with
        | ofNat b =>
          rw [writeRow, cblt] at h
          split at h
          · rename_i hb
            have hve : v = .int .u8 (Int.ofNat b) := hv
            refine gen 1 b h (by omega) ?_
            rw [hve]
            show [Value.int .u8 (Int.ofNat b)] = [vU (UInt8.ofNat (b % 256))]
            unfold vU
            rw [Nat.mod_eq_of_lt hb, UInt8.toNat_ofNat', Nat.mod_eq_of_lt hb]
            rfl
          · cases h
        | negSucc _ => cases h
      | _ => cases h
    | _ => cases h
  | dead => exact hr.elim
theorem storeA_goes {i k : Nat} {x : AV} {s2 : S} (h : storeA s i k x = some s2) {v : Value} (hv : RV ρ x v) (hl : Rel ρ s w) {p : Pl} (hp : ρ i = some p) :
    (storeCells ⟨p.b, p.o + k, none⟩ v.cells.toList).run P w = .ok () (w.setCells p.b (p.o + k) v.cells.toList) ∧ Goes ρ s w ρ s2 (w.setCells p.b (p.o + k) v.cells.toList) := by
  unfold storeA at h
  rw [cblt] at h
  split at h
  · cases h
  rename_i h1000
  simp only [Option.bind_eq_some_iff, Option.some.injEq] at h
  obtain ⟨row, hrow, row', hrow', rfl⟩ := h
  have hnd : row ≠ .dead := by rintro rfl; cases hrow'
  obtain ⟨p', hp', hra⟩ := hl.row i row hrow hnd
  rw [hp] at hp'
  injection hp' with hp'
  subst hp'
  obtain ⟨h1, h2, h3, h4, h5⟩ := writeRow_at hrow' hv hra
  have hst := run_storeCells_cells (P := P) p.b (p.o + k) v.cells.toList 0 w (by simpa using h4) (by simpa using h5) h3
  rw [Nat.add_zero] at hst
  have hc : ∃ arr et fr, w.heap[p.b]? = some (.cells arr et fr) := by
    cases row with
    | cells e m l => obtain ⟨arr, et, fr, h, _⟩ := hra; exact ⟨arr, et, fr, h⟩
    | bytes e m n c => obtain ⟨_, arr, et, fr, h, _⟩ := hra; exact ⟨arr, et, fr, h⟩
    | dead => exact hra.elim
  obtain ⟨arr, et, fr, hb⟩ := hc
  obtain ⟨arr', c1, c2, c3, c4, c5, c6, c7, c8⟩ := setCells_heap p.b v.cells.toList (p.o + k) w arr et fr hb
  exact ⟨hst, goes_put hl (by omega) hrow hnd hp c5 c6 c7 c8 c4 fun _ => h2⟩
theorem RV.cnt {x : AV} {v : Value} (h : RV ρ x v) (hne : x.cel ≠ none) : v.cells.size = x.cnt := by
  cases hc : x.cel with
  | none => exact absurd hc hne
  | some l =>
    have h1 := (h.cel hc).1.len
    rw [← Array.length_toList, ← h1]
    cases x <;> first | (injection hc with hc; subst hc; first | rfl | exact (lenL_eq _).symm | exact bList_len _ _ _) | cases hc
theorem op_store {t : Nat} {x y : Operand} (ho : o.op = .store t x y) (h : oStore P f s t x y = some (r, s')) (hF : FO ρ f a o) (hl : Rel ρ s w) : OpS P o a w ρ s r s' := by
  simp only [oStore, Option.bind_eq_some_iff] at h
  obtain ⟨b, hb, h⟩ := h
  have hc := hF.opd (by rw [ho]; simp [Op.operands]) hb
  cases b with
  | ptr i k =>
    simp only [Option.bind_eq_some_iff] at h
    obtain ⟨v, hv, z, hz, h⟩ := h
    rw [cbeq] at h
    split at h
    · rename_i hcnt
      simp only [Option.bind_eq_some_iff, Option.some.injEq, Prod.mk.injEq] at h
      obtain ⟨s2, hs, rfl, rfl⟩ := h
      have hcv := hF.opd (by rw [ho]; simp [Op.operands]) hv
      obtain ⟨p, hp, he⟩ := hc
      obtain ⟨g1, g2⟩ := storeA_goes (P := P) hs hcv hl hp
      have hcel : v.cel ≠ none := by
        intro e
        have hs := hs
        unfold storeA at hs
        rw [cblt] at hs
        split at hs
        · cases hs
        simp only [Option.bind_eq_some_iff] at hs
        obtain ⟨row, _, row', hrow', _⟩ := hs
        cases v <;> first | cases e | skip
        · cases row <;> simp [writeRow, AV.cel] at hrow'
        · cases row <;> simp [writeRow, AV.cel] at hrow'
      refine ⟨undef, ρ, _, .inr ⟨?_, rfl⟩, rfl, g2⟩
      unfold execOp
      rw [ho]
      have hsz := hcv.cnt hcel
      simp only [he, Instr.storeAt, Instr.sureAddr, storeVar, Sem.run_bind, Sem.run_pure, Result.andThen_ok, Fw.run_sizeOf (sizeT_eq hz)]
      rw [if_neg (by rw [hsz, hcnt]; exact fun h => h rfl)]
      simp only [Sem.run_bind, Sem.run_pure, Result.andThen_ok, g1]
    · cases h
  | _ => cases h
/-! ### Addresses, parts -/
theorem natI_some {x : AV} {n : Nat} (h : natI x = some n) {v : Value} (hv : RV ρ x v) : ∃ k, v = .int k (n : Int) := by
  cases x with
  | int k m =>
    cases m with
    | ofNat m =>
      injection h with h
      subst h
      exact ⟨k, hv⟩
    | negSucc m => cases h
  | _ => cases h
theorem fieldAt_some {t k : Nat} {fd : Field} (h : fieldAt P t k = some fd) : ∃ fs, P.underlying t = some (.struct fs) ∧ fs[k]? = some fd := by
  unfold fieldAt at h
  split at h
  · rename_i fs hu
    exact ⟨fs, undT_eq hu, h⟩
  · cases h
theorem op_fieldAddr {t k : Nat} {x : Operand} (ho : o.op = .fieldAddr t x k) (h : oFieldAddr P f s t x k = some (r, s')) (hF : FO ρ f a o) : OpG P o a ρ s r s' := by
  simp only [oFieldAddr, Option.bind_eq_some_iff] at h
  obtain ⟨b, hb, h⟩ := h
  have hc := hF.opd (by rw [ho]; simp [Op.operands]) hb
  cases b with
  | ptr i j =>
    simp only [Option.bind_eq_some_iff] at h
    obtain ⟨fd, hfd, z, hz, h⟩ := h
    rw [cbeq] at h
    split at h
    · cases h
    · rename_i hz0
      injection h with h
      injection h with h1 h2
      subst h1 h2
      obtain ⟨p, hp, he⟩ := hc
      obtain ⟨fs, hu, hk⟩ := fieldAt_some hfd
      exact OpG.gv (fun w => gv_field ho hu hk rfl (sizeT_eq hz) hz0 he) ⟨p, hp, by rw [Nat.add_assoc]; rfl⟩
  | _ => cases h
theorem op_indexAddr {t : Nat} {x i : Operand} (ho : o.op = .indexAddr t x i) (h : oIndexAddr P f s t x i = some (r, s')) (hF : FO ρ f a o) : OpG P o a ρ s r s' := by
  simp only [oIndexAddr, Option.bind_eq_some_iff] at h
  obtain ⟨b, hb, j, hj, h⟩ := h
  obtain ⟨hv, rfl⟩ := ret1_some h
  have hc := hF.opd (by rw [ho]; simp [Op.operands]) hb
  have hi := hF.opd (by rw [ho]; simp [Op.operands]) hj
  unfold indexAddrA at hv
  cases hn : natI j with
  | none => rw [hn] at hv; cases hv
  | some q =>
    rw [hn] at hv
    obtain ⟨kd, hq⟩ := natI_some hn hi
    simp only at hv
    split at hv
    · rename_i n e i' k hu
      rw [cblt] at hv
      split at hv
      · rename_i hlt
        rw [Option.map_eq_some_iff] at hv
        obtain ⟨z, hz, rfl⟩ := hv
        obtain ⟨p, hp, he⟩ := hc
        refine OpG.gv (v := .pointer (some ⟨p.b, p.o + k + q * z, none⟩)) (fun w => ?_) ⟨p, hp, by rw [Nat.add_assoc]; rfl⟩
        unfold Gv execOp
        rw [ho]
        have h1 : (0 : Int) ≤ (q : Int) ∧ (q : Int) < (n : Int) := ⟨by omega, by omega⟩
        simp [he, hq, Instr.indexAt, asIntOf, run_und (undT_eq hu), Instr.sureAddr, h1, Fw.run_sizeOf (sizeT_eq hz), add_lit]
        exact fun hge => absurd hlt (Nat.not_lt.2 hge)
      · cases hv
    · rename_i e i' k n c hu
      rw [cblt] at hv
      split at hv
      · rename_i hlt
        rw [Option.map_eq_some_iff] at hv
        obtain ⟨z, hz, rfl⟩ := hv
        have hsl : ∃ p c', ρ i' = some p ∧ a.eval x = .slice (some ⟨p.b, p.o + k, none⟩) n c' := by
          cases c with
          | u z =>
            obtain ⟨p, ad, c', hp, he, hnc, hor⟩ := hc
            rcases hor with ⟨rfl, _⟩ | rfl
            · exact ⟨p, c', hp, he⟩
            · omega
          | k c =>
            obtain ⟨p, hp, he, _⟩ := hc
            exact ⟨p, c, hp, he⟩
        obtain ⟨p, c', hp, he⟩ := hsl
        refine OpG.gv (v := .pointer (some ⟨p.b, p.o + k + q * z, none⟩)) (fun w => ?_) ⟨p, hp, by rw [Nat.add_assoc]; rfl⟩
        unfold Gv execOp
        rw [ho]
        have h1 : (0 : Int) ≤ (q : Int) ∧ (q : Int) < (n : Int) := ⟨by omega, by omega⟩
        simp [he, hq, Instr.indexAt, asIntOf, run_und (undT_eq hu), h1, Fw.run_sizeOf (sizeT_eq hz), add_lit]
        exact fun hge => absurd hlt (Nat.not_lt.2 hge)
      · cases hv
    · cases hv
theorem normT_rv {t : Nat} {l : List AV} {x : AV} (h : normT P t l = some x) {vs : List Value} (hr : RVs ρ l vs) (ho : allOne l = true) : RV ρ x (.agg vs.toArray) := by
  unfold normT at h
  cases hB : isB P t with
  | true =>
    rw [hB] at h
    simp only [cond_true, Option.bind_eq_some_iff, Option.some.injEq] at h
    obtain ⟨c, hc, rfl⟩ := h
    obtain ⟨h1, h2⟩ := packL_some (ρ := ρ) hc
    rw [lenL_eq]
    exact ⟨by rw [h2 hr], h1⟩
  | false =>
    rw [hB] at h
    injection h with h
    subst h
    exact ⟨_, rfl, hr, ho⟩
theorem partA_run {t k : Nat} {x y : AV} (h : partA P t x k = some y) {v : Value} (hv : RV ρ x v) : ∃ cs u, v = .agg cs ∧ (∀ w, (part t cs k).run P w = .ok u w) ∧ RV ρ y u := by
  unfold partA at h
  cases x with
  | bag n c =>
    obtain ⟨rfl, hc⟩ := hv
    simp only [Option.bind_eq_some_iff] at h
    obtain ⟨A, hA, h⟩ := h
    simp only [isAggT, Option.bind_eq_some_iff] at hA
    obtain ⟨d, hd, hA⟩ := hA
    cases A with
    | true =>
      simp only [cond_true, Option.bind_eq_some_iff] at h
      obtain ⟨z, hz, h⟩ := h
      rw [cble] at h
      split at h
      · rename_i hfit
        have hfit' : k + z ≤ n := hfit
        injection h with h
        subst h
        refine ⟨_, .agg ((((byL n c).map vU).toArray).extract k (k + z)), rfl, fun w => ?_, ?_⟩
        · have hagg : (isAgg t).run P w = .ok true w := by
            unfold isAgg
            simp only [Sem.run_bind, run_und (undT_eq hd), Result.andThen_ok]
            cases d <;> first | rfl | cases hA
          simp [part, hagg, Fw.run_sizeOf (sizeT_eq hz)]
        · refine ⟨?_, bSub_lt c k z⟩
          rw [byL_sub hfit']
          simp [List.map_take, List.map_drop]
      · cases h
    | false =>
      rw [cond_false, cblt] at h
      split at h
      · rename_i hlt
        injection h with h
        subst h
        refine ⟨_, vU (UInt8.ofNat (bAt c k)), rfl, fun w => ?_, RV.u8⟩
        have hagg : (isAgg t).run P w = .ok false w := by
          unfold isAgg
          simp only [Sem.run_bind, run_und (undT_eq hd), Result.andThen_ok]
          cases d <;> first | rfl | cases hA
        have hg := byL_get n c k hlt
        simp [part, hagg, hg]
      · cases h
  | agg l =>
    obtain ⟨cs, rfl, hr, hone⟩ := hv
    simp only [Option.bind_eq_some_iff] at h
    obtain ⟨A, hA, h⟩ := h
    simp only [isAggT, Option.bind_eq_some_iff] at hA
    obtain ⟨d, hd, hA⟩ := hA
    cases A with
    | true =>
      simp only [cond_true, Option.bind_eq_some_iff] at h
      obtain ⟨z, hz, q, hq, h⟩ := h
      rw [dropL_eq] at hq
      obtain ⟨rfl, hlen⟩ := takeL_some _ _ _ hq
      refine ⟨cs, .agg (cs.extract k (k + z)), rfl, fun w => ?_, ?_⟩
      · have hagg : (isAgg t).run P w = .ok true w := by
          unfold isAgg
          simp only [Sem.run_bind, run_und (undT_eq hd), Result.andThen_ok]
          cases d <;> first | rfl | cases hA
        simp [part, hagg, Fw.run_sizeOf (sizeT_eq hz)]
      · have := normT_rv h ((hr.drop k).take z) (allOne_of fun x hx => allOne_mem hone x (List.mem_of_mem_drop (List.mem_of_mem_take hx)))
        have e : ((cs.toList.drop k).take z).toArray = cs.extract k (k + z) := by
          apply Array.ext'
          simp [Array.toList_extract, List.extract_eq_take_drop]
        rw [e] at this
        exact this
    | false =>
      rw [cond_false, nth_eq] at h
      obtain ⟨u, hu, hru⟩ := hr.get h
      refine ⟨cs, u, rfl, fun w => ?_, hru⟩
      have hagg : (isAgg t).run P w = .ok false w := by
        unfold isAgg
        simp only [Sem.run_bind, run_und (undT_eq hd), Result.andThen_ok]
        cases d <;> first | rfl | cases hA
      have hu' : cs[k]? = some u := by rw [← Array.getElem?_toList]; exact hu
      simp [part, hagg, hu']
  | _ => cases h
theorem op_field {t k : Nat} {x : Operand} (ho : o.op = .field t x k) (h : oField P f s t x k = some (r, s')) (hF : FO ρ f a o) : OpG P o a ρ s r s' := by
  simp only [oField, Option.bind_eq_some_iff] at h
  obtain ⟨b, hb, fd, hfd, h⟩ := h
  obtain ⟨hv, rfl⟩ := ret1_some h
  obtain ⟨fs, hu, hk⟩ := fieldAt_some hfd
  obtain ⟨cs, u, he, hrun, hru⟩ := partA_run hv (hF.opd (by rw [ho]; simp [Op.operands]) hb)
  refine OpG.gv (fun w => ?_) hru
  unfold Gv execOp
  rw [ho]
  simp [he, Instr.field, run_und hu, hk, asAgg, hrun]
theorem op_index {t : Nat} {x i : Operand} (ho : o.op = .index t x i) (h : oIndex P f s t x i = some (r, s')) (hF : FO ρ f a o) : OpG P o a ρ s r s' := by
  simp only [oIndex, Option.bind_eq_some_iff] at h
  obtain ⟨b, hb, j, hj, h⟩ := h
  obtain ⟨hv, rfl⟩ := ret1_some h
  have hc := hF.opd (by rw [ho]; simp [Op.operands]) hb
  have hi := hF.opd (by rw [ho]; simp [Op.operands]) hj
  unfold indexA at hv
  cases hn : natI j with
  | none => rw [hn] at hv; cases hv
  | some q =>
    rw [hn] at hv
    obtain ⟨kd, hq⟩ := natI_some hn hi
    simp only at hv
    split at hv
    · rename_i n e hu
      rw [cblt] at hv
      split at hv
      · rename_i hlt
        simp only [Option.bind_eq_some_iff] at hv
        obtain ⟨z, hz, hv⟩ := hv
        obtain ⟨cs, u, he, hrun, hru⟩ := partA_run hv hc
        refine OpG.gv (fun w => ?_) hru
        unfold Gv execOp
        rw [ho]
        have h1 : (0 : Int) ≤ (q : Int) ∧ (q : Int) < (n : Int) := ⟨by omega, by omega⟩
        simp only [he, hq, Instr.index, asIntOf, Sem.run_bind, Sem.run_pure, Result.andThen_ok, run_und (undT_eq hu), if_pos h1, Fw.run_sizeOf (sizeT_eq hz)]
        rw [show (Int.toNat (q : Int)) = q by simp]
        have := hrun w
        rw [show Nat.mul q z = q * z from rfl] at this
        simp [this]
      · cases hv
    · rename_i n c hu
      rw [cblt] at hv
      split at hv
      · rename_i hlt
        injection hv with hv
        subst hv
        obtain ⟨str, he, hs, hb⟩ := hc
        have hsz : str.size = n := by
          show str.data.size = n
          rw [← Array.length_toList, hs, byL_len]
        have hg := byL_get n c q hlt
        refine OpG.gv (v := vU (UInt8.ofNat (bAt c q))) (fun w => ?_) RV.u8
        unfold Gv execOp
        rw [ho]
        have hat : str[q]? = some (UInt8.ofNat (bAt c q)) := by
          rw [← hs] at hg
          have hq' : q < str.size := by omega
          rw [getElem?_pos str q hq']
          rw [List.getElem?_eq_getElem (by simpa using hq')] at hg
          injection hg with hg
          rw [← hg]
          rfl
        simp [he, hq, Instr.index, asIntOf, run_und (undT_eq hu), hat, vU]
      · cases hv
    · cases hv
theorem op_makeFunc {fn : Fn} {xs ys : Array Operand} (ho : o.op = .makeFunc fn xs ys) (h : oMakeFunc f s fn xs ys = some (r, s')) (hF : FO ρ f a o) : OpG P o a ρ s r s' := by
  unfold oMakeFunc at h
  cases fn with
  | func k =>
    simp only [Option.bind_eq_some_iff, Option.some.injEq, Prod.mk.injEq] at h
    obtain ⟨l, hl1, m, hm, rfl, rfl⟩ := h
    refine OpG.gv (v := .func (.func k) (xs.map a.eval) (ys.map a.eval)) (fun w => ?_) ⟨_, _, rfl, ?_, ?_⟩
    · unfold Gv execOp
      rw [ho]
      simp [Instr.makeFunc]
    · rw [Array.toList_map]; exact opds_rv (fun x hx v hv => hF.opd (by rw [ho]; simp [Op.operands]; exact .inl (by simpa using hx)) hv) hl1
    · rw [Array.toList_map]; exact opds_rv (fun x hx v hv => hF.opd (by rw [ho]; simp [Op.operands]; exact .inr (by simpa using hx)) hv) hm
  | _ => cases h
end
end Go.Ev
