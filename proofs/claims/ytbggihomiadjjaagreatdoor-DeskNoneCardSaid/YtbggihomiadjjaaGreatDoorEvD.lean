/- What is proved: a region that draws its order comes to what the evaluator says of it. -/
import Derived.Test.YtbggihomiadjjaaGreatDoorEvTr
set_option linter.unusedVariables false
set_option linter.unusedSimpArgs false
namespace Go.Ev
open Go Go.Fw

section
variable {P : Program} {call : Nat → List AV → S → R} {Nt : Nat} {ops : Array Oper} {Q : Exit → Act → World → Prop}
theorem nkOf_av (k : NK) (i : Nat) : nkOf (k.av i) = some k := by cases k <;> rfl
theorem newO_run {f : F} {o : Oper} {row : Row} {k : NK} (h : newO P f o.op = some (row, k)) (hk : kindO P o.op = .new) {ρ : Rho} {a : Act} (hF : FO ρ f a o) (w : World) : NewS P o a w ρ row k := by
  simp only [newO, Option.bind_eq_some_iff, Option.some.injEq, Prod.mk.injEq] at h
  obtain ⟨⟨r, s'⟩, hr, row', hrow, k', hk', rfl, rfl⟩ := h
  obtain ⟨row2, k2, e1, e2, hw⟩ := opA_new hr hk hF
  have hrow : s'.h.get 0 = some row' := hrow
  have hk' : nkOf r = some k' := hk'
  rw [e2] at hrow
  rw [e1, nkOf_av] at hk'
  injection hk' with hk'
  subst hk'
  have : some row2 = some row' := hrow
  injection this with this
  subst this
  exact hw w
theorem load_nx {f : F} {o : Op} {h : T Row} {n n' : Nat} {r : AV} {s' : S} (hk : kindO P o = .load) (hr : opA P f ⟨h, n⟩ o = some (r, s')) : ∃ s2, opA P f ⟨h, n'⟩ o = some (r, s2) := by
  cases o with
  | load t x =>
    have hr' : oLoad P f ⟨h, n⟩ t x = some (r, s') := hr
    show ∃ s2, oLoad P f ⟨h, n'⟩ t x = some (r, s2)
    simp only [oLoad, Option.bind_eq_some_iff] at hr' ⊢
    obtain ⟨v, hv, hr'⟩ := hr'
    cases v with
    | ptr i o =>
      obtain ⟨g, _⟩ := ret1_some hr'
      have g' : loadA P ⟨h, n'⟩ t i o = some r := g
      exact ⟨⟨h, n'⟩, .ptr i o, hv, by simp only [g']; rfl⟩
    | _ => cases hr'
  | convert p q x => simp only [kindO] at hk; cases hc : quietC P p q <;> rw [hc] at hk <;> cases hk
  | call c =>
    simp only [kindO] at hk
    cases hc : c.callee with
    | builtin b =>
      rw [hc] at hk
      simp only at hk
      cases hb : quietB b <;> rw [hb] at hk <;> cases hk
    | _ => rw [hc] at hk; cases hk
  | _ => cases hk
theorem want_run {f : F} {o : Oper} {wt : Bool} {a : Act} {ρ : Rho} (h : wantA ops.toList f o.guard = some wt) (hlk : ∀ t ∈ o.looksAt ops, ∀ v, f.get t = some v → RV ρ v (slot a t)) : Region.wanted o (yielded ops a.tmps) = wt := by
  unfold Region.wanted
  cases hg : o.guard with
  | none =>
    rw [hg] at h
    injection h
  | some g =>
    obtain ⟨j, b⟩ := g
    rw [hg] at h
    simp only [wantA, Option.bind_eq_some_iff] at h
    obtain ⟨d, hd, h⟩ := h
    rw [dstAt_eq, Array.getElem?_toList] at hd
    have hmem : d ∈ o.looksAt ops := List.mem_append.2 (.inr (by simp [hg, hd]))
    simp only
    cases hv : f.get d with
    | none => rw [hv] at h; cases h
    | some v =>
      have hr := hlk d hmem v hv
      rw [hv] at h
      have hy : ∀ u, slot a d = u → u ≠ undef → a.tmps[d]? = some u := fun u hu hne => by
        simp only [slot, Array.getD_eq_getD_getElem?] at hu
        cases ht : a.tmps[d]? with
        | none => rw [ht] at hu; exact absurd hu.symm hne
        | some x => rw [ht] at hu; simp only [Option.getD_some] at hu; rw [hu]
      cases v with
      | bool c =>
        have e : slot a d = .bool c := hr
        have hy' : yielded ops a.tmps j = some c := by
          unfold yielded
          rw [hd, Option.bind_some, hy _ e (by simp [undef])]
        injection h with h
        rw [hy', ← h]
        cases b <;> cases c <;> rfl
      | undef =>
        injection h with h
        subst h
        have e : slot a d = undef := hr
        have hy' : yielded ops a.tmps j = none := by
          unfold yielded
          rw [hd, Option.bind_some]
          cases ht : a.tmps[d]? with
          | none => rfl
          | some x =>
            simp only [slot, Array.getD_eq_getD_getElem?, ht, Option.getD_some] at e
            subst e
            simp [undef]
        rw [hy']
        rfl
      | _ => cases h

variable {f f' : F} {s s' : S}
def kdAt (rs : List Rc) (i : Nat) : Kd := match rs[i]? with
  | some r => r.k
  | none => .quiet
def avAt (rs : List Rc) (i : Nat) : AV := match rs[i]? with
  | some r => r.av
  | none => .undef
def wtAt (rs : List Rc) (i : Nat) : Bool := match rs[i]? with
  | some r => r.wt
  | none => true
/-- What the evaluator's record tells. -/
theorem tr_of (hlo : 1000 ≤ s.nx) (hc : CallS P call) {rs : List Rc} {e : Fin3} {n0 : Nat} (hreg : regB Nt ops.toList = true) (hn0 : s.nx ≤ n0) (hrun : runD P call Nt ops.toList (zipM ops.toList (masks ops.toList)) 0 f ⟨s.h, n0⟩ s.nx [] = some (rs, e)) (hnf : e.2.2.1 ≤ n0)
    (hch : chainE (effsL e.2.1.h rs 0) = true) (hld : loadsB P (effsL e.2.1.h rs 0) s.h rs 0 = true) :
    Tr P ops Nt s (fun i => (stAt rs e i).1) (fun i => (stAt rs e i).2.1.h) (fun i => (stAt rs e i).2.1.nx) (fun i => (stAt rs e i).2.2.1) (fun i => avAt rs i) (fun i => kdAt rs i) (fun i => wtAt rs i) (mgA e.2.2.2 e.2.1.h) := by
  have rok := regB_spec hreg
  obtain ⟨r0, rlen, rst⟩ := runD_spec _ _ _ _ _ _ _ _ hrun
  have hsz : rs.length = ops.size := by rw [rlen, zipM_len _ _ (masks_len _), Array.length_toList]
  have hmask : ∀ (i : Nat) (r : Rc), rs[i]? = some r → ops[i]? = some r.o ∧ ∀ j, bit r.m j = true ↔ Wp ops i j := fun i r hr => by
    obtain ⟨h1, h2⟩ := zipM_get (rst i r hr).1
    rw [Array.getElem?_toList] at h1
    exact ⟨h1, fun j => masks_spec rok.back h2 j⟩
  have hrec : ∀ i, i < ops.size → ∃ r, rs[i]? = some r := fun i hi => ⟨_, List.getElem?_eq_getElem (by rw [hsz]; exact hi)⟩
  have hst : ∀ (i : Nat) (r : Rc), rs[i]? = some r → stAt rs e i = (r.f, r.s, r.nf, r.pd) := fun i r hr => by unfold stAt; rw [hr]
  have hstep : ∀ (i : Nat) (r : Rc), rs[i]? = some r → StR P call Nt ops.toList i r (stAt rs e (i + 1)) := fun i r hr => by
    have := (rst i r hr).2
    rwa [Nat.zero_add] at this
  have hro : ∀ (i : Nat) (o : Oper), ops[i]? = some o → ∃ r : Rc, rs[i]? = some r ∧ r.o = o := fun i o ho => by
    obtain ⟨r, hr⟩ := hrec i (at_size ho)
    have := (hmask i r hr).1
    rw [ho] at this
    injection this with this
    exact ⟨r, hr, this.symm⟩
  have hend : stAt rs e ops.size = e := by unfold stAt; rw [List.getElem?_eq_none (by omega)]
  -- the numbers of rows
  have fstep : ∀ i, i < ops.size → (stAt rs e i).2.2.1 ≤ (stAt rs e (i + 1)).2.2.1 := fun i hi => by
    obtain ⟨r, hr⟩ := hrec i hi
    rw [hst i r hr]
    rcases (hstep i r hr).alt with ⟨_, _, _, h⟩ | ⟨_, ⟨_, _, _, h⟩ | ⟨_, _, h⟩ | ⟨row, k, _, _, _, _, h⟩ | ⟨_, s', _, _, h⟩⟩ <;> rw [h] <;> simp
  have fmono : ∀ i k, i + k ≤ ops.size → (stAt rs e i).2.2.1 ≤ (stAt rs e (i + k)).2.2.1 := fun i k => by
    induction k with
    | zero => exact fun _ => Nat.le_refl _
    | succ k ih => exact fun h => Nat.le_trans (ih (by omega)) (fstep (i + k) (by omega))
  have fnew : ∀ i, i < ops.size → (kdAt rs i).isNew → (stAt rs e (i + 1)).2.2.1 = (stAt rs e i).2.2.1 + 1 := fun i hi hk => by
    obtain ⟨r, hr⟩ := hrec i hi
    have hk : (kdAt rs i).isNew := hk
    rw [show kdAt rs i = r.k by unfold kdAt; rw [hr]] at hk
    rw [hst i r hr]
    rcases (hstep i r hr).alt with ⟨_, hq, _, h⟩ | ⟨_, ⟨hq, _, _, h⟩ | ⟨hq, _, h⟩ | ⟨row, k, hq, _, _, _, h⟩ | ⟨hq, s', _, _, h⟩⟩
    · rw [hq] at hk; exact hk.elim
    · rw [hq] at hk; exact hk.elim
    · rw [hq] at hk; exact hk.elim
    · rw [h]
    · rw [hq] at hk; exact hk.elim
  have f0 : (stAt rs e 0).2.2.1 = s.nx := by rw [r0]
  have N0 : (stAt rs e 0).2.1.nx = n0 := by rw [r0]
  have H0 : (stAt rs e 0).2.1.h = s.h := by rw [r0]
  have kAt : ∀ (i : Nat) (r : Rc), rs[i]? = some r → kdAt rs i = r.k := fun i r hr => by unfold kdAt; rw [hr]
  have aAt : ∀ (i : Nat) (r : Rc), rs[i]? = some r → avAt rs i = r.av := fun i r hr => by unfold avAt; rw [hr]
  have wAt : ∀ (i : Nat) (r : Rc), rs[i]? = some r → wtAt rs i = r.wt := fun i r hr => by unfold wtAt; rw [hr]
  have effLt : ∀ c, (kdAt rs c).isEff → ∃ r, rs[c]? = some r ∧ r.k.isEff := fun c hc => by
    unfold kdAt at hc
    cases hr : rs[c]? with
    | none => rw [hr] at hc; exact hc.elim
    | some r => rw [hr] at hc; exact ⟨r, rfl, hc⟩
  -- rows that wait
  have pdI : ∀ i, i ≤ ops.size → ∀ j id row, (j, (id, row)) ∈ (stAt rs e i).2.2.2 → j < i ∧ ∃ k, kdAt rs j = .new row k ∧ (stAt rs e j).2.2.1 = id ∧ ∀ c, c < i → (kdAt rs c).isEff → ¬ Wp ops c j := fun i => by
    induction i with
    | zero =>
      intro _ j id row hm
      rw [r0] at hm
      cases hm
    | succ i ih =>
      intro hi j id row hm
      obtain ⟨r, hr⟩ := hrec i (by omega)
      have ih' := ih (by omega)
      rw [hst i r hr] at ih'
      have keep : ∀ j id row, (j, (id, row)) ∈ r.pd → (r.k.isEff → bit r.m j = false) → j < i + 1 ∧ ∃ k, kdAt rs j = .new row k ∧ (stAt rs e j).2.2.1 = id ∧ ∀ c, c < i + 1 → (kdAt rs c).isEff → ¬ Wp ops c j := fun j id row hm hb => by
        obtain ⟨h1, k, h2, h3, h4⟩ := ih' j id row hm
        refine ⟨by omega, k, h2, h3, fun c hc hk hw => ?_⟩
        rcases Nat.lt_succ_iff_lt_or_eq.1 hc with hc | rfl
        · exact h4 c hc hk hw
        · rw [kAt _ r hr] at hk
          have := hb hk
          rw [((hmask _ r hr).2 j).2 hw] at this
          cases this
      rcases (hstep i r hr).alt with ⟨_, hq, _, h⟩ | ⟨_, ⟨hq, _, _, h⟩ | ⟨hq, _, h⟩ | ⟨row', k, hq, _, _, _, h⟩ | ⟨hq, s', _, _, h⟩⟩
      · rw [h] at hm; exact keep j id row hm (by rw [hq]; exact fun h => h.elim)
      · rw [h] at hm; exact keep j id row hm (by rw [hq]; exact fun h => h.elim)
      · rw [h] at hm; exact keep j id row hm (by rw [hq]; exact fun h => h.elim)
      · rw [h] at hm
        rcases List.mem_cons.1 hm with hm | hm
        · simp only [Prod.mk.injEq] at hm
          obtain ⟨rfl, rfl, rfl⟩ := hm
          refine ⟨Nat.lt_succ_self _, k, by rw [kAt _ r hr]; exact hq, by rw [hst _ r hr], fun c hc hk hw => ?_⟩
          have := hw.lt rok
          have hcj : c = j := by omega
          subst hcj
          rw [kAt _ r hr, hq] at hk
          exact hk
        · exact keep j id row hm (by rw [hq]; exact fun h => h.elim)
      · rw [h] at hm
        obtain ⟨h1, h2⟩ := mgP_mem hm
        exact keep j id row h1 fun _ => h2
  refine ⟨rok, by rw [N0]; exact hn0, H0, fun i hi => ?_, fun i hi hk => ⟨?_, ?_⟩, fun i j hi hj hki hkj hf => ?_, fun i o t v ho hg => ?_, fun i o ρ a ho _ hlk => ?_, fun i o ho hw => ?_, fun i hi hk => ?_, fun i o ho hk hw ρ a hF => ?_, fun i o ho hk κ ρ a w hκ hκn h1 h2 hF hl => ?_, fun i o row k ho hk => ?_, fun c d hcd hd hkc hkd => ?_, fun i o Hm ho hk ρ a w hF hl => ?_, fun c Hm hc hk i r hg hnd => ?_, fun c Hm hc hk g hg => ?_, fun g hg => ?_, fun i r hg hnd => ?_⟩
  · obtain ⟨r, hr⟩ := hrec i hi
    show (stAt rs e i).2.1.nx ≤ (stAt rs e (i + 1)).2.1.nx
    rw [hst i r hr]
    rcases (hstep i r hr).alt with ⟨_, _, _, h⟩ | ⟨_, ⟨_, _, _, h⟩ | ⟨_, _, h⟩ | ⟨row, k, _, _, _, _, h⟩ | ⟨_, s', _, h', h⟩⟩ <;> rw [h] <;> first | exact Nat.le_refl _ | exact h'
  · have := fmono 0 i (by omega)
    rw [f0, Nat.zero_add] at this
    exact this
  · have h1 := fnew i hi hk
    have h2 := fmono (i + 1) (ops.size - (i + 1)) (by omega)
    rw [show i + 1 + (ops.size - (i + 1)) = ops.size by omega, hend, h1] at h2
    show (stAt rs e i).2.2.1 < (stAt rs e 0).2.1.nx
    rw [N0]
    omega
  · have key : ∀ i j, i < ops.size → j < ops.size → (kdAt rs i).isNew → i < j → (stAt rs e i).2.2.1 < (stAt rs e j).2.2.1 := fun i j hi hj hk hij => by
      have h1 := fnew i hi hk
      have h2 := fmono (i + 1) (j - (i + 1)) (by omega)
      rw [show i + 1 + (j - (i + 1)) = j by omega, h1] at h2
      omega
    rcases Nat.lt_trichotomy i j with hij | hij | hij
    · exact absurd hf (Nat.ne_of_lt (key i j hi hj hki hij))
    · exact hij
    · exact absurd hf.symm (Nat.ne_of_lt (key j i hj hi hkj hij))
  · obtain ⟨r, hr, rfl⟩ := hro i o ho
    have hput := (hstep i r hr).put
    simp only [hst i r hr, aAt i r hr]
    have hg' : (stAt rs e (i + 1)).1.get t = some v := hg
    cases hd : r.o.dst with
    | none =>
      rw [hd] at hput
      injection hput with hput
      rw [← hput] at hg'
      exact .inr ⟨by simp, hg'⟩
    | some d =>
      rw [hd, putD, cblt] at hput
      split at hput
      · injection hput with hput
        rw [← hput] at hg'
        rcases T.get_set hg' with ⟨rfl, rfl⟩ | ⟨hne, hg'⟩
        · exact .inl ⟨rfl, rfl⟩
        · exact .inr ⟨fun e => hne (Option.some.inj e).symm, hg'⟩
      · cases hput
  · obtain ⟨r, hr, rfl⟩ := hro i o ho
    simp only [hst i r hr] at hlk
    rw [wAt i r hr]
    exact want_run (hstep i r hr).want hlk
  · obtain ⟨r, hr, rfl⟩ := hro i o ho
    have hw : wtAt rs i = false := hw
    rw [wAt i r hr] at hw
    show kdAt rs i = .quiet ∧ avAt rs i = .undef
    rw [kAt i r hr, aAt i r hr]
    rcases (hstep i r hr).alt with ⟨_, h1, h2, _⟩ | ⟨h1, _⟩
    · exact ⟨h1, h2⟩
    · rw [hw] at h1; cases h1
  · obtain ⟨r, hr⟩ := hrec i hi
    have hk : ¬ (kdAt rs i).isEff := hk
    rw [kAt i r hr] at hk
    show (stAt rs e (i + 1)).2.1.h = (stAt rs e i).2.1.h ∧ (stAt rs e (i + 1)).2.1.nx = (stAt rs e i).2.1.nx
    rw [hst i r hr]
    rcases (hstep i r hr).alt with ⟨_, _, _, h⟩ | ⟨_, ⟨_, _, _, h⟩ | ⟨_, _, h⟩ | ⟨row, k, _, _, _, _, h⟩ | ⟨hq, s', _, h', h⟩⟩
    · rw [h]; exact ⟨rfl, rfl⟩
    · rw [h]; exact ⟨rfl, rfl⟩
    · rw [h]; exact ⟨rfl, rfl⟩
    · rw [h]; exact ⟨rfl, rfl⟩
    · rw [hq] at hk; exact absurd trivial hk
  · obtain ⟨r, hr, rfl⟩ := hro i o ho
    have hk : kdAt rs i = .quiet := hk
    have hw : wtAt rs i = true := hw
    rw [kAt i r hr] at hk
    rw [wAt i r hr] at hw
    simp only [hst i r hr] at hF
    rw [aAt i r hr]
    rcases (hstep i r hr).alt with ⟨h1, _⟩ | ⟨_, ⟨_, h1, ⟨z, h2⟩, _⟩ | ⟨h1, _⟩ | ⟨row, k, h1, _⟩ | ⟨h1, _⟩⟩
    · rw [hw] at h1; cases h1
    · obtain ⟨_, v, g1, g2⟩ := opA_quiet h2 h1 hF
      exact ⟨v, g1, g2⟩
    · rw [hk] at h1; cases h1
    · rw [hk] at h1; cases h1
    · rw [hk] at h1; cases h1
  · obtain ⟨r, hr, rfl⟩ := hro i o ho
    have hk : kdAt rs i = .load := hk
    rw [kAt i r hr] at hk
    simp only [hst i r hr] at hF
    rw [aAt i r hr]
    have hkind : kindO P r.o.op = .load := by
      rcases (hstep i r hr).alt with ⟨_, h1, _⟩ | ⟨_, ⟨h1, _⟩ | ⟨_, h1, _⟩ | ⟨row, k, h1, _⟩ | ⟨h1, _⟩⟩
      · rw [hk] at h1; cases h1
      · rw [hk] at h1; cases h1
      · exact h1
      · rw [hk] at h1; cases h1
      · rw [hk] at h1; cases h1
    obtain ⟨l1, l2⟩ := loadsB_spec hld hr hk
    rw [Nat.zero_add] at l1 l2
    have hadm : admB i r.m κ (effsL e.2.1.h rs 0) = true := admB_of (fun x hx hb => by
      obtain ⟨j, r', e1, e2, e3, e4⟩ := effsL_of hx
      rw [Nat.zero_add] at e1
      rw [e1] at hb ⊢
      exact h1 j (by rw [← hsz]; exact (List.getElem?_eq_some_iff.1 e2).1) (by rw [kAt j r' e2]; exact e3) (((hmask i r hr).2 j).1 hb)) (fun x hx hlt => by
      obtain ⟨j, r', e1, e2, e3, e4⟩ := effsL_of hx
      rw [Nat.zero_add] at e1
      rw [e1] at hlt
      rw [e4]
      have hno := h2 j (by rw [kAt j r' e2]; exact e3) hlt
      cases hb : bit r'.m i with
      | false => rfl
      | true => exact absurd (((hmask j r' e2).2 i).1 hb) hno)
    have hload : load1 P r ((stAt rs e κ).2.1.h) = true := by
      rcases hκ with rfl | ⟨c, rfl, hc⟩
      · rw [H0]; exact l1 hadm
      · obtain ⟨r', e2, e3⟩ := effLt c hc
        have hm := effsL_mem (e := e.2.1.h) e3 rs 0 c e2
        rw [Nat.zero_add, nextH_eq] at hm
        exact loadE_mem l2 _ hm hadm
    unfold load1 at hload
    split at hload
    · rename_i v z hv
      have ev := eqAV_eq hload
      subst ev
      obtain ⟨s2, hs2⟩ := load_nx (n' := (stAt rs e κ).2.1.nx) hkind hv
      exact (opA_load hs2 hkind hF hl).2
    · cases hload
  · obtain ⟨r, hr, rfl⟩ := hro i o ho
    have hk : kdAt rs i = .new row k := hk
    rw [kAt i r hr] at hk
    show avAt rs i = k.av (stAt rs e i).2.2.1 ∧ ∀ ρ a, FO ρ (stAt rs e i).1 a r.o → ∀ w, NewS P r.o a w ρ row k
    rw [aAt i r hr, hst i r hr]
    rcases (hstep i r hr).alt with ⟨_, h1, _⟩ | ⟨_, ⟨h1, _⟩ | ⟨h1, _⟩ | ⟨row', k', h1, h2, h3, h4, _⟩ | ⟨h1, _⟩⟩
    · rw [hk] at h1; cases h1
    · rw [hk] at h1; cases h1
    · rw [hk] at h1; cases h1
    · rw [hk] at h1
      injection h1 with e1 e2
      subst e1 e2
      exact ⟨h4, fun ρ a hF w => newO_run h3 h2 hF w⟩
    · rw [hk] at h1; cases h1
  · obtain ⟨r, hr, h1⟩ := effLt c hkc
    obtain ⟨r', hr', h2⟩ := effLt d hkd
    have := chainE_spec hch hcd hr hr' h1 h2
    rw [Nat.zero_add] at this
    exact ((hmask d r' hr').2 c).1 this
  · obtain ⟨r, hr, rfl⟩ := hro i o ho
    have hk : kdAt rs i = .eff Hm := hk
    rw [kAt i r hr] at hk
    simp only [hst i r hr] at hF hl
    simp only [aAt i r hr, hst i r hr]
    rcases (hstep i r hr).alt with ⟨_, h1, _⟩ | ⟨_, ⟨h1, _⟩ | ⟨h1, _⟩ | ⟨row', k', h1, _⟩ | ⟨h1, s2, h2, h3, h4⟩⟩
    · rw [hk] at h1; cases h1
    · rw [hk] at h1; cases h1
    · rw [hk] at h1; cases h1
    · rw [hk] at h1; cases h1
    · rw [hk] at h1
      injection h1 with e1
      subst e1
      have := opR_effW hc h2 hF hl
      rw [h4]
      exact this
  · obtain ⟨r', hr⟩ := hrec c hc
    have hk : kdAt rs c = .eff Hm := hk
    rw [kAt c r' hr] at hk
    have hHm : Hm = mgH r'.m r'.pd r'.s.h := by
      rcases (hstep c r' hr).alt with ⟨_, h1, _⟩ | ⟨_, ⟨h1, _⟩ | ⟨h1, _⟩ | ⟨row', k', h1, _⟩ | ⟨h1, s2, h2, h3, h4⟩⟩
      · rw [hk] at h1; cases h1
      · rw [hk] at h1; cases h1
      · rw [hk] at h1; cases h1
      · rw [hk] at h1; cases h1
      · rw [hk] at h1
        injection h1
    rw [hHm] at hg
    have hp := pdI c (Nat.le_of_lt hc)
    simp only [hst c r' hr] at hp ⊢
    rcases mgH_spec hg with g | ⟨j, g1, g2⟩
    · exact .inl g
    · obtain ⟨p1, k, p2, p3, p4⟩ := hp j i r g1
      exact .inr ⟨j, k, p1, p2, ((hmask c r' hr).2 j).1 g2, p4, p3⟩
  · obtain ⟨r', hr⟩ := hrec c hc
    have hk : kdAt rs c = .eff Hm := hk
    rw [kAt c r' hr] at hk
    have hHm : Hm = mgH r'.m r'.pd r'.s.h := by
      rcases (hstep c r' hr).alt with ⟨_, h1, _⟩ | ⟨_, ⟨h1, _⟩ | ⟨h1, _⟩ | ⟨row', k', h1, _⟩ | ⟨h1, s2, h2, h3, h4⟩⟩
      · rw [hk] at h1; cases h1
      · rw [hk] at h1; cases h1
      · rw [hk] at h1; cases h1
      · rw [hk] at h1; cases h1
      · rw [hk] at h1
        injection h1
    have hp := pdI c (Nat.le_of_lt hc)
    simp only [hst c r' hr] at hp ⊢
    rw [hHm]
    exact mgH_ne fun j id row hm => by
      obtain ⟨p1, k, p2, p3, p4⟩ := hp j id row hm
      have := fmono 0 j (by omega)
      rw [f0, Nat.zero_add] at this
      omega
  · have hp := pdI ops.size (Nat.le_refl _)
    rw [hend] at hp
    show (mgA e.2.2.2 e.2.1.h).get g = (stAt rs e ops.size).2.1.h.get g
    rw [hend]
    exact mgA_ne fun j id row hm => by
      obtain ⟨p1, k, p2, p3, p4⟩ := hp j id row hm
      have := fmono 0 j (by omega)
      rw [f0, Nat.zero_add] at this
      omega
  · have hp := pdI ops.size (Nat.le_refl _)
    rw [hend] at hp
    show (stAt rs e ops.size).2.1.h.get i = some r ∨ _
    rw [hend]
    rcases mgA_spec hg with g | ⟨j, g1⟩
    · exact .inl g
    · obtain ⟨p1, k, p2, p3, p4⟩ := hp j i r g1
      exact .inr ⟨j, k, p1, p2, p4, p3⟩
/-- **A region that draws its order.** -/
theorem seqD_run (hc : CallS P call) (h : seqD P call Nt ops.toList f s = some (f', s')) {ρ : Rho} {a : Act} {w : World} (hR : Rel ρ s w) (hF : FR Nt ρ f a) (hQ : ∀ a' w' ρ', FR Nt ρ' f' a' → Goes ρ s w ρ' s' w' → Q .normal a' w') :
    wpAny P .any ops Q ops.size (Array.replicate ops.size false) a w := by
  unfold seqD at h
  cases hreg : regB Nt ops.toList with
  | false => rw [hreg] at h; cases h
  | true =>
    rw [hreg] at h
    simp only [cond_true, Option.bind_eq_some_iff] at h
    obtain ⟨⟨rs, f2, s2, nf, pd⟩, hrun, h⟩ := h
    cases hck : and (Nat.ble nf (Nat.add s.nx (cntN P ops.toList))) (and (chainE (effsL s2.h rs 0)) (loadsB P (effsL s2.h rs 0) s.h rs 0)) with
    | false => simp only [hck] at h; cases h
    | true =>
      simp only [hck, cond_true, Option.some.injEq, Prod.mk.injEq] at h
      obtain ⟨rfl, rfl⟩ := h
      rw [Bool.and_eq_true, Bool.and_eq_true] at hck
      have T := tr_of (s := s) hR.lo hc hreg (Nat.le_add_right _ _) hrun (Nat.le_of_ble_eq_true hck.1) hck.2.1 hck.2.2
      have r0 := (runD_spec _ _ _ _ _ _ _ _ hrun).1
      have rlen := (runD_spec _ _ _ _ _ _ _ _ hrun).2.1
      have hsz : rs.length = ops.size := by rw [rlen, zipM_len _ _ (masks_len _), Array.length_toList]
      have hend : stAt rs (f2, s2, nf, pd) ops.size = (f2, s2, nf, pd) := by unfold stAt; rw [List.getElem?_eq_none (by omega)]
      refine run_any T hR (by simp only [r0]; exact hF) fun a' w' ρ' g1 g2 => hQ a' w' ρ' ?_ ?_
      · simp only [hend] at g1; exact g1
      · simp only [hend] at g2; exact g2
end
end Go.Ev
