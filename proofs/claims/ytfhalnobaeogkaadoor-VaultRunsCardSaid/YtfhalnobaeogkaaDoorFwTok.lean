/- What is proved: a head in which calls change one state after the other, while other operations float. -/
import Derived.Test.YtfhalnobaeogkaaDoorFwAny
set_option linter.unusedVariables false
set_option linter.unusedSimpArgs false
namespace Go.Fw
open Go Go.RowKit
section
variable {P : Program} {ops : Array Oper} {Q : Exit → Act → World → Prop}
structure BInv (ops : Array Oper) (w0 : World) (N m n : Nat) (fl : List Nat) (R : Nat → (Nat → Bool) → Value → World → Prop) (Φ : (Nat → Bool) → World → Prop) (a0 : Act) (val : Nat → Value) (listed : Array Bool) (a : Act) (w : World) : Prop where
  sz : listed.size = ops.size
  lo : ∀ j, j < m → listed.getD j false = true
  hi : ∀ j, n ≤ j → listed.getD j false = false
  cl : ∀ j o, ops[j]? = some o → m ≤ j → listed.getD j false = true → ∀ e ∈ o.after, Region.binds .any e = true → listed.getD e.on false = true
  ext : Ext w0 w
  tsz : a.tmps.size = N
  dfs : a.defers = a0.defers
  wrd : ∀ j o d, m ≤ j → j < n → ops[j]? = some o → o.dst = some d → listed.getD j false = true → j ∉ fl → slot a d = val j
  wrf : ∀ j o d, m ≤ j → j < n → ops[j]? = some o → o.dst = some d → listed.getD j false = true → j ∈ fl → R j (bits fl listed) (slot a d) w
  un : ∀ t, (∀ j o, m ≤ j → j < n → ops[j]? = some o → listed.getD j false = true → o.dst ≠ some t) → slot a t = slot a0 t
  phi : Φ (bits fl listed) w

section head
variable {w0 : World} {N m n : Nat} {fl : List Nat} {R : Nat → (Nat → Bool) → Value → World → Prop} {Φ : (Nat → Bool) → World → Prop} {a0 A : Act} {val : Nat → Value}

/-- What a floater does, whichever of the others are done. -/
def FY (P : Program) (ops : Array Oper) (w0 : World) (N m n : Nat) (fl : List Nat) (R : Nat → (Nat → Bool) → Value → World → Prop) (Φ : (Nat → Bool) → World → Prop) (A : Act) (i : Nat) (o : Oper) : Prop :=
  ∀ (D : Nat → Bool) (a : Act) (w : World), Ext w0 w → a.tmps.size = N → a.defers = A.defers → (∀ t, ¬ flSlot ops m n fl t → slot a t = slot A t) → D i = false → (∀ j, m ≤ j → j ∈ fl → waits ops i j = true → D j = true) →
    (∀ j p d, m ≤ j → j < n → j ∈ fl → D j = true → ops[j]? = some p → p.dst = some d → R j D (slot a d) w) → Φ D w →
    Region.wanted o (yielded ops a.tmps) = true ∧ ((∃ v w', (execOp a.eval o).run P w = .ok (.value v) w' ∧ Ext w0 w' ∧ (∀ j p d, m ≤ j → j < n → j ∈ fl → D j = true → ops[j]? = some p → p.dst = some d → R j (also D i) (slot a d) w') ∧ R i (also D i) v w' ∧ Φ (also D i) w') ∨
      (∃ f args, (execOp a.eval o).run P w = .ok (.enter f args) w ∧ Calls P f args w (fun e w' => ∃ v, e = .returned v ∧ Ext w0 w' ∧ (∀ j p d, m ≤ j → j < n → j ∈ fl → D j = true → ops[j]? = some p → p.dst = some d → R j (also D i) (slot a d) w') ∧ R i (also D i) v w' ∧ Φ (also D i) w')) ∨
      (o.dst = none ∧ ((∃ w', (execOp a.eval o).run P w = .ok .skip w' ∧ Ext w0 w' ∧ (∀ j p d, m ≤ j → j < n → j ∈ fl → D j = true → ops[j]? = some p → p.dst = some d → R j (also D i) (slot a d) w') ∧ Φ (also D i) w') ∨
        ∃ f args, (execOp a.eval o).run P w = .ok (.enter f args) w ∧ Calls P f args w (fun e w' => ∃ v, e = .returned v ∧ Ext w0 w' ∧ (∀ j p d, m ≤ j → j < n → j ∈ fl → D j = true → ops[j]? = some p → p.dst = some d → R j (also D i) (slot a d) w') ∧ Φ (also D i) w'))))

theorem BInv.agree (hok : AOk ops N m n fl) (S : HSpec P ops w0 m n fl a0 A val) {listed : Array Bool} {a : Act} {w : World} (I : BInv ops w0 N m n fl R Φ a0 val listed a w)
    {i : Nat} {o : Oper} (hm : m ≤ i) (hn : i < n) (ho : ops[i]? = some o) (hdep : ∀ e ∈ o.after, Region.binds .any e = true → listed.getD e.on false = true) :
    ∀ t ∈ o.looksAt ops, ¬ flSlot ops m n fl t → slot A t = slot a t := by
  intro t ht hnfl
  by_cases hex : ∃ j p, m ≤ j ∧ j < n ∧ ops[j]? = some p ∧ p.dst = some t
  · obtain ⟨j, p, hj, hj', hp, hd⟩ := hex
    obtain ⟨_, hw, _⟩ := hok.look i o j p t hm hn ho hj hj' hp hd ht
    have hnf : j ∉ fl := fun h => hnfl ⟨j, p, hj, hj', h, hp, hd⟩
    obtain ⟨e, he, hb, hon⟩ := waits_spec ho hw
    have hl := hdep e he hb
    rw [hon] at hl
    rw [S.wr j p t hj hj' hp hnf hd, I.wrd j p t hj hj' hp hd hl hnf]
  · rw [S.un t fun j p hj hj' hp _ hd => hex ⟨j, p, hj, hj', hp, hd⟩, I.un t fun j p hj hj' hp _ hd => hex ⟨j, p, hj, hj', hp, hd⟩]
theorem BInv.next (hok : AOk ops N m n fl) {listed : Array Bool} {a : Act} {w w' : World} (I : BInv ops w0 N m n fl R Φ a0 val listed a w)
    {i : Nat} {o : Oper} {v : Value} (hm : m ≤ i) (hn : i < n) (ho : ops[i]? = some o) (hun : listed.getD i false = false)
    (hdep : ∀ e ∈ o.after, Region.binds .any e = true → listed.getD e.on false = true) (hx : Ext w0 w') (hvd : i ∉ fl → v = val i)
    (hvf : i ∈ fl → ∀ d, o.dst = some d → R i (bits fl (listed.setIfInBounds i true)) v w') (hold : ∀ j p d, m ≤ j → j < n → j ∈ fl → listed.getD j false = true → ops[j]? = some p → p.dst = some d → R j (bits fl (listed.setIfInBounds i true)) (slot a d) w') (hph : Φ (bits fl (listed.setIfInBounds i true)) w') :
    BInv ops w0 N m n fl R Φ a0 val (listed.setIfInBounds i true) (a.put o.dst v) w' := by
  have hi : i < listed.size := by rw [I.sz]; exact (Array.getElem?_eq_some_iff.1 ho).1
  have hset : ∀ j, (listed.setIfInBounds i true).getD j false = true → j ≠ i → listed.getD j false = true := fun j h hne => by rwa [getD_set_other (Ne.symm hne)] at h
  have hmono : ∀ j, listed.getD j false = true → (listed.setIfInBounds i true).getD j false = true := fun j h => by
    by_cases hj : i = j
    · subst hj; exact getD_set_self hi
    · rwa [getD_set_other hj]
  have hkeep : ∀ j p d, m ≤ j → j < n → ops[j]? = some p → j ≠ i → p.dst = some d → slot (a.put o.dst v) d = slot a d := fun j p d hj hj' hp hne hd =>
    slot_put_ne v (hok.once i o j p d hm hn ho hj hj' hp hne hd)
  refine ⟨by simpa using I.sz, fun j hj => hmono j (I.lo j hj), fun j hj => ?_, fun j p hp hj hl e he hb => ?_, hx, by rw [put_size]; exact I.tsz, by rw [put_defers]; exact I.dfs, fun j p d hj hj' hp hd hl hnf => ?_, fun j p d hj hj' hp hd hl hf => ?_, fun t ht => ?_, hph⟩
  · rw [getD_set_other (by omega)]; exact I.hi j hj
  · by_cases hji : j = i
    · subst hji
      have : p = o := Option.some.inj (hp.symm.trans ho)
      subst this
      exact hmono _ (hdep e he hb)
    · exact hmono _ (I.cl j p hp hj (hset j hl hji) e he hb)
  · by_cases hji : j = i
    · subst hji
      have : p = o := Option.some.inj (hp.symm.trans ho)
      subst this
      rw [hd, slot_put_same v (by rw [I.tsz]; exact hok.dst j p d hj hj' hp hd)]
      exact hvd hnf
    · rw [hkeep j p d hj hj' hp hji hd]
      exact I.wrd j p d hj hj' hp hd (hset j hl hji) hnf
  · by_cases hji : j = i
    · subst hji
      have : p = o := Option.some.inj (hp.symm.trans ho)
      subst this
      rw [hd, slot_put_same v (by rw [I.tsz]; exact hok.dst j p d hj hj' hp hd)]
      exact hvf hf d hd
    · rw [hkeep j p d hj hj' hp hji hd]
      exact hold j p d hj hj' hf (hset j hl hji) hp hd
  · rw [slot_put_ne v (ht i o hm hn ho (getD_set_self hi))]
    exact I.un t fun j p hj hj' hp hl => ht j p hj hj' hp (hmono j hl)

/-- Only what lies in the head may come up while some of it has not. -/
theorem BInv.ready_lt (hok : AOk ops N m n fl) {listed : Array Bool} {a : Act} {w : World} (I : BInv ops w0 N m n fl R Φ a0 val listed a w)
    {i : Nat} (hm : m ≤ i) (hn : i < n) (hun : listed.getD i false = false) : ∀ t ∈ Region.ready .any ops listed, m ≤ t ∧ t < n := by
  intro t ht
  obtain ⟨h1, o, ho, hall⟩ := mem_ready.1 ht
  have htl : t < ops.size := (Array.getElem?_eq_some_iff.1 ho).1
  rw [getD_true_false (by rw [I.sz]; exact htl)] at h1
  refine ⟨Nat.le_of_not_lt fun h => (by rw [I.lo t h] at h1; cases h1), Nat.lt_of_not_le fun hge => ?_⟩
  rcases Nat.lt_or_eq_of_le hge with hgt | heq
  · obtain ⟨s, hs, _, hw⟩ := hok.tail t hgt htl
    obtain ⟨e, he, hb, hon⟩ := waits_spec ho hw
    have := hall e he hb
    rw [hon, I.hi s hs] at this
    cases this
  · subst heq
    have key : ∀ k i, n - i = k → m ≤ i → i < n → listed.getD i false = false → False := by
      intro k
      induction k using Nat.strongRecOn with
      | _ k ih =>
        intro i hk hm hn hun
        obtain ⟨j, hj, hij, hw⟩ := hok.sink htl i hm hn
        rcases Nat.lt_or_eq_of_le hj with hlt | heq
        · cases hl : listed.getD j false with
          | false => exact ih (n - j) (by omega) j rfl (by omega) hlt hl
          | true =>
            cases hp : ops[j]? with
            | none => have := Array.getElem?_eq_none_iff.1 hp; omega
            | some p =>
              obtain ⟨e, he, hb, hon⟩ := waits_spec hp hw
              have := I.cl j p hp (by omega) hl e he hb
              rw [hon, hun] at this
              cases this
        · subst heq
          obtain ⟨e, he, hb, hon⟩ := waits_spec ho hw
          have := hall e he hb
          rw [hon, hun] at this
          cases this
    exact key _ i rfl hm hn hun

/-- The first of them that has not come up may come up. -/
theorem BInv.some_ready (hok : AOk ops N m n fl) {listed : Array Bool} {a : Act} {w : World} (I : BInv ops w0 N m n fl R Φ a0 val listed a w)
    {i : Nat} (hm : m ≤ i) (hn : i < n) (hun : listed.getD i false = false) : Region.ready .any ops listed ≠ [] := by
  have key : ∀ k i, i = k → m ≤ i → i < n → listed.getD i false = false → ∃ t, t ∈ Region.ready .any ops listed := by
    intro k
    induction k using Nat.strongRecOn with
    | _ k ih =>
      intro i hk hm hn hun
      subst hk
      cases ho : ops[i]? with
      | none => have := Array.getElem?_eq_none_iff.1 ho; have := hok.ns; omega
      | some o =>
        have hil : i < listed.size := by rw [I.sz]; exact (Array.getElem?_eq_some_iff.1 ho).1
        by_cases hall : ∀ e ∈ o.after, Region.binds .any e = true → listed.getD e.on false = true
        · exact ⟨i, mem_ready.2 ⟨by rw [getD_true_false hil]; exact hun, o, ho, hall⟩⟩
        · have : ∃ e ∈ o.after, Region.binds .any e = true ∧ listed.getD e.on false ≠ true := by
            apply Classical.byContradiction
            intro hno
            exact hall fun e he hb => Classical.byContradiction fun hc => hno ⟨e, he, hb, hc⟩
          obtain ⟨e, he, hb, hc⟩ := this
          have hlt := hok.back i o hm hn ho e he hb
          have hun' : listed.getD e.on false = false := by simpa using hc
          have hme : m ≤ e.on := Nat.le_of_not_lt fun h => (by rw [I.lo _ h] at hun'; cases hun')
          exact ih e.on hlt e.on rfl hme (by omega) hun'
  obtain ⟨t, ht⟩ := key i i rfl hm hn hun
  intro h0
  rw [h0] at ht
  cases ht

theorem head_allB (hok : AOk ops N m n fl) (hR : ∀ j D v w w', R j D v w → Ext w w' → R j D v w') (hΦ : ∀ D w w', Φ D w → Ext w w' → Φ D w') (S : HSpec P ops w0 m n fl a0 A val) (hsz : A.tmps.size = N)
    (hdf : A.defers = a0.defers) (hfl : ∀ i o, m ≤ i → i < n → ops[i]? = some o → i ∈ fl → FY P ops w0 N m n fl R Φ A i o)
    (hend : ∀ a w, BInv ops w0 N m n fl R Φ a0 val (upto ops.size n) a w → Run P ops Q n a w) :
    ∀ (k : Nat) (listed : Array Bool) (a : Act) (w : World), open_ m n listed = k → BInv ops w0 N m n fl R Φ a0 val listed a w → wpAny P .any ops Q (k + (ops.size - n)) listed a w := by
  intro k
  induction k with
  | zero =>
    intro listed a w hk I
    have hall := open_zero hk
    have : listed = upto ops.size n := by
      apply Array.ext
      · rw [I.sz, upto_size]
      · intro j h1 h2
        have h1' : listed.getD j false = listed[j] := by simp [Array.getD, h1]
        have h2' : (upto ops.size n).getD j false = (upto ops.size n)[j] := by simp [Array.getD, h2]
        rw [← h1', ← h2', upto_getD, if_pos (by rw [← I.sz]; exact h1)]
        by_cases hjn : j < n
        · by_cases hjm : j < m
          · rw [I.lo j hjm]; simp [hjn]
          · rw [hall j (by omega) hjn]; simp [hjn]
        · rw [I.hi j (by omega)]; simp [hjn]
    subst this
    rw [Nat.zero_add]
    exact hend a w I
  | succ k ih =>
    intro listed a w hk I
    have hex : ∃ i, m ≤ i ∧ i < n ∧ listed.getD i false = false := by
      apply Classical.byContradiction
      intro hno
      have : open_ m n listed = 0 := by
        unfold open_
        rw [List.filter_eq_nil_iff.2, List.length_nil]
        intro j hj hc
        simp only [Bool.and_eq_true, decide_eq_true_eq, Bool.not_eq_true'] at hc
        exact hno ⟨j, hc.1, List.mem_range.1 hj, hc.2⟩
      omega
    obtain ⟨i0, hm0, hn0, hun0⟩ := hex
    have hsel := fun j o ho cs b => Region.noSelect_spec hok.nosel j o cs b ho
    rw [show k + 1 + (ops.size - n) = (k + (ops.size - n)) + 1 by omega]
    refine ⟨fun h0 => absurd h0 (I.some_ready hok hm0 hn0 hun0), fun i hi => ?_⟩
    obtain ⟨hm, hn⟩ := I.ready_lt hok hm0 hn0 hun0 i hi
    obtain ⟨h1, o, ho, hdep⟩ := mem_ready.1 hi
    have hil : i < listed.size := by rw [I.sz]; exact (Array.getElem?_eq_some_iff.1 ho).1
    rw [getD_true_false hil] at h1
    have hag := I.agree hok S hm hn ho hdep
    have hop : open_ m n (listed.setIfInBounds i true) = k := by
      have := open_set hm hn hil h1
      omega
    unfold wpOp
    rw [ho]
    simp only
    by_cases hf : i ∈ fl
    · have hmag : ∀ t ∈ o.looksAt ops, slot (mix ops m n fl A a) t = slot a t := fun t ht => by
        by_cases hfs : flSlot ops m n fl t
        · exact mix_in (I.tsz.trans hsz.symm) hfs
        · rw [mix_out hfs]; exact hag t ht hfs
      have hms : (mix ops m n fl A a).tmps.size = a.tmps.size := by rw [mix_size, hsz, I.tsz]
      have hsl : ∀ j p d, m ≤ j → j < n → j ∈ fl → ops[j]? = some p → p.dst = some d → slot (mix ops m n fl A a) d = slot a d := fun j p d hj hj' hjf hp hd => mix_in (I.tsz.trans hsz.symm) ⟨j, p, hj, hj', hjf, hp, hd⟩
      have hb : ∀ j, bits fl listed j = true → listed.getD j false = true := fun j h => by
        simp only [bits, Bool.and_eq_true] at h; exact h.2
      have hb' : ∀ j, j ∈ fl → listed.getD j false = true → bits fl listed j = true := fun j h h' => by
        simp only [bits, Bool.and_eq_true]; exact ⟨by simpa using h, h'⟩
      obtain ⟨hw, hres⟩ := hfl i o hm hn ho hf (bits fl listed) (mix ops m n fl A a) w I.ext (by rw [mix_size, hsz]) rfl (fun t ht => mix_out ht) (by simp only [bits, h1, Bool.and_false])
        (fun j hj hjf hw => by
          obtain ⟨e, he, hbd, hon⟩ := waits_spec ho hw
          have := hdep e he hbd
          rw [hon] at this
          exact hb' j hjf this)
        (fun j p d hj hj' hjf hD hp hd => by rw [hsl j p d hj hj' hjf hp hd]; exact I.wrf j p d hj hj' hp hd (hb j hD) hjf) I.phi
      have hcg := execOp_congr o (fun cs b => hsel i o ho cs b) (eval_same hmag)
      rw [if_pos (by rw [← wanted_same hms hmag]; exact hw)]
      refine .inl ?_
      have go : ∀ (v : Value) (w' : World), Ext w0 w' → (∀ j p d, m ≤ j → j < n → j ∈ fl → bits fl listed j = true → ops[j]? = some p → p.dst = some d → R j (also (bits fl listed) i) (slot (mix ops m n fl A a) d) w') → (∀ d, o.dst = some d → R i (also (bits fl listed) i) v w') → Φ (also (bits fl listed) i) w' →
          wpAny P .any ops Q (k + (ops.size - n)) (listed.setIfInBounds i true) (a.put o.dst v) w' := fun v w' hx hold hv hp0 =>
        ih _ _ _ hop (I.next hok hm hn ho h1 hdep hx (fun h => absurd hf h) (fun _ d hd => by rw [bits_also hf hil]; exact hv d hd) (fun j p d hj hj' hjf hl hp hd => by
          rw [bits_also hf hil, ← hsl j p d hj hj' hjf hp hd]
          exact hold j p d hj hj' hjf (hb' j hjf hl) hp hd) (by rw [bits_also hf hil]; exact hp0))
      unfold Oper.wp
      rcases hres with ⟨v, w', hr, hx, hold, hv, hp0⟩ | ⟨f, args, hr, hc⟩ | ⟨hdn, ⟨w', hr, hx, hold, hp0⟩ | ⟨f, args, hr, hc⟩⟩
      · rw [← hcg, hr]
        exact go v w' hx hold (fun _ _ => hv) hp0
      · rw [← hcg, hr]
        refine Calls.mono hc ?_
        rintro e w' ⟨v, rfl, hx, hold, hv, hp0⟩
        exact go v w' hx hold (fun _ _ => hv) hp0
      · rw [← hcg, hr]
        exact go undef w' hx hold (fun d hd => by rw [hdn] at hd; cases hd) hp0
      · rw [← hcg, hr]
        refine Calls.mono hc ?_
        rintro e w' ⟨v, rfl, hx, hold, hp0⟩
        exact go v w' hx hold (fun d hd => by rw [hdn] at hd; cases hd) hp0
    · have hag' : ∀ t ∈ o.looksAt ops, slot A t = slot a t := fun t ht => hag t ht (hok.noFl hm hn ho hf t ht)
      have hwa := wanted_same (hsz.trans I.tsz.symm) hag'
      have go : ∀ (v : Value) (w' : World), Ext w w' → v = val i →
          wpAny P .any ops Q (k + (ops.size - n)) (listed.setIfInBounds i true) (a.put o.dst v) w' := fun v w' hx hd =>
        ih _ _ _ hop (I.next hok hm hn ho h1 hdep (I.ext.trans hx) (fun _ => hd) (fun h _ _ => absurd h hf) (fun j p d hj hj' hjf hl hp hd => by
          rw [bits_same hf]
          exact hR _ _ _ _ _ (I.wrf j p d hj hj' hp hd hl hjf) hx) (by rw [bits_same hf]; exact hΦ _ _ _ I.phi hx))
      rcases S.ex i o hm hn ho hf with ⟨hw, hq⟩ | ⟨hw, hq⟩
      · rw [if_pos (by rw [← hwa]; exact hw)]
        refine .inl ?_
        have := (hq.same (fun cs b => hsel i o ho cs b) hag') w I.ext
        unfold Oper.wp
        rcases this with hr | ⟨hr, hv⟩ | ⟨f, args, hr, hc⟩
        · rw [hr]
          exact go _ w (Ext.refl w) rfl
        · rw [hr]
          exact go _ w (Ext.refl w) hv.symm
        · rw [hr]
          refine Calls.mono hc ?_
          rintro e w' ⟨rfl, hx⟩
          exact go _ w' hx rfl
      · rw [if_neg (by rw [← hwa, hw]; exact Bool.false_ne_true)]
        exact go _ w (Ext.refl w) hq.symm

/-- **A HEAD**: operations m .. n-1, from the state in which the first m have come up. -/
theorem run_headB (N m n : Nat) (fl : List Nat) (R : Nat → (Nat → Bool) → Value → World → Prop) (Φ : (Nat → Bool) → World → Prop) (l : List Oper) (hB : headA ops N m n fl = true) (hl : (ops.toList.drop m).take (n - m) = l) {a : Act} {w0 w : World} (hx0 : Ext w0 w) (hN : a.tmps.size = N) (hphi0 : Φ (bits fl (upto ops.size m)) w) (hR : ∀ j D v w w', R j D v w → Ext w w' → R j D v w') (hΦ : ∀ D w w', Φ D w → Ext w w' → Φ D w')
    (h : dwalk P ops w0 fl (fun A => (A.defers = a.defers → ∀ i o, m ≤ i → i < n → ops[i]? = some o → i ∈ fl → FY P ops w0 N m n fl R Φ A i o) ∧
      ∀ a' w', Ext w0 w' → a'.tmps.size = N → a'.defers = a.defers →
        (∀ t, ¬ flSlot ops m n fl t → slot a' t = slot A t) →
        (∀ i o d, m ≤ i → i < n → ops[i]? = some o → i ∈ fl → o.dst = some d → R i (fun k => fl.contains k && decide (k < n)) (slot a' d) w') → Φ (fun k => fl.contains k && decide (k < n)) w' → Run P ops Q n a' w') m l a) : Run P ops Q m a w := by
  have hok := headA_spec hB
  have hlen : l.length = n - m := by rw [← hl]; have := hok.ns; simp; omega
  obtain ⟨A, val, ⟨hfl, hK⟩, S⟩ := dwalk_specA hok l m a (Nat.le_refl _) (by have := hok.mn; omega) (fun j hj => by
    rw [← hl, List.getElem?_take, if_pos (by omega), List.getElem?_drop]; simp) hN h
  have hsize : ops.size - m = (n - m) + (ops.size - n) := by have := hok.ns; have := hok.mn; omega
  unfold Run
  rw [hsize]
  refine head_allB hok hR hΦ S (by rw [S.size, hN]) S.dfs (hfl S.dfs) (fun a' w' I => ?_) _ _ _ _ ?_ ⟨upto_size _ _, fun j hj => ?_, fun j hj => ?_, fun j o ho hm hl => ?_, hx0, hN, rfl, fun j o d hm hn ho hd hl => ?_, fun j o d hm hn ho hd hl => ?_, fun _ _ => rfl, hphi0⟩
  · have hall : ∀ j, j < n → (upto ops.size n).getD j false = true := fun j hj => by
      rw [upto_getD, if_pos (by have := hok.ns; omega)]; simp [hj]
    have hbits : bits fl (upto ops.size n) = fun k => fl.contains k && decide (k < n) := by
      funext k
      unfold bits
      rw [upto_getD]
      by_cases hk : k < ops.size
      · rw [if_pos hk]
      · rw [if_neg hk, decide_eq_false (by have := hok.ns; omega)]
    refine hK a' w' I.ext I.tsz I.dfs (fun t ht => ?_) (fun i o d hm hn ho hf hd => by
      have := I.wrf i o d hm hn ho hd (hall i hn) hf
      rwa [hbits] at this) (by have := I.phi; rwa [hbits] at this)
    by_cases hex : ∃ j p, m ≤ j ∧ j < n ∧ ops[j]? = some p ∧ p.dst = some t
    · obtain ⟨j, p, hj, hj', hp, hd⟩ := hex
      have hnf : j ∉ fl := fun hf => ht ⟨j, p, hj, hj', hf, hp, hd⟩
      rw [S.wr j p t hj hj' hp hnf hd, I.wrd j p t hj hj' hp hd (hall j hj') hnf]
    · rw [S.un t fun j p hj hj' hp _ hd => hex ⟨j, p, hj, hj', hp, hd⟩, I.un t fun j p hj hj' hp _ hd => hex ⟨j, p, hj, hj', hp, hd⟩]
  · unfold open_
    have : ((List.range n).filter fun j => decide (m ≤ j) && !(upto ops.size m).getD j false) = (List.range n).filter fun j => decide (m ≤ j) :=
      List.filter_congr fun j hj => by
        rw [upto_getD]
        have := hok.ns
        have := List.mem_range.1 hj
        rw [if_pos (by omega)]
        by_cases h : m ≤ j
        · simp [h, show ¬ j < m by omega]
        · simp [h]
    rw [this]
    have key : ∀ n, m ≤ n → ((List.range n).filter fun j => decide (m ≤ j)).length = n - m := by
      intro n
      induction n with
      | zero => intro _; simp
      | succ n ih =>
        intro h
        rw [List.range_succ, List.filter_append, List.length_append]
        by_cases hmn : m ≤ n
        · rw [ih hmn]; simp [hmn]; omega
        · have : m = n + 1 := by omega
          subst this
          rw [List.filter_eq_nil_iff.2 (fun j hj => by have := List.mem_range.1 hj; simp; omega)]
          simp
    exact key n hok.mn
  · rw [upto_getD, if_pos (by have := hok.ns; have := hok.mn; omega)]; simp [hj]
  · rw [upto_getD]
    split
    · have := hok.mn; simp; omega
    · rfl
  · have := (Array.getElem?_eq_some_iff.1 ho).1
    rw [upto_getD, if_pos this] at hl
    simp at hl
    omega
  · have := (Array.getElem?_eq_some_iff.1 ho).1
    rw [upto_getD, if_pos this] at hl
    simp at hl
    omega
  · have := (Array.getElem?_eq_some_iff.1 ho).1
    rw [upto_getD, if_pos this] at hl
    simp at hl
    omega
end head
end
end Go.Fw
namespace Go.Fw
open Go Go.RowKit
section
variable {P : Program} {ops : Array Oper} {Q : Exit → Act → World → Prop} {N : Nat} {a : Act} {w w0 : World} {m : List (Nat × Value)} {o : Oper}
/-- Floaters whose facts depend on how many of the calls that change the state are done. -/
abbrev FloT := List (Nat × Nat × (Nat → Value → World → Prop))
def heldT (F : FloT) (a : Act) : List (Nat × Value) := F.map fun x => (x.2.1, slot a x.2.1)
/-- So many of the calls are done, the first ones. -/
def StP (cs : List Nat) (D : Nat → Bool) (s : Nat) : Prop := s ≤ cs.length ∧ ∀ i c, cs[i]? = some c → D c = decide (i < s)
theorem StP.uniq {cs : List Nat} {D : Nat → Bool} {s s' : Nat} (h : StP cs D s) (h' : StP cs D s') : s = s' := by
  rcases Nat.lt_trichotomy s s' with hlt | he | hgt
  · have hl : s < cs.length := Nat.lt_of_lt_of_le hlt h'.1
    have h1 := h.2 s _ (List.getElem?_eq_getElem hl)
    have h2 := h'.2 s _ (List.getElem?_eq_getElem hl)
    rw [h1, decide_eq_true hlt, decide_eq_false (Nat.lt_irrefl s)] at h2
    cases h2
  · exact he
  · have hl : s' < cs.length := Nat.lt_of_lt_of_le hgt h.1
    have h1 := h.2 s' _ (List.getElem?_eq_getElem hl)
    have h2 := h'.2 s' _ (List.getElem?_eq_getElem hl)
    rw [h2, decide_eq_true hgt, decide_eq_false (Nat.lt_irrefl s')] at h1
    cases h1
def csB (ops : Array Oper) (fl cs : List Nat) : Bool :=
  nodupB cs && cs.all fun c => fl.contains c && ((List.range cs.length).all fun i => i == 0 || cs.getD i 0 != c || waits ops c (cs.getD (i - 1) 0))
theorem nodupB_inj : ∀ l : List Nat, nodupB l = true → ∀ (i j c : Nat), l[i]? = some c → l[j]? = some c → i = j
  | [], _, i, _, _, h, _ => by cases i <;> cases h
  | z :: l, h, i, j, c, h1, h2 => by
    simp only [nodupB, Bool.and_eq_true, Bool.not_eq_true', List.contains_eq_mem, decide_eq_false_iff_not] at h
    cases i with
    | zero => cases j with
      | zero => rfl
      | succ j =>
        simp only [List.getElem?_cons_zero, List.getElem?_cons_succ, Option.some.injEq] at h1 h2
        exact absurd (h1 ▸ List.mem_of_getElem? h2) h.1
    | succ i => cases j with
      | zero =>
        simp only [List.getElem?_cons_zero, List.getElem?_cons_succ, Option.some.injEq] at h1 h2
        exact absurd (h2 ▸ List.mem_of_getElem? h1) h.1
      | succ j =>
        simp only [List.getElem?_cons_succ] at h1 h2
        rw [nodupB_inj l h.2 i j c h1 h2]
theorem csB_spec {fl cs : List Nat} (h : csB ops fl cs = true) : (∀ c ∈ cs, c ∈ fl) ∧ (∀ (i j c : Nat), cs[i]? = some c → cs[j]? = some c → i = j) ∧ ∀ (i c d : Nat), cs[i + 1]? = some c → cs[i]? = some d → waits ops c d = true := by
  simp only [csB, Bool.and_eq_true] at h
  obtain ⟨h1, h2⟩ := h
  refine ⟨fun c hc => ?_, nodupB_inj cs h1, fun i c d hi hj => ?_⟩
  · have := List.all_eq_true.1 h2 c hc
    simp only [Bool.and_eq_true] at this
    simpa using this.1
  · have := List.all_eq_true.1 h2 c (List.mem_of_getElem? hi)
    simp only [Bool.and_eq_true] at this
    have hl := (List.getElem?_eq_some_iff.1 hi).1
    have h3 := List.all_eq_true.1 this.2 (i + 1) (List.mem_range.2 hl)
    rw [List.getD_eq_getElem?_getD, List.getD_eq_getElem?_getD, Nat.add_sub_cancel, hi, hj] at h3
    simpa using h3
def TX (P : Program) (ops : Array Oper) (F : FloT) (Φ : Nat → World → Prop) (w0 : World) (o : Oper) (a : Act) (w : World) (s : Nat) (R : Nat → Value → World → Prop) : Prop :=
  Region.wanted o (yielded ops a.tmps) = true ∧ ((∃ v w', (execOp a.eval o).run P w = .ok (.value v) w' ∧ Ext w0 w' ∧ Φ (s + 1) w' ∧ R (s + 1) v w' ∧ ∀ y ∈ F, y.2.2 s (slot a y.2.1) w → y.2.2 (s + 1) (slot a y.2.1) w') ∨ ∃ f args, (execOp a.eval o).run P w = .ok (.enter f args) w ∧
    Calls P f args w (fun e w' => ∃ v, e = .returned v ∧ Ext w0 w' ∧ Φ (s + 1) w' ∧ R (s + 1) v w' ∧ ∀ y ∈ F, y.2.2 s (slot a y.2.1) w → y.2.2 (s + 1) (slot a y.2.1) w'))
theorem tx_call {F : FloT} {Φ : Nat → World → Prop} {s : Nat} {R : Nat → Value → World → Prop} {f : FuncId} {xs : List Operand} {vs : List Value} {ats : Array TypeId} (hw : Region.wanted o (yielded ops a.tmps) = true) (hf : CallOk P f)
    (ho : o.op = .call { callee := .value (.func f), args := xs.toArray, argTypes := ats }) (hx : Evs a xs vs) (hc : Calls P f vs.toArray w fun e w' => ∃ v, e = .returned v ∧ Ext w0 w' ∧ Φ (s + 1) w' ∧ R (s + 1) v w' ∧ ∀ y ∈ F, y.2.2 s (slot a y.2.1) w → y.2.2 (s + 1) (slot a y.2.1) w') : TX P ops F Φ w0 o a w s R :=
  ⟨hw, .inr ⟨f, vs.toArray, run_callOp hf ho hx, hc⟩⟩
theorem tx_val {F : FloT} {Φ : Nat → World → Prop} {s : Nat} {R : Nat → Value → World → Prop} {v : Value} {w' : World} (hw : Region.wanted o (yielded ops a.tmps) = true) (hr : (execOp a.eval o).run P w = .ok (.value v) w') (hx : Ext w0 w') (hp : Φ (s + 1) w') (hv : R (s + 1) v w') (hk : ∀ y ∈ F, y.2.2 s (slot a y.2.1) w → y.2.2 (s + 1) (slot a y.2.1) w') : TX P ops F Φ w0 o a w s R :=
  ⟨hw, .inl ⟨v, w', hr, hx, hp, hv, hk⟩⟩
/-- append to a row of the call's own, among floaters. -/
theorem tx_appB {F : FloT} {Φ : Nat → World → Prop} {s : Nat} {R : Nat → Value → World → Prop} {x y : Operand} {t e : TypeId} {z : Value} {ob : Option Nat} {l ml : List UInt8} {pad : List Value} {v : Value} {k : Nat} {w00 : World} {H : List Ent} (hw : Region.wanted o (yielded ops a.tmps) = true)
    (ho : o.op = .call { callee := .builtin .append, args := #[x, y], argTypes := #[t, t] }) (ht : P.underlying t = some (.slice e)) (hty : Ty P e z 1 1) (hzc : z.cells.size = 1)
    (hx : a.eval x = ownV ob l.length (l.length + pad.length)) (hy : a.eval y = v) (hS : St w00 w H) (hk : H[k]? = some ⟨true, ob, blk e (l.map vB ++ pad)⟩) (hob : ob = none → l = [] ∧ pad = []) (hcap : l.length + pad.length ≤ 9223372036854775807)
    (hr : Rd w v (ml.map vB)) (hn : l.length + ml.length ≤ 140737488355328)
    (h : ∀ ob' pad' w', (ob' = none → l ++ ml = [] ∧ pad' = []) → (l ++ ml).length + pad'.length ≤ 9223372036854775807 → St w00 w' (H.set k ⟨true, ob', blk e ((l ++ ml).map vB ++ pad')⟩) →
      Ext w0 w' ∧ Φ (s + 1) w' ∧ R (s + 1) (ownV ob' (l ++ ml).length ((l ++ ml).length + pad'.length)) w' ∧ ∀ y ∈ F, y.2.2 s (slot a y.2.1) w → y.2.2 (s + 1) (slot a y.2.1) w') : TX P ops F Φ w0 o a w s R := by
  obtain ⟨ob', pad', w', hrun, h2, h3, h4⟩ := run_append_St (ty := o.type) (xs := l.map vB) (ys := ml.map vB) ht hty hzc hS hk (fun h => ⟨by rw [(hob h).1]; rfl, (hob h).2⟩) (by rw [List.length_map]; exact hcap) hr (one_B _) (by simp only [List.length_map]; omega) (by simp only [List.length_map]; omega)
  simp only [List.length_map, ← List.length_append, ← List.map_append, List.map_eq_nil_iff] at hrun h2 h3 h4
  obtain ⟨g1, g2, g3, g4⟩ := h ob' pad' w' h2 h3 h4
  exact tx_val hw (run_appendOp ho hx hy hrun) g1 g2 g3 g4
theorem look_heldT {F : FloT} {a : Act} {m : List (Nat × Value)} {t : Nat} {v : Value} (h : look t (heldT F a ++ m) = some v) : (v = slot a t ∧ ∃ x ∈ F, x.2.1 = t) ∨ ((∀ x ∈ F, x.2.1 ≠ t) ∧ look t m = some v) := by
  induction F with
  | nil => exact .inr ⟨(fun _ h' => by cases h'), h⟩
  | cons x F ih =>
    simp only [heldT, List.map_cons, List.cons_append] at h
    by_cases ht : t = x.2.1
    · subst ht
      rw [look_cons_eq] at h
      injection h with h
      exact .inl ⟨h.symm, x, List.mem_cons_self, rfl⟩
    · rw [look_cons_ne ht] at h
      rcases ih h with ⟨h1, y, hy, h2⟩ | ⟨h1, h2⟩
      · exact .inl ⟨h1, y, List.mem_cons_of_mem _ hy, h2⟩
      · exact .inr ⟨fun y hy => by
          rcases List.mem_cons.1 hy with rfl | hy
          · exact Ne.symm ht
          · exact h1 y hy, h2⟩
theorem fr_heldT {F : FloT} {A b : Act} {M n : Nat} {fl : List Nat} (hfl : fl = F.map (·.1)) (hd : ∀ x ∈ F, (ops[x.1]?).bind (·.dst) = some x.2.1) (hs : b.tmps.size = N) (hdf : b.defers = a.defers) (hF : Fr N a m)
    (hsl : ∀ t, ¬ flSlot ops M n fl t → slot b t = slot A t) : ∀ mm, Fr N A mm → Fr N b (heldT F b ++ mm) := fun mm hm => by
  refine ⟨hs, hdf.trans hF.dfs, fun t v hv => ?_⟩
  rcases look_heldT hv with ⟨rfl, _⟩ | ⟨h1, h2⟩
  · rfl
  · rw [← hm.get t v h2]
    refine hsl t ?_
    rintro ⟨j, p, _, _, hjf, hp, hpd⟩
    rw [hfl] at hjf
    obtain ⟨x, hx, rfl⟩ := List.mem_map.1 hjf
    have := hd x hx
    rw [hp] at this
    have e : some x.2.1 = some t := this.symm.trans hpd
    injection e with e
    exact h1 x hx e
theorem nodup_injT : ∀ F : FloT, nodupB (F.map (·.1)) = true → ∀ x ∈ F, ∀ y ∈ F, x.1 = y.1 → x = y
  | [], _, _, hx, _, _, _ => by cases hx
  | z :: F, h, x, hx, y, hy, he => by
    simp only [List.map_cons, nodupB, Bool.and_eq_true, Bool.not_eq_true', List.contains_eq_mem, decide_eq_false_iff_not] at h
    rcases List.mem_cons.1 hx with rfl | hx1 <;> rcases List.mem_cons.1 hy with rfl | hy1
    · rfl
    · exact absurd (show x.1 ∈ F.map (fun x => x.1) from List.mem_map.2 ⟨y, hy1, he.symm⟩) h.1
    · exact absurd (show y.1 ∈ F.map (fun x => x.1) from List.mem_map.2 ⟨x, hx1, he⟩) h.1
    · exact nodup_injT F h.2 x hx1 y hy1 he
/-- The value itself is known, however many calls are done. -/
def FtE (v0 : Value) : Nat → Value → World → Prop := fun _ v _ => v = v0
theorem FtE.lasts (v0 : Value) : ∀ s, Lasts (FtE v0 s) := fun _ _ _ _ h _ => h
/-- **A HEAD IN WHICH CALLS CHANGE A STATE ONE AFTER THE OTHER** while other operations float. The base world is w0. -/
theorem run_headT {n0 n : Nat} (l : List Oper) (cs : List Nat) (Φ : Nat → World → Prop) (F : FloT) (hF : Fr N a m) (hx0 : Ext w0 w) (hΦ0 : Φ 0 w) (hΦ : ∀ s, ∀ w w', Φ s w → Ext w w' → Φ s w') (hB : headA ops N n0 n (F.map (·.1)) = true) (hl : (ops.toList.drop n0).take (n - n0) = l)
    (hd : ∀ x ∈ F, (ops[x.1]?).bind (·.dst) = some x.2.1) (hR : ∀ x ∈ F, ∀ s, Lasts (x.2.2 s)) (hin : ∀ x ∈ F, n0 ≤ x.1 ∧ x.1 < n) (hu' : nodupB (F.map (·.1)) = true) (hcs : csB ops (F.map (·.1)) cs = true)
    (h : dwalk P ops w0 (F.map (·.1)) (fun A => (∀ x ∈ F, ∀ s b w', s ≤ cs.length → Ext w0 w' → (∀ mm, Fr N A mm → Fr N b (heldT F b ++ mm)) → (∀ y ∈ F, waits ops x.1 y.1 = true → y.2.2 s (slot b y.2.1) w') → Φ s w' →
        ∃ o, ops[x.1]? = some o ∧ ((x.1 ∉ cs ∧ SX P ops o b w' (x.2.2 s)) ∨ ∃ p, cs[p]? = some x.1 ∧ (s = p → TX P ops F Φ w0 o b w' s x.2.2))) ∧
      ∀ b w', Ext w0 w' → (∀ mm, Fr N A mm → Fr N b (heldT F b ++ mm)) → (∀ x ∈ F, x.2.2 cs.length (slot b x.2.1) w') → Φ cs.length w' → Run P ops Q n b w') n0 l a) : Run P ops Q n0 a w := by
  have hu := nodup_injT F hu'
  obtain ⟨hc1, hc2, hc3⟩ := csB_spec hcs
  obtain ⟨fl, hfl⟩ : ∃ fl, fl = F.map (·.1) := ⟨_, rfl⟩
  rw [← hfl] at hB h hc1
  have hmem : ∀ x ∈ F, x.1 ∈ fl := fun x hx => by rw [hfl]; exact List.mem_map.2 ⟨x, hx, rfl⟩
  have hback : ∀ i ∈ fl, ∃ x ∈ F, x.1 = i := fun i hi => by rw [hfl] at hi; exact List.mem_map.1 hi
  have hcsF : ∀ c ∈ cs, ∃ x ∈ F, x.1 = c := fun c hc => hback c (hc1 c hc)
  refine run_headB (P := P) (ops := ops) (Q := Q) (w0 := w0) (w := w) (a := a) N n0 n fl (fun i D v w => ∀ x ∈ F, x.1 = i → ∀ s, StP cs D s → x.2.2 s v w) (fun D w => ∃ s, StP cs D s ∧ Φ s w) l hB hl hx0 hF.size ?_
    (fun j D v w w' h hx x hxF hi s hs => hR x hxF s v w w' (h x hxF hi s hs) hx) (fun D w w' ⟨s, h1, h2⟩ hx => ⟨s, h1, hΦ s w w' h2 hx⟩)
    (dwalk_mono (fun A hA => ⟨fun hdA i o hm hn ho hf => ?_, fun b w' hx hs hdf hsl hr hph => ?_⟩) _ _ _ h)
  · refine ⟨0, ⟨Nat.zero_le _, fun i c hc => ?_⟩, hΦ0⟩
    obtain ⟨x, hxF, rfl⟩ := hcsF c (List.mem_of_getElem? hc)
    have := (hin x hxF).1
    unfold bits
    rw [upto_getD]
    by_cases hk : x.1 < ops.size
    · rw [if_pos hk, decide_eq_false (by omega)]; simp
    · rw [if_neg hk]; simp
  · obtain ⟨x, hxF, rfl⟩ := hback i hf
    intro D b w' hx hs hdf hsl hDi hDd hold hph
    obtain ⟨s, hsP, hph⟩ := hph
    have key := hA.1 x hxF s b w' hsP.1 hx (fr_heldT (fl := fl) (M := n0) (n := n) hfl hd hs (hdf.trans hdA) hF hsl) (fun y hy hw => by
      have hDy := hDd y.1 (hin y hy).1 (hmem y hy) hw
      have hdy := hd y hy
      cases hp : ops[y.1]? with
      | none => rw [hp] at hdy; cases hdy
      | some p =>
        rw [hp] at hdy
        exact hold y.1 p y.2.1 (hin y hy).1 (hin y hy).2 (hmem y hy) hDy hp hdy y hy rfl s hsP) hph
    obtain ⟨o', ho', hres⟩ := key
    have hoo : o' = o := Option.some.inj (ho'.symm.trans ho)
    subst hoo
    rcases hres with ⟨hnc, hw, hres⟩ | ⟨p, hp, hres⟩
    · have hsP' : ∀ s', StP cs (also D x.1) s' ↔ StP cs D s' := fun s' => by
        unfold StP
        refine and_congr Iff.rfl ⟨fun h i c hc => ?_, fun h i c hc => ?_⟩
        · have := h i c hc
          unfold also at this
          rwa [if_neg (show ¬ c = x.1 from fun e => hnc (by rw [← e]; exact List.mem_of_getElem? hc))] at this
        · unfold also
          rw [if_neg (show ¬ c = x.1 from fun e => hnc (by rw [← e]; exact List.mem_of_getElem? hc))]
          exact h i c hc
      have mine : ∀ v w'', x.2.2 s v w'' → ∀ y ∈ F, y.1 = x.1 → ∀ s', StP cs (also D x.1) s' → y.2.2 s' v w'' := fun v w'' hv y hy hyx s' hs' => by
        rw [hu y hy x hxF hyx, ((hsP' s').1 hs').uniq hsP]; exact hv
      have keep : ∀ w'', Ext w' w'' → ∀ j p d, n0 ≤ j → j < n → j ∈ fl → D j = true → ops[j]? = some p → p.dst = some d → ∀ y ∈ F, y.1 = j → ∀ s', StP cs (also D x.1) s' → y.2.2 s' (slot b d) w'' := fun w'' hx'' j p d hj hj' hjf hD hp hd' y hy hyj s' hs' =>
        hR y hy s' _ _ _ (hold j p d hj hj' hjf hD hp hd' y hy hyj s' ((hsP' s').1 hs')) hx''
      refine ⟨hw, ?_⟩
      rcases hres with ⟨v, w'', hr, hx', hv⟩ | ⟨f, args, hr, hc⟩
      · exact .inl ⟨v, w'', hr, hx.trans hx', keep w'' hx', mine v w'' hv, s, (hsP' s).2 hsP, hΦ s _ _ hph hx'⟩
      · exact .inr (.inl ⟨f, args, hr, hc.mono fun e w'' ⟨v, he, hx', hv⟩ => ⟨v, he, hx.trans hx', keep w'' hx', mine v w'' hv, s, (hsP' s).2 hsP, hΦ s _ _ hph hx'⟩⟩)
    · have hsp : s = p := by
        have h1 := hsP.2 p x.1 hp
        rw [hDi] at h1
        have h2 : ¬ p < s := by simpa using h1.symm
        rcases Nat.lt_or_ge s p with hlt | hge
        · obtain ⟨p', rfl⟩ : ∃ p', p = p' + 1 := ⟨p - 1, by omega⟩
          have hl : p' < cs.length := Nat.lt_trans (Nat.lt_succ_self _) (List.getElem?_eq_some_iff.1 hp).1
          have hcs' := List.getElem?_eq_getElem hl
          have hwt := hc3 p' _ _ hp hcs'
          obtain ⟨y, hyF, hy⟩ := hcsF _ (List.mem_of_getElem? hcs')
          have := hDd _ (by rw [← hy]; exact (hin y hyF).1) (by rw [← hy]; exact hmem y hyF) hwt
          rw [hsP.2 p' _ hcs'] at this
          have : p' < s := by simpa using this
          omega
        · omega
      obtain ⟨hw, hres⟩ := hres hsp
      have hsP' : StP cs (also D x.1) (s + 1) := by
        refine ⟨by have := (List.getElem?_eq_some_iff.1 hp).1; omega, fun i c hc => ?_⟩
        unfold also
        by_cases hcx : c = x.1
        · subst hcx
          rw [if_pos rfl, hc2 i p _ hc hp, decide_eq_true (by omega)]
        · rw [if_neg hcx, hsP.2 i c hc]
          have : i ≠ s := fun e => hcx (by rw [e, hsp, hp] at hc; exact (Option.some.inj hc).symm)
          by_cases hi : i < s
          · rw [decide_eq_true hi, decide_eq_true (by omega)]
          · rw [decide_eq_false hi, decide_eq_false (by omega)]
      have fin : ∀ (v : Value) (w'' : World), x.2.2 (s + 1) v w'' → (∀ y ∈ F, y.2.2 s (slot b y.2.1) w' → y.2.2 (s + 1) (slot b y.2.1) w'') →
          (∀ j q d, n0 ≤ j → j < n → j ∈ fl → D j = true → ops[j]? = some q → q.dst = some d → ∀ y ∈ F, y.1 = j → ∀ s', StP cs (also D x.1) s' → y.2.2 s' (slot b d) w'') ∧ ∀ y ∈ F, y.1 = x.1 → ∀ s', StP cs (also D x.1) s' → y.2.2 s' v w'' := fun v w'' hv hk => by
        refine ⟨fun j q d hj hj' hjf hD hq hd' y hy hyj s' hs' => ?_, fun y hy hyx s' hs' => ?_⟩
        · rw [hs'.uniq hsP']
          have hdy := hd y hy
          rw [hyj, hq] at hdy
          have hdd : y.2.1 = d := Option.some.inj (hdy.symm.trans hd')
          subst hdd
          exact hk y hy (hold j q _ hj hj' hjf hD hq hd' y hy hyj s hsP)
        · rw [hs'.uniq hsP', hu y hy x hxF hyx]; exact hv
      rcases hres with ⟨v, w'', hr, hx', hph', hv, hk⟩ | ⟨f, args, hr, hc⟩
      · obtain ⟨f1, f2⟩ := fin v w'' hv hk
        exact ⟨hw, .inl ⟨v, w'', hr, hx', f1, f2, s + 1, hsP', hph'⟩⟩
      · refine ⟨hw, .inr (.inl ⟨f, args, hr, hc.mono fun e w'' ⟨v, he, hx', hph', hv, hk⟩ => ?_⟩)⟩
        obtain ⟨f1, f2⟩ := fin v w'' hv hk
        exact ⟨v, he, hx', f1, f2, s + 1, hsP', hph'⟩
  · have hall : StP cs (fun k => fl.contains k && decide (k < n)) cs.length := ⟨Nat.le_refl _, fun i c hc => by
      obtain ⟨x, hxF, rfl⟩ := hcsF c (List.mem_of_getElem? hc)
      have h1 := (hin x hxF).2
      have h2 := (List.getElem?_eq_some_iff.1 hc).1
      have h3 := hmem x hxF
      rw [decide_eq_true h2]
      show (fl.contains x.1 && decide (x.1 < n)) = true
      rw [decide_eq_true h1]
      simpa using h3⟩
    refine hA.2 b w' hx (fr_heldT (fl := fl) (M := n0) (n := n) hfl hd hs hdf hF hsl) (fun x hxF => ?_) ?_
    · have hdx := hd x hxF
      cases hp : ops[x.1]? with
      | none => rw [hp] at hdx; cases hdx
      | some p =>
        rw [hp] at hdx
        exact hr x.1 p x.2.1 (hin x hxF).1 (hin x hxF).2 hp (hmem x hxF) hdx x hxF rfl _ hall
    · obtain ⟨s, hs1, hs2⟩ := hph
      rw [← hs1.uniq hall]; exact hs2
end
end Go.Fw
