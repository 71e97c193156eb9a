/- What is proved: lemmas and contracts, part 2 of what the theorem of YtfhalnobaeogkaaDoorPackPR leans on. No further condition. -/
import Derived.Test.YtfhalnobaeogkaaDoorProg
import Derived.Test.YtfhalnobaeogkaaDoorRows
import Derived.Below
import Derived.ChangeOld
import Derived.Deep.SlicePairs
import Derived.Deep.Slices
import Derived.Great.BuildSlice
import Derived.KernelRfl
import Derived.LaidMore
import Derived.Laws.Build
import Derived.Laws.BytesArg
import Derived.Laws.IdiomCopy
import Derived.Laws.StructEq
import Derived.Lib.ConvBytes
import Derived.Maps.AppendAt
import Derived.OpenShut
import Derived.ProofKit
import Derived.SevenTiedAt
import Derived.ShutString
import Derived.SizedLaws
import Derived.Stop.BytesEq
import Derived.Stop.Joined
import Derived.WalkKit
import Derived.Test.YtfhalnobaeogkaaDoorPackPR1
set_option linter.unusedVariables false
set_option linter.unusedSimpArgs false
namespace Go.Fw
open Go Go.RowKit
section
variable {P : Program} {ops : Array Oper} {Q : Exit → Act → World → Prop}
structure BInv (ops : Array Oper) (w0 : World) (N m n : Nat) (fl : List Nat) (R : Nat → (Nat → Bool) → Value → World → Prop) (Φ : (Nat → Bool) → World → Prop) (a0 : Act) (val : Nat → Value) (listed : Array Bool) (a : Act) (w : World) : Prop where
 sz : listed.size = ops.size
 lo : ∀ j, j < m → listed.getD j false = true
 hi : ∀ j, n ≤ j → listed.getD j false = false
 cl : ∀ j o, ops[j]? = some o → m ≤ j → listed.getD j false = true → ∀ e ∈ o.after, Region.binds .any e = true → listed.getD e.on false = true
 ext : Ext w0 w
 tsz : a.tmps.size = N
 dfs : a.defers = a0.defers
 wrd : ∀ j o d, m ≤ j → j < n → ops[j]? = some o → o.dst = some d → listed.getD j false = true → j ∉ fl → slot a d = val j
 wrf : ∀ j o d, m ≤ j → j < n → ops[j]? = some o → o.dst = some d → listed.getD j false = true → j ∈ fl → R j (bits fl listed) (slot a d) w
 un : ∀ t, (∀ j o, m ≤ j → j < n → ops[j]? = some o → listed.getD j false = true → o.dst ≠ some t) → slot a t = slot a0 t
 phi : Φ (bits fl listed) w
section head
variable {w0 : World} {N m n : Nat} {fl : List Nat} {R : Nat → (Nat → Bool) → Value → World → Prop} {Φ : (Nat → Bool) → World → Prop} {a0 A : Act} {val : Nat → Value}
def FY (P : Program) (ops : Array Oper) (w0 : World) (N m n : Nat) (fl : List Nat) (R : Nat → (Nat → Bool) → Value → World → Prop) (Φ : (Nat → Bool) → World → Prop) (A : Act) (i : Nat) (o : Oper) : Prop :=
 ∀ (D : Nat → Bool) (a : Act) (w : World), Ext w0 w → a.tmps.size = N → a.defers = A.defers → (∀ t, ¬ flSlot ops m n fl t → slot a t = slot A t) → D i = false → (∀ j, m ≤ j → j ∈ fl → waits ops i j = true → D j = true) →
  (∀ j p d, m ≤ j → j < n → j ∈ fl → D j = true → ops[j]? = some p → p.dst = some d → R j D (slot a d) w) → Φ D w →
  Region.wanted o (yielded ops a.tmps) = true ∧ ((∃ v w', (execOp a.eval o).run P w = .ok (.value v) w' ∧ Ext w0 w' ∧ (∀ j p d, m ≤ j → j < n → j ∈ fl → D j = true → ops[j]? = some p → p.dst = some d → R j (also D i) (slot a d) w') ∧ R i (also D i) v w' ∧ Φ (also D i) w') ∨
   (∃ f args, (execOp a.eval o).run P w = .ok (.enter f args) w ∧ Calls P f args w (fun e w' => ∃ v, e = .returned v ∧ Ext w0 w' ∧ (∀ j p d, m ≤ j → j < n → j ∈ fl → D j = true → ops[j]? = some p → p.dst = some d → R j (also D i) (slot a d) w') ∧ R i (also D i) v w' ∧ Φ (also D i) w')) ∨
   (o.dst = none ∧ ((∃ w', (execOp a.eval o).run P w = .ok .skip w' ∧ Ext w0 w' ∧ (∀ j p d, m ≤ j → j < n → j ∈ fl → D j = true → ops[j]? = some p → p.dst = some d → R j (also D i) (slot a d) w') ∧ Φ (also D i) w') ∨
    ∃ f args, (execOp a.eval o).run P w = .ok (.enter f args) w ∧ Calls P f args w (fun e w' => ∃ v, e = .returned v ∧ Ext w0 w' ∧ (∀ j p d, m ≤ j → j < n → j ∈ fl → D j = true → ops[j]? = some p → p.dst = some d → R j (also D i) (slot a d) w') ∧ Φ (also D i) w'))))
theorem BInv.agree (hok : AOk ops N m n fl) (S : HSpec P ops w0 m n fl a0 A val) {listed : Array Bool} {a : Act} {w : World} (I : BInv ops w0 N m n fl R Φ a0 val listed a w)
  {i : Nat} {o : Oper} (hm : m ≤ i) (hn : i < n) (ho : ops[i]? = some o) (hdep : ∀ e ∈ o.after, Region.binds .any e = true → listed.getD e.on false = true) :
  ∀ t ∈ o.looksAt ops, ¬ flSlot ops m n fl t → slot A t = slot a t := by
 intro t ht hnfl
 by_cases hex : ∃ j p, m ≤ j ∧ j < n ∧ ops[j]? = some p ∧ p.dst = some t
 ·
  obtain ⟨j, p, hj, hj', hp, hd⟩ := hex
  obtain ⟨_, hw, _⟩ := hok.look i o j p t hm hn ho hj hj' hp hd ht
  have hnf : j ∉ fl := fun h => hnfl ⟨j, p, hj, hj', h, hp, hd⟩
  obtain ⟨e, he, hb, hon⟩ := waits_spec ho hw
  have hl := hdep e he hb
  rw [hon] at hl
  rw [S.wr j p t hj hj' hp hnf hd, I.wrd j p t hj hj' hp hd hl hnf]
 ·
  rw [S.un t fun j p hj hj' hp _ hd => hex ⟨j, p, hj, hj', hp, hd⟩, I.un t fun j p hj hj' hp _ hd => hex ⟨j, p, hj, hj', hp, hd⟩]
theorem BInv.next (hok : AOk ops N m n fl) {listed : Array Bool} {a : Act} {w w' : World} (I : BInv ops w0 N m n fl R Φ a0 val listed a w)
  {i : Nat} {o : Oper} {v : Value} (hm : m ≤ i) (hn : i < n) (ho : ops[i]? = some o) (hun : listed.getD i false = false)
  (hdep : ∀ e ∈ o.after, Region.binds .any e = true → listed.getD e.on false = true) (hx : Ext w0 w') (hvd : i ∉ fl → v = val i)
  (hvf : i ∈ fl → ∀ d, o.dst = some d → R i (bits fl (listed.setIfInBounds i true)) v w') (hold : ∀ j p d, m ≤ j → j < n → j ∈ fl → listed.getD j false = true → ops[j]? = some p → p.dst = some d → R j (bits fl (listed.setIfInBounds i true)) (slot a d) w') (hph : Φ (bits fl (listed.setIfInBounds i true)) w') :
  BInv ops w0 N m n fl R Φ a0 val (listed.setIfInBounds i true) (a.put o.dst v) w' := by
 have hi : i < listed.size := by rw [I.sz]; exact (Array.getElem?_eq_some_iff.1 ho).1
 have hset : ∀ j, (listed.setIfInBounds i true).getD j false = true → j ≠ i → listed.getD j false = true := fun j h hne => by rwa [getD_set_other (Ne.symm hne)] at h
 have hmono : ∀ j, listed.getD j false = true → (listed.setIfInBounds i true).getD j false = true := fun j h => by
  by_cases hj : i = j
  ·
   subst hj; exact getD_set_self hi
  ·
   rwa [getD_set_other hj]
 have hkeep : ∀ j p d, m ≤ j → j < n → ops[j]? = some p → j ≠ i → p.dst = some d → slot (a.put o.dst v) d = slot a d := fun j p d hj hj' hp hne hd =>
  slot_put_ne v (hok.once i o j p d hm hn ho hj hj' hp hne hd)
 refine ⟨by simpa using I.sz, fun j hj => hmono j (I.lo j hj), fun j hj => ?_, fun j p hp hj hl e he hb => ?_, hx, by rw [put_size]; exact I.tsz, by rw [put_defers]; exact I.dfs, fun j p d hj hj' hp hd hl hnf => ?_, fun j p d hj hj' hp hd hl hf => ?_, fun t ht => ?_, hph⟩
 ·
  rw [getD_set_other (by omega)]; exact I.hi j hj
 ·
  by_cases hji : j = i
  ·
   subst hji
   have : p = o := Option.some.inj (hp.symm.trans ho)
   subst this
   exact hmono _ (hdep e he hb)
  ·
   exact hmono _ (I.cl j p hp hj (hset j hl hji) e he hb)
 ·
  by_cases hji : j = i
  ·
   subst hji
   have : p = o := Option.some.inj (hp.symm.trans ho)
   subst this
   rw [hd, slot_put_same v (by rw [I.tsz]; exact hok.dst j p d hj hj' hp hd)]
   exact hvd hnf
  ·
   rw [hkeep j p d hj hj' hp hji hd]
   exact I.wrd j p d hj hj' hp hd (hset j hl hji) hnf
 ·
  by_cases hji : j = i
  ·
   subst hji
   have : p = o := Option.some.inj (hp.symm.trans ho)
   subst this
   rw [hd, slot_put_same v (by rw [I.tsz]; exact hok.dst j p d hj hj' hp hd)]
   exact hvf hf d hd
  ·
   rw [hkeep j p d hj hj' hp hji hd]
   exact hold j p d hj hj' hf (hset j hl hji) hp hd
 ·
  rw [slot_put_ne v (ht i o hm hn ho (getD_set_self hi))]
  exact I.un t fun j p hj hj' hp hl => ht j p hj hj' hp (hmono j hl)
theorem BInv.ready_lt (hok : AOk ops N m n fl) {listed : Array Bool} {a : Act} {w : World} (I : BInv ops w0 N m n fl R Φ a0 val listed a w)
  {i : Nat} (hm : m ≤ i) (hn : i < n) (hun : listed.getD i false = false) : ∀ t ∈ Region.ready .any ops listed, m ≤ t ∧ t < n := by
 intro t ht
 obtain ⟨h1, o, ho, hall⟩ := mem_ready.1 ht
 have htl : t < ops.size := (Array.getElem?_eq_some_iff.1 ho).1
 rw [getD_true_false (by rw [I.sz]; exact htl)] at h1
 refine ⟨Nat.le_of_not_lt fun h => (by rw [I.lo t h] at h1; cases h1), Nat.lt_of_not_le fun hge => ?_⟩
 rcases Nat.lt_or_eq_of_le hge with hgt | heq
 ·
  obtain ⟨s, hs, _, hw⟩ := hok.tail t hgt htl
  obtain ⟨e, he, hb, hon⟩ := waits_spec ho hw
  have := hall e he hb
  rw [hon, I.hi s hs] at this
  cases this
 ·
  subst heq
  have key : ∀ k i, n - i = k → m ≤ i → i < n → listed.getD i false = false → False := by
   intro k
   induction k using Nat.strongRecOn with
   | _ k ih =>
    intro i hk hm hn hun
    obtain ⟨j, hj, hij, hw⟩ := hok.sink htl i hm hn
    rcases Nat.lt_or_eq_of_le hj with hlt | heq
    ·
     cases hl : listed.getD j false with
     | false => exact ih (n - j) (by omega) j rfl (by omega) hlt hl
     | true =>
      cases hp : ops[j]? with
      | none => have := Array.getElem?_eq_none_iff.1 hp; omega
      | some p =>
       obtain ⟨e, he, hb, hon⟩ := waits_spec hp hw
       have := I.cl j p hp (by omega) hl e he hb
       rw [hon, hun] at this
       cases this
    ·
     subst heq
     obtain ⟨e, he, hb, hon⟩ := waits_spec ho hw
     have := hall e he hb
     rw [hon, hun] at this
     cases this
  exact key _ i rfl hm hn hun
theorem BInv.some_ready (hok : AOk ops N m n fl) {listed : Array Bool} {a : Act} {w : World} (I : BInv ops w0 N m n fl R Φ a0 val listed a w)
  {i : Nat} (hm : m ≤ i) (hn : i < n) (hun : listed.getD i false = false) : Region.ready .any ops listed ≠ [] := by
 have key : ∀ k i, i = k → m ≤ i → i < n → listed.getD i false = false → ∃ t, t ∈ Region.ready .any ops listed := by
  intro k
  induction k using Nat.strongRecOn with
  | _ k ih =>
   intro i hk hm hn hun
   subst hk
   cases ho : ops[i]? with
   | none => have := Array.getElem?_eq_none_iff.1 ho; have := hok.ns; omega
   | some o =>
    have hil : i < listed.size := by rw [I.sz]; exact (Array.getElem?_eq_some_iff.1 ho).1
    by_cases hall : ∀ e ∈ o.after, Region.binds .any e = true → listed.getD e.on false = true
    ·
     exact ⟨i, mem_ready.2 ⟨by rw [getD_true_false hil]; exact hun, o, ho, hall⟩⟩
    ·
     have : ∃ e ∈ o.after, Region.binds .any e = true ∧ listed.getD e.on false ≠ true := by
      apply Classical.byContradiction
      intro hno
      exact hall fun e he hb => Classical.byContradiction fun hc => hno ⟨e, he, hb, hc⟩
     obtain ⟨e, he, hb, hc⟩ := this
     have hlt := hok.back i o hm hn ho e he hb
     have hun' : listed.getD e.on false = false := by simpa using hc
     have hme : m ≤ e.on := Nat.le_of_not_lt fun h => (by rw [I.lo _ h] at hun'; cases hun')
     exact ih e.on hlt e.on rfl hme (by omega) hun'
 obtain ⟨t, ht⟩ := key i i rfl hm hn hun
 intro h0
 rw [h0] at ht
 cases ht
theorem head_allB (hok : AOk ops N m n fl) (hR : ∀ j D v w w', R j D v w → Ext w w' → R j D v w') (hΦ : ∀ D w w', Φ D w → Ext w w' → Φ D w') (S : HSpec P ops w0 m n fl a0 A val) (hsz : A.tmps.size = N)
  (hdf : A.defers = a0.defers) (hfl : ∀ i o, m ≤ i → i < n → ops[i]? = some o → i ∈ fl → FY P ops w0 N m n fl R Φ A i o)
  (hend : ∀ a w, BInv ops w0 N m n fl R Φ a0 val (upto ops.size n) a w → Run P ops Q n a w) :
  ∀ (k : Nat) (listed : Array Bool) (a : Act) (w : World), open_ m n listed = k → BInv ops w0 N m n fl R Φ a0 val listed a w → wpAny P .any ops Q (k + (ops.size - n)) listed a w := by
 intro k
 induction k with
 | zero =>
  intro listed a w hk I
  have hall := open_zero hk
  have : listed = upto ops.size n := by
   apply Array.ext
   ·
    rw [I.sz, upto_size]
   ·
    intro j h1 h2
    have h1' : listed.getD j false = listed[j] := by simp [Array.getD, h1]
    have h2' : (upto ops.size n).getD j false = (upto ops.size n)[j] := by simp [Array.getD, h2]
    rw [← h1', ← h2', upto_getD, if_pos (by rw [← I.sz]; exact h1)]
    by_cases hjn : j < n
    ·
     by_cases hjm : j < m
     ·
      rw [I.lo j hjm]; simp [hjn]
     ·
      rw [hall j (by omega) hjn]; simp [hjn]
    ·
     rw [I.hi j (by omega)]; simp [hjn]
  subst this
  rw [Nat.zero_add]
  exact hend a w I
 | succ k ih =>
  intro listed a w hk I
  have hex : ∃ i, m ≤ i ∧ i < n ∧ listed.getD i false = false := by
   apply Classical.byContradiction
   intro hno
   have : open_ m n listed = 0 := by
    unfold open_
    rw [List.filter_eq_nil_iff.2, List.length_nil]
    intro j hj hc
    simp only [Bool.and_eq_true, decide_eq_true_eq, Bool.not_eq_true'] at hc
    exact hno ⟨j, hc.1, List.mem_range.1 hj, hc.2⟩
   omega
  obtain ⟨i0, hm0, hn0, hun0⟩ := hex
  have hsel := fun j o ho cs b => Region.noSelect_spec hok.nosel j o cs b ho
  rw [show k + 1 + (ops.size - n) = (k + (ops.size - n)) + 1 by omega]
  refine ⟨fun h0 => absurd h0 (I.some_ready hok hm0 hn0 hun0), fun i hi => ?_⟩
  obtain ⟨hm, hn⟩ := I.ready_lt hok hm0 hn0 hun0 i hi
  obtain ⟨h1, o, ho, hdep⟩ := mem_ready.1 hi
  have hil : i < listed.size := by rw [I.sz]; exact (Array.getElem?_eq_some_iff.1 ho).1
  rw [getD_true_false hil] at h1
  have hag := I.agree hok S hm hn ho hdep
  have hop : open_ m n (listed.setIfInBounds i true) = k := by
   have := open_set hm hn hil h1
   omega
  unfold wpOp
  rw [ho]
  simp only
  by_cases hf : i ∈ fl
  ·
   have hmag : ∀ t ∈ o.looksAt ops, slot (mix ops m n fl A a) t = slot a t := fun t ht => by
    by_cases hfs : flSlot ops m n fl t
    ·
     exact mix_in (I.tsz.trans hsz.symm) hfs
    ·
     rw [mix_out hfs]; exact hag t ht hfs
   have hms : (mix ops m n fl A a).tmps.size = a.tmps.size := by rw [mix_size, hsz, I.tsz]
   have hsl : ∀ j p d, m ≤ j → j < n → j ∈ fl → ops[j]? = some p → p.dst = some d → slot (mix ops m n fl A a) d = slot a d := fun j p d hj hj' hjf hp hd => mix_in (I.tsz.trans hsz.symm) ⟨j, p, hj, hj', hjf, hp, hd⟩
   have hb : ∀ j, bits fl listed j = true → listed.getD j false = true := fun j h => by
    simp only [bits, Bool.and_eq_true] at h; exact h.2
   have hb' : ∀ j, j ∈ fl → listed.getD j false = true → bits fl listed j = true := fun j h h' => by
    simp only [bits, Bool.and_eq_true]; exact ⟨by simpa using h, h'⟩
   obtain ⟨hw, hres⟩ := hfl i o hm hn ho hf (bits fl listed) (mix ops m n fl A a) w I.ext (by rw [mix_size, hsz]) rfl (fun t ht => mix_out ht) (by simp only [bits, h1, Bool.and_false])
    (fun j hj hjf hw => by
     obtain ⟨e, he, hbd, hon⟩ := waits_spec ho hw
     have := hdep e he hbd
     rw [hon] at this
     exact hb' j hjf this)
    (fun j p d hj hj' hjf hD hp hd => by rw [hsl j p d hj hj' hjf hp hd]; exact I.wrf j p d hj hj' hp hd (hb j hD) hjf) I.phi
   have hcg := execOp_congr o (fun cs b => hsel i o ho cs b) (eval_same hmag)
   rw [if_pos (by rw [← wanted_same hms hmag]; exact hw)]
   refine .inl ?_
   have go : ∀ (v : Value) (w' : World), Ext w0 w' → (∀ j p d, m ≤ j → j < n → j ∈ fl → bits fl listed j = true → ops[j]? = some p → p.dst = some d → R j (also (bits fl listed) i) (slot (mix ops m n fl A a) d) w') → (∀ d, o.dst = some d → R i (also (bits fl listed) i) v w') → Φ (also (bits fl listed) i) w' →
     wpAny P .any ops Q (k + (ops.size - n)) (listed.setIfInBounds i true) (a.put o.dst v) w' := fun v w' hx hold hv hp0 =>
    ih _ _ _ hop (I.next hok hm hn ho h1 hdep hx (fun h => absurd hf h) (fun _ d hd => by rw [bits_also hf hil]; exact hv d hd) (fun j p d hj hj' hjf hl hp hd => by
     rw [bits_also hf hil, ← hsl j p d hj hj' hjf hp hd]
     exact hold j p d hj hj' hjf (hb' j hjf hl) hp hd) (by rw [bits_also hf hil]; exact hp0))
   unfold Oper.wp
   rcases hres with ⟨v, w', hr, hx, hold, hv, hp0⟩ | ⟨f, args, hr, hc⟩ | ⟨hdn, ⟨w', hr, hx, hold, hp0⟩ | ⟨f, args, hr, hc⟩⟩
   ·
    rw [← hcg, hr]
    exact go v w' hx hold (fun _ _ => hv) hp0
   ·
    rw [← hcg, hr]
    refine Calls.mono hc ?_
    rintro e w' ⟨v, rfl, hx, hold, hv, hp0⟩
    exact go v w' hx hold (fun _ _ => hv) hp0
   ·
    rw [← hcg, hr]
    exact go undef w' hx hold (fun d hd => by rw [hdn] at hd; cases hd) hp0
   ·
    rw [← hcg, hr]
    refine Calls.mono hc ?_
    rintro e w' ⟨v, rfl, hx, hold, hp0⟩
    exact go v w' hx hold (fun d hd => by rw [hdn] at hd; cases hd) hp0
  ·
   have hag' : ∀ t ∈ o.looksAt ops, slot A t = slot a t := fun t ht => hag t ht (hok.noFl hm hn ho hf t ht)
   have hwa := wanted_same (hsz.trans I.tsz.symm) hag'
   have go : ∀ (v : Value) (w' : World), Ext w w' → v = val i →
     wpAny P .any ops Q (k + (ops.size - n)) (listed.setIfInBounds i true) (a.put o.dst v) w' := fun v w' hx hd =>
    ih _ _ _ hop (I.next hok hm hn ho h1 hdep (I.ext.trans hx) (fun _ => hd) (fun h _ _ => absurd h hf) (fun j p d hj hj' hjf hl hp hd => by
     rw [bits_same hf]
     exact hR _ _ _ _ _ (I.wrf j p d hj hj' hp hd hl hjf) hx) (by rw [bits_same hf]; exact hΦ _ _ _ I.phi hx))
   rcases S.ex i o hm hn ho hf with ⟨hw, hq⟩ | ⟨hw, hq⟩
   ·
    rw [if_pos (by rw [← hwa]; exact hw)]
    refine .inl ?_
    have := (hq.same (fun cs b => hsel i o ho cs b) hag') w I.ext
    unfold Oper.wp
    rcases this with hr | ⟨hr, hv⟩ | ⟨f, args, hr, hc⟩
    ·
     rw [hr]
     exact go _ w (Ext.refl w) rfl
    ·
     rw [hr]
     exact go _ w (Ext.refl w) hv.symm
    ·
     rw [hr]
     refine Calls.mono hc ?_
     rintro e w' ⟨rfl, hx⟩
     exact go _ w' hx rfl
   ·
    rw [if_neg (by rw [← hwa, hw]; exact Bool.false_ne_true)]
    exact go _ w (Ext.refl w) hq.symm
theorem run_headB (N m n : Nat) (fl : List Nat) (R : Nat → (Nat → Bool) → Value → World → Prop) (Φ : (Nat → Bool) → World → Prop) (l : List Oper) (hB : headA ops N m n fl = true) (hl : (ops.toList.drop m).take (n - m) = l) {a : Act} {w0 w : World} (hx0 : Ext w0 w) (hN : a.tmps.size = N) (hphi0 : Φ (bits fl (upto ops.size m)) w) (hR : ∀ j D v w w', R j D v w → Ext w w' → R j D v w') (hΦ : ∀ D w w', Φ D w → Ext w w' → Φ D w')
  (h : dwalk P ops w0 fl (fun A => (A.defers = a.defers → ∀ i o, m ≤ i → i < n → ops[i]? = some o → i ∈ fl → FY P ops w0 N m n fl R Φ A i o) ∧
   ∀ a' w', Ext w0 w' → a'.tmps.size = N → a'.defers = a.defers →
    (∀ t, ¬ flSlot ops m n fl t → slot a' t = slot A t) →
    (∀ i o d, m ≤ i → i < n → ops[i]? = some o → i ∈ fl → o.dst = some d → R i (fun k => fl.contains k && decide (k < n)) (slot a' d) w') → Φ (fun k => fl.contains k && decide (k < n)) w' → Run P ops Q n a' w') m l a) : Run P ops Q m a w := by
 have hok := headA_spec hB
 have hlen : l.length = n - m := by rw [← hl]; have := hok.ns; simp; omega
 obtain ⟨A, val, ⟨hfl, hK⟩, S⟩ := dwalk_specA hok l m a (Nat.le_refl _) (by have := hok.mn; omega) (fun j hj => by
  rw [← hl, List.getElem?_take, if_pos (by omega), List.getElem?_drop]; simp) hN h
 have hsize : ops.size - m = (n - m) + (ops.size - n) := by have := hok.ns; have := hok.mn; omega
 unfold Run
 rw [hsize]
 refine head_allB hok hR hΦ S (by rw [S.size, hN]) S.dfs (hfl S.dfs) (fun a' w' I => ?_) _ _ _ _ ?_ ⟨upto_size _ _, fun j hj => ?_, fun j hj => ?_, fun j o ho hm hl => ?_, hx0, hN, rfl, fun j o d hm hn ho hd hl => ?_, fun j o d hm hn ho hd hl => ?_, fun _ _ => rfl, hphi0⟩
 ·
  have hall : ∀ j, j < n → (upto ops.size n).getD j false = true := fun j hj => by
   rw [upto_getD, if_pos (by have := hok.ns; omega)]; simp [hj]
  have hbits : bits fl (upto ops.size n) = fun k => fl.contains k && decide (k < n) := by
   funext k
   unfold bits
   rw [upto_getD]
   by_cases hk : k < ops.size
   ·
    rw [if_pos hk]
   ·
    rw [if_neg hk, decide_eq_false (by have := hok.ns; omega)]
  refine hK a' w' I.ext I.tsz I.dfs (fun t ht => ?_) (fun i o d hm hn ho hf hd => by
   have := I.wrf i o d hm hn ho hd (hall i hn) hf
   rwa [hbits] at this) (by have := I.phi; rwa [hbits] at this)
  by_cases hex : ∃ j p, m ≤ j ∧ j < n ∧ ops[j]? = some p ∧ p.dst = some t
  ·
   obtain ⟨j, p, hj, hj', hp, hd⟩ := hex
   have hnf : j ∉ fl := fun hf => ht ⟨j, p, hj, hj', hf, hp, hd⟩
   rw [S.wr j p t hj hj' hp hnf hd, I.wrd j p t hj hj' hp hd (hall j hj') hnf]
  ·
   rw [S.un t fun j p hj hj' hp _ hd => hex ⟨j, p, hj, hj', hp, hd⟩, I.un t fun j p hj hj' hp _ hd => hex ⟨j, p, hj, hj', hp, hd⟩]
 ·
  unfold open_
  have : ((List.range n).filter fun j => decide (m ≤ j) && !(upto ops.size m).getD j false) = (List.range n).filter fun j => decide (m ≤ j) :=
   List.filter_congr fun j hj => by
    rw [upto_getD]
    have := hok.ns
    have := List.mem_range.1 hj
    rw [if_pos (by omega)]
    by_cases h : m ≤ j
    ·
     simp [h, show ¬ j < m by omega]
    ·
     simp [h]
  rw [this]
  have key : ∀ n, m ≤ n → ((List.range n).filter fun j => decide (m ≤ j)).length = n - m := by
   intro n
   induction n with
   | zero => intro _; simp
   | succ n ih =>
    intro h
    rw [List.range_succ, List.filter_append, List.length_append]
    by_cases hmn : m ≤ n
    ·
     rw [ih hmn]; simp [hmn]; omega
    ·
     have : m = n + 1 := by omega
     subst this
     rw [List.filter_eq_nil_iff.2 (fun j hj => by have := List.mem_range.1 hj; simp; omega)]
     simp
  exact key n hok.mn
 ·
  rw [upto_getD, if_pos (by have := hok.ns; have := hok.mn; omega)]; simp [hj]
 ·
  rw [upto_getD]
  split
  ·
   have := hok.mn; simp; omega
  ·
   rfl
 ·
  have := (Array.getElem?_eq_some_iff.1 ho).1
  rw [upto_getD, if_pos this] at hl
  simp at hl
  omega
 ·
  have := (Array.getElem?_eq_some_iff.1 ho).1
  rw [upto_getD, if_pos this] at hl
  simp at hl
  omega
 ·
  have := (Array.getElem?_eq_some_iff.1 ho).1
  rw [upto_getD, if_pos this] at hl
  simp at hl
  omega
end head
end
end Go.Fw
namespace Go.Fw
open Go Go.RowKit
section
variable {P : Program} {ops : Array Oper} {Q : Exit → Act → World → Prop} {N : Nat} {a : Act} {w w0 : World} {m : List (Nat × Value)} {o : Oper}
abbrev FloT := List (Nat × Nat × (Nat → Value → World → Prop))
def heldT (F : FloT) (a : Act) : List (Nat × Value) := F.map fun x => (x.2.1, slot a x.2.1)
def StP (cs : List Nat) (D : Nat → Bool) (s : Nat) : Prop := s ≤ cs.length ∧ ∀ i c, cs[i]? = some c → D c = decide (i < s)
theorem StP.uniq {cs : List Nat} {D : Nat → Bool} {s s' : Nat} (h : StP cs D s) (h' : StP cs D s') : s = s' := by
 rcases Nat.lt_trichotomy s s' with hlt | he | hgt
 ·
  have hl : s < cs.length := Nat.lt_of_lt_of_le hlt h'.1
  have h1 := h.2 s _ (List.getElem?_eq_getElem hl)
  have h2 := h'.2 s _ (List.getElem?_eq_getElem hl)
  rw [h1, decide_eq_true hlt, decide_eq_false (Nat.lt_irrefl s)] at h2
  cases h2
 ·
  exact he
 ·
  have hl : s' < cs.length := Nat.lt_of_lt_of_le hgt h.1
  have h1 := h.2 s' _ (List.getElem?_eq_getElem hl)
  have h2 := h'.2 s' _ (List.getElem?_eq_getElem hl)
  rw [h2, decide_eq_true hgt, decide_eq_false (Nat.lt_irrefl s')] at h1
  cases h1
def csB (ops : Array Oper) (fl cs : List Nat) : Bool :=
 nodupB cs && cs.all fun c => fl.contains c && ((List.range cs.length).all fun i => i == 0 || cs.getD i 0 != c || waits ops c (cs.getD (i - 1) 0))
theorem nodupB_inj : ∀ l : List Nat, nodupB l = true → ∀ (i j c : Nat), l[i]? = some c → l[j]? = some c → i = j
 | [], _, i, _, _, h, _ => by cases i <;> cases h
 | z :: l, h, i, j, c, h1, h2 => by
  simp only [nodupB, Bool.and_eq_true, Bool.not_eq_true', List.contains_eq_mem, decide_eq_false_iff_not] at h
  cases i with
  | zero => cases j with
   | zero => rfl
   | succ j =>
    simp only [List.getElem?_cons_zero, List.getElem?_cons_succ, Option.some.injEq] at h1 h2
    exact absurd (h1 ▸ List.mem_of_getElem? h2) h.1
  | succ i => cases j with
   | zero =>
    simp only [List.getElem?_cons_zero, List.getElem?_cons_succ, Option.some.injEq] at h1 h2
    exact absurd (h2 ▸ List.mem_of_getElem? h1) h.1
   | succ j =>
    simp only [List.getElem?_cons_succ] at h1 h2
    rw [nodupB_inj l h.2 i j c h1 h2]
theorem csB_spec {fl cs : List Nat} (h : csB ops fl cs = true) : (∀ c ∈ cs, c ∈ fl) ∧ (∀ (i j c : Nat), cs[i]? = some c → cs[j]? = some c → i = j) ∧ ∀ (i c d : Nat), cs[i + 1]? = some c → cs[i]? = some d → waits ops c d = true := by
 simp only [csB, Bool.and_eq_true] at h
 obtain ⟨h1, h2⟩ := h
 refine ⟨fun c hc => ?_, nodupB_inj cs h1, fun i c d hi hj => ?_⟩
 ·
  have := List.all_eq_true.1 h2 c hc
  simp only [Bool.and_eq_true] at this
  simpa using this.1
 ·
  have := List.all_eq_true.1 h2 c (List.mem_of_getElem? hi)
  simp only [Bool.and_eq_true] at this
  have hl := (List.getElem?_eq_some_iff.1 hi).1
  have h3 := List.all_eq_true.1 this.2 (i + 1) (List.mem_range.2 hl)
  rw [List.getD_eq_getElem?_getD, List.getD_eq_getElem?_getD, Nat.add_sub_cancel, hi, hj] at h3
  simpa using h3
def TX (P : Program) (ops : Array Oper) (F : FloT) (Φ : Nat → World → Prop) (w0 : World) (o : Oper) (a : Act) (w : World) (s : Nat) (R : Nat → Value → World → Prop) : Prop :=
 Region.wanted o (yielded ops a.tmps) = true ∧ ((∃ v w', (execOp a.eval o).run P w = .ok (.value v) w' ∧ Ext w0 w' ∧ Φ (s + 1) w' ∧ R (s + 1) v w' ∧ ∀ y ∈ F, y.2.2 s (slot a y.2.1) w → y.2.2 (s + 1) (slot a y.2.1) w') ∨ ∃ f args, (execOp a.eval o).run P w = .ok (.enter f args) w ∧
  Calls P f args w (fun e w' => ∃ v, e = .returned v ∧ Ext w0 w' ∧ Φ (s + 1) w' ∧ R (s + 1) v w' ∧ ∀ y ∈ F, y.2.2 s (slot a y.2.1) w → y.2.2 (s + 1) (slot a y.2.1) w'))
theorem tx_call {F : FloT} {Φ : Nat → World → Prop} {s : Nat} {R : Nat → Value → World → Prop} {f : FuncId} {xs : List Operand} {vs : List Value} {ats : Array TypeId} (hw : Region.wanted o (yielded ops a.tmps) = true) (hf : CallOk P f)
  (ho : o.op = .call { callee := .value (.func f), args := xs.toArray, argTypes := ats }) (hx : Evs a xs vs) (hc : Calls P f vs.toArray w fun e w' => ∃ v, e = .returned v ∧ Ext w0 w' ∧ Φ (s + 1) w' ∧ R (s + 1) v w' ∧ ∀ y ∈ F, y.2.2 s (slot a y.2.1) w → y.2.2 (s + 1) (slot a y.2.1) w') : TX P ops F Φ w0 o a w s R :=
 ⟨hw, .inr ⟨f, vs.toArray, run_callOp hf ho hx, hc⟩⟩
theorem tx_val {F : FloT} {Φ : Nat → World → Prop} {s : Nat} {R : Nat → Value → World → Prop} {v : Value} {w' : World} (hw : Region.wanted o (yielded ops a.tmps) = true) (hr : (execOp a.eval o).run P w = .ok (.value v) w') (hx : Ext w0 w') (hp : Φ (s + 1) w') (hv : R (s + 1) v w') (hk : ∀ y ∈ F, y.2.2 s (slot a y.2.1) w → y.2.2 (s + 1) (slot a y.2.1) w') : TX P ops F Φ w0 o a w s R :=
 ⟨hw, .inl ⟨v, w', hr, hx, hp, hv, hk⟩⟩
theorem tx_appB {F : FloT} {Φ : Nat → World → Prop} {s : Nat} {R : Nat → Value → World → Prop} {x y : Operand} {t e : TypeId} {z : Value} {ob : Option Nat} {l ml : List UInt8} {pad : List Value} {v : Value} {k : Nat} {w00 : World} {H : List Ent} (hw : Region.wanted o (yielded ops a.tmps) = true)
  (ho : o.op = .call { callee := .builtin .append, args := #[x, y], argTypes := #[t, t] }) (ht : P.underlying t = some (.slice e)) (hty : Ty P e z 1 1) (hzc : z.cells.size = 1)
  (hx : a.eval x = ownV ob l.length (l.length + pad.length)) (hy : a.eval y = v) (hS : St w00 w H) (hk : H[k]? = some ⟨true, ob, blk e (l.map vB ++ pad)⟩) (hob : ob = none → l = [] ∧ pad = []) (hcap : l.length + pad.length ≤ 9223372036854775807)
  (hr : Rd w v (ml.map vB)) (hn : l.length + ml.length ≤ 140737488355328)
  (h : ∀ ob' pad' w', (ob' = none → l ++ ml = [] ∧ pad' = []) → (l ++ ml).length + pad'.length ≤ 9223372036854775807 → St w00 w' (H.set k ⟨true, ob', blk e ((l ++ ml).map vB ++ pad')⟩) →
   Ext w0 w' ∧ Φ (s + 1) w' ∧ R (s + 1) (ownV ob' (l ++ ml).length ((l ++ ml).length + pad'.length)) w' ∧ ∀ y ∈ F, y.2.2 s (slot a y.2.1) w → y.2.2 (s + 1) (slot a y.2.1) w') : TX P ops F Φ w0 o a w s R := by
 obtain ⟨ob', pad', w', hrun, h2, h3, h4⟩ := run_append_St (ty := o.type) (xs := l.map vB) (ys := ml.map vB) ht hty hzc hS hk (fun h => ⟨by rw [(hob h).1]; rfl, (hob h).2⟩) (by rw [List.length_map]; exact hcap) hr (one_B _) (by simp only [List.length_map]; omega) (by simp only [List.length_map]; omega)
 simp only [List.length_map, ← List.length_append, ← List.map_append, List.map_eq_nil_iff] at hrun h2 h3 h4
 obtain ⟨g1, g2, g3, g4⟩ := h ob' pad' w' h2 h3 h4
 exact tx_val hw (run_appendOp ho hx hy hrun) g1 g2 g3 g4
theorem look_heldT {F : FloT} {a : Act} {m : List (Nat × Value)} {t : Nat} {v : Value} (h : look t (heldT F a ++ m) = some v) : (v = slot a t ∧ ∃ x ∈ F, x.2.1 = t) ∨ ((∀ x ∈ F, x.2.1 ≠ t) ∧ look t m = some v) := by
 induction F with
 | nil => exact .inr ⟨(fun _ h' => by cases h'), h⟩
 | cons x F ih =>
  simp only [heldT, List.map_cons, List.cons_append] at h
  by_cases ht : t = x.2.1
  ·
   subst ht
   rw [look_cons_eq] at h
   injection h with h
   exact .inl ⟨h.symm, x, List.mem_cons_self, rfl⟩
  ·
   rw [look_cons_ne ht] at h
   rcases ih h with ⟨h1, y, hy, h2⟩ | ⟨h1, h2⟩
   ·
    exact .inl ⟨h1, y, List.mem_cons_of_mem _ hy, h2⟩
   ·
    exact .inr ⟨fun y hy => by
     rcases List.mem_cons.1 hy with rfl | hy
     ·
      exact Ne.symm ht
     ·
      exact h1 y hy, h2⟩
theorem fr_heldT {F : FloT} {A b : Act} {M n : Nat} {fl : List Nat} (hfl : fl = F.map (·.1)) (hd : ∀ x ∈ F, (ops[x.1]?).bind (·.dst) = some x.2.1) (hs : b.tmps.size = N) (hdf : b.defers = a.defers) (hF : Fr N a m)
  (hsl : ∀ t, ¬ flSlot ops M n fl t → slot b t = slot A t) : ∀ mm, Fr N A mm → Fr N b (heldT F b ++ mm) := fun mm hm => by
 refine ⟨hs, hdf.trans hF.dfs, fun t v hv => ?_⟩
 rcases look_heldT hv with ⟨rfl, _⟩ | ⟨h1, h2⟩
 ·
  rfl
 ·
  rw [← hm.get t v h2]
  refine hsl t ?_
  rintro ⟨j, p, _, _, hjf, hp, hpd⟩
  rw [hfl] at hjf
  obtain ⟨x, hx, rfl⟩ := List.mem_map.1 hjf
  have := hd x hx
  rw [hp] at this
  have e : some x.2.1 = some t := this.symm.trans hpd
  injection e with e
  exact h1 x hx e
theorem nodup_injT : ∀ F : FloT, nodupB (F.map (·.1)) = true → ∀ x ∈ F, ∀ y ∈ F, x.1 = y.1 → x = y
 | [], _, _, hx, _, _, _ => by cases hx
 | z :: F, h, x, hx, y, hy, he => by
  simp only [List.map_cons, nodupB, Bool.and_eq_true, Bool.not_eq_true', List.contains_eq_mem, decide_eq_false_iff_not] at h
  rcases List.mem_cons.1 hx with rfl | hx1 <;> rcases List.mem_cons.1 hy with rfl | hy1
  ·
   rfl
  ·
   exact absurd (show x.1 ∈ F.map (fun x => x.1) from List.mem_map.2 ⟨y, hy1, he.symm⟩) h.1
  ·
   exact absurd (show y.1 ∈ F.map (fun x => x.1) from List.mem_map.2 ⟨x, hx1, he⟩) h.1
  ·
   exact nodup_injT F h.2 x hx1 y hy1 he
def FtE (v0 : Value) : Nat → Value → World → Prop := fun _ v _ => v = v0
theorem FtE.lasts (v0 : Value) : ∀ s, Lasts (FtE v0 s) := fun _ _ _ _ h _ => h
theorem run_headT {n0 n : Nat} (l : List Oper) (cs : List Nat) (Φ : Nat → World → Prop) (F : FloT) (hF : Fr N a m) (hx0 : Ext w0 w) (hΦ0 : Φ 0 w) (hΦ : ∀ s, ∀ w w', Φ s w → Ext w w' → Φ s w') (hB : headA ops N n0 n (F.map (·.1)) = true) (hl : (ops.toList.drop n0).take (n - n0) = l)
  (hd : ∀ x ∈ F, (ops[x.1]?).bind (·.dst) = some x.2.1) (hR : ∀ x ∈ F, ∀ s, Lasts (x.2.2 s)) (hin : ∀ x ∈ F, n0 ≤ x.1 ∧ x.1 < n) (hu' : nodupB (F.map (·.1)) = true) (hcs : csB ops (F.map (·.1)) cs = true)
  (h : dwalk P ops w0 (F.map (·.1)) (fun A => (∀ x ∈ F, ∀ s b w', s ≤ cs.length → Ext w0 w' → (∀ mm, Fr N A mm → Fr N b (heldT F b ++ mm)) → (∀ y ∈ F, waits ops x.1 y.1 = true → y.2.2 s (slot b y.2.1) w') → Φ s w' →
    ∃ o, ops[x.1]? = some o ∧ ((x.1 ∉ cs ∧ SX P ops o b w' (x.2.2 s)) ∨ ∃ p, cs[p]? = some x.1 ∧ (s = p → TX P ops F Φ w0 o b w' s x.2.2))) ∧
   ∀ b w', Ext w0 w' → (∀ mm, Fr N A mm → Fr N b (heldT F b ++ mm)) → (∀ x ∈ F, x.2.2 cs.length (slot b x.2.1) w') → Φ cs.length w' → Run P ops Q n b w') n0 l a) : Run P ops Q n0 a w := by
 have hu := nodup_injT F hu'
 obtain ⟨hc1, hc2, hc3⟩ := csB_spec hcs
 obtain ⟨fl, hfl⟩ : ∃ fl, fl = F.map (·.1) := ⟨_, rfl⟩
 rw [← hfl] at hB h hc1
 have hmem : ∀ x ∈ F, x.1 ∈ fl := fun x hx => by rw [hfl]; exact List.mem_map.2 ⟨x, hx, rfl⟩
 have hback : ∀ i ∈ fl, ∃ x ∈ F, x.1 = i := fun i hi => by rw [hfl] at hi; exact List.mem_map.1 hi
 have hcsF : ∀ c ∈ cs, ∃ x ∈ F, x.1 = c := fun c hc => hback c (hc1 c hc)
 refine run_headB (P := P) (ops := ops) (Q := Q) (w0 := w0) (w := w) (a := a) N n0 n fl (fun i D v w => ∀ x ∈ F, x.1 = i → ∀ s, StP cs D s → x.2.2 s v w) (fun D w => ∃ s, StP cs D s ∧ Φ s w) l hB hl hx0 hF.size ?_
  (fun j D v w w' h hx x hxF hi s hs => hR x hxF s v w w' (h x hxF hi s hs) hx) (fun D w w' ⟨s, h1, h2⟩ hx => ⟨s, h1, hΦ s w w' h2 hx⟩)
  (dwalk_mono (fun A hA => ⟨fun hdA i o hm hn ho hf => ?_, fun b w' hx hs hdf hsl hr hph => ?_⟩) _ _ _ h)
 ·
  refine ⟨0, ⟨Nat.zero_le _, fun i c hc => ?_⟩, hΦ0⟩
  obtain ⟨x, hxF, rfl⟩ := hcsF c (List.mem_of_getElem? hc)
  have := (hin x hxF).1
  unfold bits
  rw [upto_getD]
  by_cases hk : x.1 < ops.size
  ·
   rw [if_pos hk, decide_eq_false (by omega)]; simp
  ·
   rw [if_neg hk]; simp
 ·
  obtain ⟨x, hxF, rfl⟩ := hback i hf
  intro D b w' hx hs hdf hsl hDi hDd hold hph
  obtain ⟨s, hsP, hph⟩ := hph
  have key := hA.1 x hxF s b w' hsP.1 hx (fr_heldT (fl := fl) (M := n0) (n := n) hfl hd hs (hdf.trans hdA) hF hsl) (fun y hy hw => by
   have hDy := hDd y.1 (hin y hy).1 (hmem y hy) hw
   have hdy := hd y hy
   cases hp : ops[y.1]? with
   | none => rw [hp] at hdy; cases hdy
   | some p =>
    rw [hp] at hdy
    exact hold y.1 p y.2.1 (hin y hy).1 (hin y hy).2 (hmem y hy) hDy hp hdy y hy rfl s hsP) hph
  obtain ⟨o', ho', hres⟩ := key
  have hoo : o' = o := Option.some.inj (ho'.symm.trans ho)
  subst hoo
  rcases hres with ⟨hnc, hw, hres⟩ | ⟨p, hp, hres⟩
  ·
   have hsP' : ∀ s', StP cs (also D x.1) s' ↔ StP cs D s' := fun s' => by
    unfold StP
    refine and_congr Iff.rfl ⟨fun h i c hc => ?_, fun h i c hc => ?_⟩
    ·
     have := h i c hc
     unfold also at this
     rwa [if_neg (show ¬ c = x.1 from fun e => hnc (by rw [← e]; exact List.mem_of_getElem? hc))] at this
    ·
     unfold also
     rw [if_neg (show ¬ c = x.1 from fun e => hnc (by rw [← e]; exact List.mem_of_getElem? hc))]
     exact h i c hc
   have mine : ∀ v w'', x.2.2 s v w'' → ∀ y ∈ F, y.1 = x.1 → ∀ s', StP cs (also D x.1) s' → y.2.2 s' v w'' := fun v w'' hv y hy hyx s' hs' => by
    rw [hu y hy x hxF hyx, ((hsP' s').1 hs').uniq hsP]; exact hv
   have keep : ∀ w'', Ext w' w'' → ∀ j p d, n0 ≤ j → j < n → j ∈ fl → D j = true → ops[j]? = some p → p.dst = some d → ∀ y ∈ F, y.1 = j → ∀ s', StP cs (also D x.1) s' → y.2.2 s' (slot b d) w'' := fun w'' hx'' j p d hj hj' hjf hD hp hd' y hy hyj s' hs' =>
    hR y hy s' _ _ _ (hold j p d hj hj' hjf hD hp hd' y hy hyj s' ((hsP' s').1 hs')) hx''
   refine ⟨hw, ?_⟩
   rcases hres with ⟨v, w'', hr, hx', hv⟩ | ⟨f, args, hr, hc⟩
   ·
    exact .inl ⟨v, w'', hr, hx.trans hx', keep w'' hx', mine v w'' hv, s, (hsP' s).2 hsP, hΦ s _ _ hph hx'⟩
   ·
    exact .inr (.inl ⟨f, args, hr, hc.mono fun e w'' ⟨v, he, hx', hv⟩ => ⟨v, he, hx.trans hx', keep w'' hx', mine v w'' hv, s, (hsP' s).2 hsP, hΦ s _ _ hph hx'⟩⟩)
  ·
   have hsp : s = p := by
    have h1 := hsP.2 p x.1 hp
    rw [hDi] at h1
    have h2 : ¬ p < s := by simpa using h1.symm
    rcases Nat.lt_or_ge s p with hlt | hge
    ·
     obtain ⟨p', rfl⟩ : ∃ p', p = p' + 1 := ⟨p - 1, by omega⟩
     have hl : p' < cs.length := Nat.lt_trans (Nat.lt_succ_self _) (List.getElem?_eq_some_iff.1 hp).1
     have hcs' := List.getElem?_eq_getElem hl
     have hwt := hc3 p' _ _ hp hcs'
     obtain ⟨y, hyF, hy⟩ := hcsF _ (List.mem_of_getElem? hcs')
     have := hDd _ (by rw [← hy]; exact (hin y hyF).1) (by rw [← hy]; exact hmem y hyF) hwt
     rw [hsP.2 p' _ hcs'] at this
     have : p' < s := by simpa using this
     omega
    ·
     omega
   obtain ⟨hw, hres⟩ := hres hsp
   have hsP' : StP cs (also D x.1) (s + 1) := by
    refine ⟨by have := (List.getElem?_eq_some_iff.1 hp).1; omega, fun i c hc => ?_⟩
    unfold also
    by_cases hcx : c = x.1
    ·
     subst hcx
     rw [if_pos rfl, hc2 i p _ hc hp, decide_eq_true (by omega)]
    ·
     rw [if_neg hcx, hsP.2 i c hc]
     have : i ≠ s := fun e => hcx (by rw [e, hsp, hp] at hc; exact (Option.some.inj hc).symm)
     by_cases hi : i < s
     ·
      rw [decide_eq_true hi, decide_eq_true (by omega)]
     ·
      rw [decide_eq_false hi, decide_eq_false (by omega)]
   have fin : ∀ (v : Value) (w'' : World), x.2.2 (s + 1) v w'' → (∀ y ∈ F, y.2.2 s (slot b y.2.1) w' → y.2.2 (s + 1) (slot b y.2.1) w'') →
     (∀ j q d, n0 ≤ j → j < n → j ∈ fl → D j = true → ops[j]? = some q → q.dst = some d → ∀ y ∈ F, y.1 = j → ∀ s', StP cs (also D x.1) s' → y.2.2 s' (slot b d) w'') ∧ ∀ y ∈ F, y.1 = x.1 → ∀ s', StP cs (also D x.1) s' → y.2.2 s' v w'' := fun v w'' hv hk => by
    refine ⟨fun j q d hj hj' hjf hD hq hd' y hy hyj s' hs' => ?_, fun y hy hyx s' hs' => ?_⟩
    ·
     rw [hs'.uniq hsP']
     have hdy := hd y hy
     rw [hyj, hq] at hdy
     have hdd : y.2.1 = d := Option.some.inj (hdy.symm.trans hd')
     subst hdd
     exact hk y hy (hold j q _ hj hj' hjf hD hq hd' y hy hyj s hsP)
    ·
     rw [hs'.uniq hsP', hu y hy x hxF hyx]; exact hv
   rcases hres with ⟨v, w'', hr, hx', hph', hv, hk⟩ | ⟨f, args, hr, hc⟩
   ·
    obtain ⟨f1, f2⟩ := fin v w'' hv hk
    exact ⟨hw, .inl ⟨v, w'', hr, hx', f1, f2, s + 1, hsP', hph'⟩⟩
   ·
    refine ⟨hw, .inr (.inl ⟨f, args, hr, hc.mono fun e w'' ⟨v, he, hx', hph', hv, hk⟩ => ?_⟩)⟩
    obtain ⟨f1, f2⟩ := fin v w'' hv hk
    exact ⟨v, he, hx', f1, f2, s + 1, hsP', hph'⟩
 ·
  have hall : StP cs (fun k => fl.contains k && decide (k < n)) cs.length := ⟨Nat.le_refl _, fun i c hc => by
   obtain ⟨x, hxF, rfl⟩ := hcsF c (List.mem_of_getElem? hc)
   have h1 := (hin x hxF).2
   have h2 := (List.getElem?_eq_some_iff.1 hc).1
   have h3 := hmem x hxF
   rw [decide_eq_true h2]
   show (fl.contains x.1 && decide (x.1 < n)) = true
   rw [decide_eq_true h1]
   simpa using h3⟩
  refine hA.2 b w' hx (fr_heldT (fl := fl) (M := n0) (n := n) hfl hd hs hdf hF hsl) (fun x hxF => ?_) ?_
  ·
   have hdx := hd x hxF
   cases hp : ops[x.1]? with
   | none => rw [hp] at hdx; cases hdx
   | some p =>
    rw [hp] at hdx
    exact hr x.1 p x.2.1 (hin x hxF).1 (hin x hxF).2 hp (hmem x hxF) hdx x hxF rfl _ hall
  ·
   obtain ⟨s, hs1, hs2⟩ := hph
   rw [← hs1.uniq hall]; exact hs2
end
end Go.Fw
set_option linter.unusedVariables false
set_option linter.unusedSimpArgs false
namespace Go.Proofs.YtfhalnobaeogkaaDoor
open Go Go.RowKit Go.Fw
theorem z5 : (Tryd.prog.info? 5).map (·.size) = some 1 := by kernel_rfl
theorem z32 : (Tryd.prog.info? 32).map (·.size) = some 1 := by kernel_rfl
theorem z76 : (Tryd.prog.info? 76).map (·.size) = some 1 := by kernel_rfl
theorem z94 : (Tryd.prog.info? 94).map (·.size) = some 32 := by kernel_rfl
theorem Tryd.zv94 : (Tryd.prog.info? 94).map (·.zero) = some (some (Value.agg ((List.replicate 32 (0 : UInt8)).map vB).toArray)) := by kernel_rfl
theorem Tryd.zv153 : (Tryd.prog.info? 153).map (·.zero) = some (some (Value.agg ((List.replicate 8 (0 : UInt32)).map vW).toArray)) := by kernel_rfl
theorem Tryd.zv154 : (Tryd.prog.info? 154).map (·.zero) = some (some (Value.agg ((List.replicate 64 (0 : UInt32)).map vW).toArray)) := by kernel_rfl
theorem Tryd.ok87 : CallOk Tryd.prog 87 := ⟨_, Tryd.func87, by kernel_rfl, by kernel_rfl⟩
theorem Tryd.ok88 : CallOk Tryd.prog 88 := ⟨_, Tryd.func88, by kernel_rfl, by kernel_rfl⟩
def hi32 (x : UInt64) : UInt32 := (x >>> UInt64.ofNat 32).toUInt32
def h0 : Nat → List UInt32
 | 0 => List.replicate 8 0
 | i + 1 => (h0 i).set i (hi32 (startsL.getD i 0))
theorem h0_len : ∀ i, (h0 i).length = 8
 | 0 => rfl
 | i + 1 => by rw [h0, List.length_set, h0_len i]
def w4 (p : List UInt8) : Nat → List UInt32
 | 0 => List.replicate 64 0
 | i + 1 => (w4 p i).set (i / 4) ((w4 p i).getD (i / 4) 0 <<< UInt32.ofNat 8 ||| (p.getD i 0).toUInt32)
theorem w4_len (p : List UInt8) : ∀ i, (w4 p i).length = 64
 | 0 => List.length_replicate
 | i + 1 => by rw [w4, List.length_set, w4_len p i]
def sg0 (x : UInt32) : UInt32 := rotl x 25 ^^^ rotl x 14 ^^^ x >>> UInt32.ofNat 3
def sg1 (y : UInt32) : UInt32 := rotl y 15 ^^^ rotl y 13 ^^^ y >>> UInt32.ofNat 10
def w6 (m : List UInt32) : Nat → List UInt32
 | 0 => m
 | i + 1 => (w6 m i).set (i + 16) ((w6 m i).getD i 0 + (w6 m i).getD (i + 9) 0 + sg0 ((w6 m i).getD (i + 1) 0) + sg1 ((w6 m i).getD (i + 14) 0))
theorem w6_len (m : List UInt32) : ∀ i, (w6 m i).length = m.length
 | 0 => rfl
 | i + 1 => by rw [w6, List.length_set, w6_len m i]
structure V8 where
 a : UInt32
 c : UInt32
 d : UInt32
 e : UInt32
 f : UInt32
 g : UInt32
 k : UInt32
 l : UInt32
def tF (v : V8) (kk w : UInt32) : UInt32 := v.l + (rotl v.f 26 ^^^ rotl v.f 21 ^^^ rotl v.f 7) + (v.f &&& v.g ^^^ (v.f ^^^ (0 - 1)) &&& v.k) + kk + w
def uF (v : V8) : UInt32 := (rotl v.a 30 ^^^ rotl v.a 19 ^^^ rotl v.a 10) + (v.a &&& v.c ^^^ v.a &&& v.d ^^^ v.c &&& v.d)
def rnd (v : V8) (kk w : UInt32) : V8 := ⟨tF v kk w + uF v, v.a, v.c, v.d, v.e + tF v kk w, v.f, v.g, v.k⟩
def rds (v : V8) (W : List UInt32) : Nat → V8
 | 0 => v
 | i + 1 => rnd (rds v W i) (hi32 (stepsL.getD i 0)) (W.getD i 0)
def ofL (h : List UInt32) : V8 := ⟨h.getD 0 0, h.getD 1 0, h.getD 2 0, h.getD 3 0, h.getD 4 0, h.getD 5 0, h.getD 6 0, h.getD 7 0⟩
def toL (v : V8) : List UInt32 := [v.a, v.c, v.d, v.e, v.f, v.g, v.k, v.l]
theorem fill8 (v : V8) : Instr.fill (fun i => some (i * 1, 1)) ((List.replicate 8 (0 : UInt32)).map vW).toArray [(0, vW v.a), (1, vW v.c), (2, vW v.d), (3, vW v.e), (4, vW v.f), (5, vW v.g), (6, vW v.k), (7, vW v.l)] = some ((toL v).map vW).toArray := by kernel_rfl
theorem toL_len (v : V8) : (toL v).length = 8 := rfl
def hadd (h v : List UInt32) : Nat → List UInt32
 | 0 => h
 | i + 1 => (hadd h v i).set i ((hadd h v i).getD i 0 + v.getD i 0)
theorem hadd_len (h v : List UInt32) : ∀ i, (hadd h v i).length = h.length
 | 0 => rfl
 | i + 1 => by rw [hadd, List.length_set, hadd_len h v i]
def wS (p : List UInt8) : List UInt32 := w6 (w4 p 64) 48
theorem wS_len (p : List UInt8) : (wS p).length = 64 := by rw [wS, w6_len, w4_len]
def blkS (h : List UInt32) (p : List UInt8) : List UInt32 := hadd h (toL (rds (ofL h) (wS p) 64)) 8
theorem blkS_len (h : List UInt32) (p : List UInt8) : (blkS h p).length = h.length := hadd_len _ _ _
def hsA (pl : List UInt8) : Nat → List UInt32
 | 0 => h0 8
 | j + 1 => blkS (hsA pl j) (pl.drop (64 * j))
theorem hsA_len (pl : List UInt8) : ∀ j, (hsA pl j).length = 8
 | 0 => h0_len 8
 | j + 1 => by rw [hsA, blkS_len, hsA_len pl j]
def outS (h : List UInt32) : Nat → List UInt8
 | 0 => List.replicate 32 0
 | i + 1 => (outS h i).set i (h.getD (i / 4) 0 >>> UInt32.ofNat (24 - 8 * (i % 4))).toUInt8
theorem outS_len (h : List UInt32) : ∀ i, (outS h i).length = 32
 | 0 => List.length_replicate
 | i + 1 => by rw [outS, List.length_set, outS_len h i]
def sum256 (bl : List UInt8) : List UInt8 := outS (hsA (padF bl) ((padF bl).length / 64)) 32
theorem sum256_len (bl : List UInt8) : (sum256 bl).length = 32 := outS_len _ _
set_option maxHeartbeats 4000000 in
theorem sum_ok {bv : Value} {bl : List UInt8} {w0 : World} (hG : Glob w0) (hb : Rd w0 bv (bl.map vB)) (hn : bl.length ≤ 549755813888) :
  Calls Tryd.prog 65 #[bv] w0 fun e w' => e = .returned (.agg ((sum256 bl).map vB).toArray) ∧ Ext w0 w' := by
 refine calls_start 221 Tryd.func65 rfl Tryd.ntmps65 rfl fun a hF => ?_
 have hS := St.refl w0
 refine wK fun Kq1 hKq1 => ?_
 refine wR ?_
 refine wpList_stp (stp_alloc hF (wanted_none rfl) rfl rfl rfl Tryd.zv94 rfl hS fun out a w hF hS => ?_)
 refine wN ?_
 refine tN (hKq1 _ _ ?_)
 refine wK fun Kq2 hKq2 => ?_
 refine wR ?_
 refine wpList_stp (stp_alloc hF (wanted_none rfl) rfl rfl rfl Tryd.zv153 rfl hS fun h a w hF hS => ?_)
 refine wN ?_
 refine tN (hKq2 _ _ ?_)
 refine wK fun Kq3 hKq3 => ?_
 refine wK fun Kq4 hKq4 => ?_
 refine wR ?_
 refine wg hF rfl rfl rfl (gv_move rfl (ev_const _ _)) fun a hF => ?_
 refine wN ?_
 refine tN (hKq4 _ _ ?_)
 refine wp_block ?_
 refine wp_loop_n (fun n a w => ∃ i, i ≤ 8 ∧ n = 8 - i ∧ Fr 221 a [(0, bv), (2, .pointer (some ⟨out, 0, none⟩)), (3, .pointer (some ⟨h, 0, none⟩)), (26, vI i)] ∧ St w0 w [⟨true, some h, blkW 153 (h0 i)⟩, ⟨true, some out, blkB 94 (List.replicate 32 0)⟩]) 8 ⟨0, by omega, by omega, hF.sub ⟨rfl, rfl, rfl, rfl, trivial⟩, hS⟩ ?_
 rintro n a w ⟨i, hi, hn, hF, hS⟩
 refine wK fun Kq5 hKq5 => ?_
 refine wR ?_
 refine wg hF rfl rfl rfl (gv_lss rfl (hF.t rfl) (ev_const _ _)) fun a hF => ?_
 refine wN ?_
 refine tN (hKq5 _ _ ?_)
 refine wK fun Kq6 hKq6 => ?_
 refine cond_dec (hF.t rfl) (fun h27 => ?_) (fun h27 => ?_)
 ·
  refine wp_skip ?_
  refine tN (hKq6 _ _ ?_)
  refine wK fun Kq7 hKq7 => ?_
  refine wp_block ?_
  refine wK fun Kq8 hKq8 => ?_
  refine wR ?_
  refine wg hF rfl rfl rfl (gv_move rfl (hF.t rfl)) fun a hF => ?_
  refine wg hF rfl rfl rfl (gv_assign rfl (hF.t rfl)) fun a hF => ?_
  refine wN ?_
  refine tN (hKq8 _ _ ?_)
  refine wR ?_
  refine wg hF rfl rfl rfl (gv_move rfl (hF.t rfl)) fun a hF => ?_
  refine wg hF rfl rfl rfl (gv_move rfl (hF.t rfl)) fun a hF => ?_
  refine wg hF rfl rfl rfl (gv_indexArr rfl u148 z76 rfl (hF.t rfl) (by omega)) fun a hF => ?_
  refine wg hF rfl rfl rfl (gv_load rfl u76 rfl (hF.t rfl) (cell_ix ((hG.ext (hS.toExt (nw_cons rfl (nw_cons rfl nw_nil)))).st i (by omega)) (by omega))) fun a hF => ?_
  refine wg hF rfl rfl rfl (gv_d_shr (n := 32) rfl (hF.t rfl) rfl (by omega)) fun a hF => ?_
  refine wg hF rfl rfl rfl (gv_conv_d_w rfl u76 u32 (hF.t rfl)) fun a hF => ?_
  refine wg hF rfl rfl rfl (gv_indexArr rfl u153 z32 (hF.t rfl) (hF.t rfl) (by omega)) fun a hF => ?_
  refine wpList_stp (stp_storeW (i) hF (wanted_none rfl) rfl rfl z32 (hF.t rfl) (by omega) (hF.t rfl) hS (k := 0) rfl (by rw [h0_len]; omega) fun w hS => ?_)
  refine wN ?_
  refine block_normal ?_
  refine tN (hKq7 _ _ ?_)
  refine wR ?_
  refine wg hF rfl rfl rfl (gv_nadd (n := 1) rfl (hF.t rfl) rfl (by omega)) fun a hF => ?_
  refine wg hF rfl rfl rfl (gv_move rfl (hF.t rfl)) fun a hF => ?_
  refine wN ?_
  refine then_normal ?_
  exact ⟨n - 1, by omega, i + 1, by omega, by omega, hF.sub ⟨rfl, rfl, rfl, rfl, trivial⟩, hS⟩
 ·
  refine wp_exit ?_
  refine then_exit ?_
  refine then_exit ?_
  refine block_exit ?_
  refine tN (hKq3 _ _ ?_)
  refine wK fun Kq9 hKq9 => ?_
  refine wK fun Kq10 hKq10 => ?_
  refine wR ?_
  refine wg hF rfl rfl rfl (gv_move rfl (hF.t rfl)) fun a hF => ?_
  refine wpList_stp (stp_call hF (wanted_none rfl) rfl rfl Tryd.ok87 rfl (Evs.cons (hF.t rfl) (Evs.cons (ev_const _ _) Evs.nil)) (pad_ok (hb.ext (hS.toExt (nw_cons rfl (nw_cons rfl nw_nil)))) (by omega)) fun e w hh => ?_)
  obtain ⟨po, pp, rfl, poo, poc, hN⟩ := hh
  refine ⟨_, rfl, fun a hF => ?_⟩
  replace hS := hS.join hN (nw_cons rfl nw_nil)
  simp only [List.cons_append, List.nil_append] at hS
  clear hN
  refine wg hF rfl rfl rfl (gv_assign rfl (hF.t rfl)) fun a hF => ?_
  refine wN ?_
  refine tN (hKq10 _ _ ?_)
  refine wp_block ?_
  obtain ⟨PL, hPL⟩ : ∃ PL, PL = padF bl := ⟨_, rfl⟩
  have hP := own_rd (w0 := w0) (T := [⟨true, po, blk 5 ((padF bl).map vB ++ pp)⟩]) List.mem_cons_self poo rfl poc
  have hM := padF_mul bl
  rw [← hPL] at hP hM hS hF
  obtain ⟨M, hM0⟩ : ∃ M, PL.length / 64 = M := ⟨_, rfl⟩
  rw [hM0] at hM
  obtain rfl : i = 8 := by omega
  refine wp_loop_n (fun n a w => ∃ (j : Nat) (v : Value), j ≤ M ∧ n = M - j ∧ SRd w0 [⟨true, po, blk 5 (PL.map vB ++ pp)⟩] v ((PL.drop (64 * j)).map vB) ∧ Fr 221 a [(2, .pointer (some ⟨out, 0, none⟩)), (3, .pointer (some ⟨h, 0, none⟩)), (5, v)] ∧ St w0 w [⟨true, po, blk 5 (PL.map vB ++ pp)⟩, ⟨true, some h, blkW 153 (hsA PL j)⟩, ⟨true, some out, blkB 94 (List.replicate 32 0)⟩]) M ⟨0, _, by omega, by omega, hP, hF.sub ⟨rfl, rfl, rfl, trivial⟩, hS⟩ ?_
  rintro n a w ⟨j, v, hj, hn, hP, hF, hS⟩
  obtain ⟨A1, c1, rfl, hc1, hc2, hc3⟩ := (hP w _ hS (nw_cons rfl (nw_cons rfl (nw_cons rfl nw_nil))) (by simp)).isB
  have hdl : (PL.drop (64 * j)).length = 64 * M - 64 * j := by rw [List.length_drop, hM]
  have hHl := hsA_len PL j
  refine wK fun Kq11 hKq11 => ?_
  refine wK fun Kq12 hKq12 => ?_
  refine wR ?_
  refine wg hF rfl rfl rfl (gv_move rfl (hF.t rfl)) fun a hF => ?_
  refine wg hF rfl rfl rfl (gv_len rfl u22 (hF.t rfl)) fun a hF => ?_
  refine wg hF rfl rfl rfl (gv_gtr rfl (hF.t rfl) (ev_const _ _)) fun a hF => ?_
  refine wN ?_
  refine tN (hKq12 _ _ ?_)
  refine cond_dec (hF.t rfl) (fun h41 => ?_) (fun h41 => ?_)
  ·
   obtain ⟨b1, o1, rfl, _⟩ := hc3 (by omega)
   refine wp_skip ?_
   refine tN (hKq11 _ _ ?_)
   refine wK fun Kq13 hKq13 => ?_
   refine wp_block ?_
   refine wK fun Kq14 hKq14 => ?_
   refine wR ?_
   refine wpList_stp (stp_alloc hF (wanted_none rfl) rfl rfl rfl Tryd.zv154 rfl hS fun wb a w hF hS => ?_)
   refine wN ?_
   refine tN (hKq14 _ _ ?_)
   refine wK fun Kq15 hKq15 => ?_
   refine wK fun Kq16 hKq16 => ?_
   refine wR ?_
   refine wg hF rfl rfl rfl (gv_move rfl (ev_const _ _)) fun a hF => ?_
   refine wN ?_
   refine tN (hKq16 _ _ ?_)
   refine wp_block ?_
   refine wp_loop_n (fun q a w => ∃ i, i ≤ 64 ∧ q = 64 - i ∧ Fr 221 a [(2, .pointer (some ⟨out, 0, none⟩)), (3, .pointer (some ⟨h, 0, none⟩)), (5, .slice (some ⟨b1, o1, none⟩) (PL.drop (64 * j)).length c1), (6, .pointer (some ⟨wb, 0, none⟩)), (44, vI i)] ∧ St w0 w [⟨true, some wb, blkW 154 (w4 (PL.drop (64 * j)) i)⟩, ⟨true, po, blk 5 (PL.map vB ++ pp)⟩, ⟨true, some h, blkW 153 (hsA PL j)⟩, ⟨true, some out, blkB 94 (List.replicate 32 0)⟩]) 64 ⟨0, by omega, by omega, hF.sub ⟨rfl, rfl, rfl, rfl, rfl, trivial⟩, hS⟩ ?_
   rintro q a w ⟨i, hi, hq, hF, hS⟩
   refine wK fun Kq17 hKq17 => ?_
   refine wR ?_
   refine wg hF rfl rfl rfl (gv_lss rfl (hF.t rfl) (ev_const _ _)) fun a hF => ?_
   refine wN ?_
   refine tN (hKq17 _ _ ?_)
   refine wK fun Kq18 hKq18 => ?_
   refine cond_dec (hF.t rfl) (fun h45 => ?_) (fun h45 => ?_)
   ·
    refine wp_skip ?_
    refine tN (hKq18 _ _ ?_)
    refine wK fun Kq19 hKq19 => ?_
    refine wp_block ?_
    refine wK fun Kq20 hKq20 => ?_
    refine wR ?_
    refine wg hF rfl rfl rfl (gv_move rfl (hF.t rfl)) fun a hF => ?_
    refine wg hF rfl rfl rfl (gv_assign rfl (hF.t rfl)) fun a hF => ?_
    refine wN ?_
    refine tN (hKq20 _ _ ?_)
    refine Fw.wp_region_draw (by kernel_rfl) fun w hx => ?_
    replace hS := hS.ext hx
    clear hx
    refine run_head0 (n := 14) _ hF (by kernel_rfl) rfl ?_
    refine dg hF rfl rfl rfl rfl (fun w hx => gv_move rfl (hF.t rfl)) fun a hF => ?_
    refine dg hF rfl rfl rfl rfl (fun w hx => gv_nquo (n := 4) rfl (hF.t rfl) rfl (by omega) (by omega)) fun a hF => ?_
    refine dg hF rfl rfl rfl rfl (fun w hx => gv_move rfl (hF.t rfl)) fun a hF => ?_
    refine dg hF rfl rfl rfl rfl (fun w hx => gv_nquo (n := 4) rfl (hF.t rfl) rfl (by omega) (by omega)) fun a hF => ?_
    refine dg hF rfl rfl rfl rfl (fun w hx => gv_indexArr rfl u154 z32 (hF.t rfl) (hF.t rfl) (by omega)) fun a hF => ?_
    refine dg hF rfl rfl rfl rfl (fun w hx => gv_load rfl u32 rfl (hF.t rfl) (cell_ix ((hS.ext hx).cellW (k := 0) rfl (i / 4) (by rw [w4_len]; omega)) (by omega))) fun a hF => ?_
    refine dg hF rfl rfl rfl rfl (fun w hx => gv_w_shl (n := 8) rfl (hF.t rfl) rfl (by omega)) fun a hF => ?_
    refine dg hF rfl rfl rfl rfl (fun w hx => gv_move rfl (hF.t rfl)) fun a hF => ?_
    refine dg hF rfl rfl rfl rfl (fun w hx => gv_move rfl (hF.t rfl)) fun a hF => ?_
    refine dg hF rfl rfl rfl rfl (fun w hx => gv_indexSl rfl u22 z5 (hF.t rfl) (hF.t rfl) (by omega)) fun a hF => ?_
    refine dg hF rfl rfl rfl rfl (fun w hx => gv_load rfl u5 rfl (hF.t rfl) (cell_ix ((hP _ _ (hS.ext hx) (nw_cons rfl (nw_cons rfl (nw_cons rfl (nw_cons rfl nw_nil)))) (by simp)).cellB i (by omega)) (by omega))) fun a hF => ?_
    refine dg hF rfl rfl rfl rfl (fun w hx => gv_conv_b_w rfl u5 u32 (hF.t rfl)) fun a hF => ?_
    refine dg hF rfl rfl rfl rfl (fun w hx => gv_w_or rfl (hF.t rfl) (hF.t rfl)) fun a hF => ?_
    refine dg hF rfl rfl rfl rfl (fun w hx => gv_indexArr rfl u154 z32 (hF.t rfl) (hF.t rfl) (by omega)) fun a hF => ?_
    refine dw_nil fun a w hA hx => ?_
    replace hF := hA _ hF
    replace hS := hS.ext hx
    clear hA hx
    refine run_stp (by kernel_rfl) rfl (stp_storeW (i / 4) hF (wanted_none rfl) rfl rfl z32 (hF.t rfl) (by omega) (hF.t rfl) hS (k := 0) rfl (by rw [w4_len]; omega) fun w hS => ?_)
    refine run_done (by decide) ?_
    refine block_normal ?_
    refine tN (hKq19 _ _ ?_)
    refine wR ?_
    refine wg hF rfl rfl rfl (gv_nadd (n := 1) rfl (hF.t rfl) rfl (by omega)) fun a hF => ?_
    refine wg hF rfl rfl rfl (gv_move rfl (hF.t rfl)) fun a hF => ?_
    refine wN ?_
    refine then_normal ?_
    exact ⟨q - 1, by omega, i + 1, by omega, by omega, hF.sub ⟨rfl, rfl, rfl, rfl, rfl, trivial⟩, hS⟩
   ·
    refine wp_exit ?_
    refine then_exit ?_
    refine then_exit ?_
    refine block_exit ?_
    refine tN (hKq15 _ _ ?_)
    refine wK fun Kq21 hKq21 => ?_
    refine wK fun Kq22 hKq22 => ?_
    refine wR ?_
    refine wg hF rfl rfl rfl (gv_assign rfl (ev_const _ _)) fun a hF => ?_
    refine wN ?_
    refine tN (hKq22 _ _ ?_)
    refine wp_block ?_
    obtain rfl : i = 64 := by omega
    refine wp_loop_n (fun q a w => ∃ i, i ≤ 48 ∧ q = 48 - i ∧ Fr 221 a [(2, .pointer (some ⟨out, 0, none⟩)), (3, .pointer (some ⟨h, 0, none⟩)), (5, .slice (some ⟨b1, o1, none⟩) (PL.drop (64 * j)).length c1), (6, .pointer (some ⟨wb, 0, none⟩)), (8, vI (i + 16))] ∧ St w0 w [⟨true, some wb, blkW 154 (w6 (w4 (PL.drop (64 * j)) 64) i)⟩, ⟨true, po, blk 5 (PL.map vB ++ pp)⟩, ⟨true, some h, blkW 153 (hsA PL j)⟩, ⟨true, some out, blkB 94 (List.replicate 32 0)⟩]) 48 ⟨0, by omega, by omega, hF.sub ⟨rfl, rfl, rfl, rfl, rfl, trivial⟩, hS⟩ ?_
    rintro q a w ⟨i, hi, hq, hF, hS⟩
    refine wK fun Kq23 hKq23 => ?_
    refine wK fun Kq24 hKq24 => ?_
    refine wR ?_
    refine wg hF rfl rfl rfl (gv_move rfl (hF.t rfl)) fun a hF => ?_
    refine wg hF rfl rfl rfl (gv_lss rfl (hF.t rfl) (ev_const _ _)) fun a hF => ?_
    refine wN ?_
    refine tN (hKq24 _ _ ?_)
    refine cond_dec (hF.t rfl) (fun h63 => ?_) (fun h63 => ?_)
    ·
     refine wp_skip ?_
     refine tN (hKq23 _ _ ?_)
     refine wK fun Kq25 hKq25 => ?_
     refine wp_block ?_
     refine wK fun Kq26 hKq26 => ?_
     refine Fw.wp_region_draw (by kernel_rfl) fun w hx => ?_
     replace hS := hS.ext hx
     clear hx
     refine run_head0 (n := 10) _ hF (by kernel_rfl) rfl ?_
     refine dg hF rfl rfl rfl rfl (fun w hx => gv_move rfl (hF.t rfl)) fun a hF => ?_
     refine dg hF rfl rfl rfl rfl (fun w hx => gv_nsub (n := 15) rfl (hF.t rfl) rfl (by omega) (by omega)) fun a hF => ?_
     refine dg hF rfl rfl rfl rfl (fun w hx => gv_indexArr rfl u154 z32 (hF.t rfl) (hF.t rfl) (by omega)) fun a hF => ?_
     refine dg hF rfl rfl rfl rfl (fun w hx => gv_load rfl u32 rfl (hF.t rfl) (cell_ix ((hS.ext hx).cellW (k := 0) rfl (i + 1) (by rw [w6_len, w4_len]; omega)) (by omega))) fun a hF => ?_
     refine dg hF rfl rfl rfl rfl (fun w hx => gv_move rfl (hF.t rfl)) fun a hF => ?_
     refine dg hF rfl rfl rfl rfl (fun w hx => gv_nsub (n := 2) rfl (hF.t rfl) rfl (by omega) (by omega)) fun a hF => ?_
     refine dg hF rfl rfl rfl rfl (fun w hx => gv_indexArr rfl u154 z32 (hF.t rfl) (hF.t rfl) (by omega)) fun a hF => ?_
     refine dg hF rfl rfl rfl rfl (fun w hx => gv_load rfl u32 rfl (hF.t rfl) (cell_ix ((hS.ext hx).cellW (k := 0) rfl (i + 14) (by rw [w6_len, w4_len]; omega)) (by omega))) fun a hF => ?_
     refine dg hF rfl rfl rfl rfl (fun w hx => gv_assign rfl (hF.t rfl)) fun a hF => ?_
     refine dg hF rfl rfl rfl rfl (fun w hx => gv_assign rfl (hF.t rfl)) fun a hF => ?_
     refine dw_nil fun a w hA hx => ?_
     replace hF := hA _ hF
     replace hS := hS.ext hx
     clear hA hx
     refine run_done (by decide) ?_
     refine tN (hKq26 _ _ ?_)
     refine Fw.wp_region_draw (by kernel_rfl) fun w hx => ?_
     replace hS := hS.ext hx
     clear hx
     refine run_head0 (n := 29) _ hF (by kernel_rfl) rfl ?_
     refine dg hF rfl rfl rfl rfl (fun w hx => gv_move rfl (hF.t rfl)) fun a hF => ?_
     refine dg hF rfl rfl rfl rfl (fun w hx => gv_move rfl (hF.t rfl)) fun a hF => ?_
     refine dg hF rfl rfl rfl rfl (fun w hx => gv_nsub (n := 16) rfl (hF.t rfl) rfl (by omega) (by omega)) fun a hF => ?_
     refine dg hF rfl rfl rfl rfl (fun w hx => gv_indexArr rfl u154 z32 (hF.t rfl) (hF.t rfl) (by omega)) fun a hF => ?_
     refine dg hF rfl rfl rfl rfl (fun w hx => gv_load rfl u32 rfl (hF.t rfl) (cell_ix ((hS.ext hx).cellW (k := 0) rfl (i) (by rw [w6_len, w4_len]; omega)) (by omega))) fun a hF => ?_
     refine dg hF rfl rfl rfl rfl (fun w hx => gv_move rfl (hF.t rfl)) fun a hF => ?_
     refine dg hF rfl rfl rfl rfl (fun w hx => gv_nsub (n := 7) rfl (hF.t rfl) rfl (by omega) (by omega)) fun a hF => ?_
     refine dg hF rfl rfl rfl rfl (fun w hx => gv_indexArr rfl u154 z32 (hF.t rfl) (hF.t rfl) (by omega)) fun a hF => ?_
     refine dg hF rfl rfl rfl rfl (fun w hx => gv_load rfl u32 rfl (hF.t rfl) (cell_ix ((hS.ext hx).cellW (k := 0) rfl (i + 9) (by rw [w6_len, w4_len]; omega)) (by omega))) fun a hF => ?_
     refine dg hF rfl rfl rfl rfl (fun w hx => gv_w_add rfl (hF.t rfl) (hF.t rfl)) fun a hF => ?_
     refine dg hF rfl rfl rfl rfl (fun w hx => gv_move rfl (hF.t rfl)) fun a hF => ?_
     refine dw_call hF rfl (wanted_none rfl) rfl rfl Tryd.ok88 rfl (Evs.cons (hF.t rfl) (Evs.cons (ev_const _ _) Evs.nil)) (fun w hx => rot_ok (k := 25) _ _ (by decide) (by decide)) fun a hF => ?_
     refine dg hF rfl rfl rfl rfl (fun w hx => gv_move rfl (hF.t rfl)) fun a hF => ?_
     refine dw_call hF rfl (wanted_none rfl) rfl rfl Tryd.ok88 rfl (Evs.cons (hF.t rfl) (Evs.cons (ev_const _ _) Evs.nil)) (fun w hx => rot_ok (k := 14) _ _ (by decide) (by decide)) fun a hF => ?_
     refine dg hF rfl rfl rfl rfl (fun w hx => gv_w_xor rfl (hF.t rfl) (hF.t rfl)) fun a hF => ?_
     refine dg hF rfl rfl rfl rfl (fun w hx => gv_move rfl (hF.t rfl)) fun a hF => ?_
     refine dg hF rfl rfl rfl rfl (fun w hx => gv_w_shr (n := 3) rfl (hF.t rfl) rfl (by omega)) fun a hF => ?_
     refine dg hF rfl rfl rfl rfl (fun w hx => gv_w_xor rfl (hF.t rfl) (hF.t rfl)) fun a hF => ?_
     refine dg hF rfl rfl rfl rfl (fun w hx => gv_w_add rfl (hF.t rfl) (hF.t rfl)) fun a hF => ?_
     refine dg hF rfl rfl rfl rfl (fun w hx => gv_move rfl (hF.t rfl)) fun a hF => ?_
     refine dw_call hF rfl (wanted_none rfl) rfl rfl Tryd.ok88 rfl (Evs.cons (hF.t rfl) (Evs.cons (ev_const _ _) Evs.nil)) (fun w hx => rot_ok (k := 15) _ _ (by decide) (by decide)) fun a hF => ?_
     refine dg hF rfl rfl rfl rfl (fun w hx => gv_move rfl (hF.t rfl)) fun a hF => ?_
     refine dw_call hF rfl (wanted_none rfl) rfl rfl Tryd.ok88 rfl (Evs.cons (hF.t rfl) (Evs.cons (ev_const _ _) Evs.nil)) (fun w hx => rot_ok (k := 13) _ _ (by decide) (by decide)) fun a hF => ?_
     refine dg hF rfl rfl rfl rfl (fun w hx => gv_w_xor rfl (hF.t rfl) (hF.t rfl)) fun a hF => ?_
     refine dg hF rfl rfl rfl rfl (fun w hx => gv_move rfl (hF.t rfl)) fun a hF => ?_
     refine dg hF rfl rfl rfl rfl (fun w hx => gv_w_shr (n := 10) rfl (hF.t rfl) rfl (by omega)) fun a hF => ?_
     refine dg hF rfl rfl rfl rfl (fun w hx => gv_w_xor rfl (hF.t rfl) (hF.t rfl)) fun a hF => ?_
     refine dg hF rfl rfl rfl rfl (fun w hx => gv_w_add rfl (hF.t rfl) (hF.t rfl)) fun a hF => ?_
     refine dg hF rfl rfl rfl rfl (fun w hx => gv_indexArr rfl u154 z32 (hF.t rfl) (hF.t rfl) (by omega)) fun a hF => ?_
     refine dw_nil fun a w hA hx => ?_
     replace hF := hA _ hF
     replace hS := hS.ext hx
     clear hA hx
     refine run_stp (by kernel_rfl) rfl (stp_storeW (i + 16) hF (wanted_none rfl) rfl rfl z32 (hF.t rfl) (by omega) (hF.t rfl) hS (k := 0) rfl (by rw [w6_len, w4_len]; omega) fun w hS => ?_)
     refine run_done (by decide) ?_
     refine block_normal ?_
     refine tN (hKq25 _ _ ?_)
     refine wR ?_
     refine wg hF rfl rfl rfl (gv_move rfl (hF.t rfl)) fun a hF => ?_
     refine wg hF rfl rfl rfl (gv_nadd (n := 1) rfl (hF.t rfl) rfl (by omega)) fun a hF => ?_
     refine wg hF rfl rfl rfl (gv_assign rfl (hF.t rfl)) fun a hF => ?_
     refine wN ?_
     refine then_normal ?_
     exact ⟨q - 1, by omega, i + 1, by omega, by omega, hF.sub ⟨rfl, rfl, rfl, rfl, rfl, trivial⟩, hS⟩
    ·
     refine wp_exit ?_
     refine then_exit ?_
     refine then_exit ?_
     refine block_exit ?_
     refine tN (hKq21 _ _ ?_)
     refine wK fun Kq27 hKq27 => ?_
     obtain rfl : i = 48 := by omega
     obtain ⟨W, hW⟩ : ∃ W, W = wS (PL.drop (64 * j)) := ⟨_, rfl⟩
     obtain ⟨Hh, hHh⟩ : ∃ Hh, Hh = hsA PL j := ⟨_, rfl⟩
     have hWl := wS_len (PL.drop (64 * j))
     rw [show w6 (w4 (PL.drop (64 * j)) 64) 48 = W from hW.symm, ← hHh] at hS
     rw [← hW] at hWl
     rw [← hHh] at hHl
     refine Fw.wp_region_draw (by kernel_rfl) fun w hx => ?_
     replace hS := hS.ext hx
     clear hx
     refine run_head0 (n := 24) _ hF (by kernel_rfl) rfl ?_
     refine dg hF rfl rfl rfl rfl (fun w hx => gv_indexArr (q := 0) rfl u153 z32 (hF.t rfl) rfl (by omega)) fun a hF => ?_
     refine dg hF rfl rfl rfl rfl (fun w hx => gv_load rfl u32 rfl (hF.t rfl) (cell_ix ((hS.ext hx).cellW (k := 2) rfl (0) (by rw [hHl]; omega)) (by omega))) fun a hF => ?_
     refine dg hF rfl rfl rfl rfl (fun w hx => gv_indexArr (q := 1) rfl u153 z32 (hF.t rfl) rfl (by omega)) fun a hF => ?_
     refine dg hF rfl rfl rfl rfl (fun w hx => gv_load rfl u32 rfl (hF.t rfl) (cell_ix ((hS.ext hx).cellW (k := 2) rfl (1) (by rw [hHl]; omega)) (by omega))) fun a hF => ?_
     refine dg hF rfl rfl rfl rfl (fun w hx => gv_indexArr (q := 2) rfl u153 z32 (hF.t rfl) rfl (by omega)) fun a hF => ?_
     refine dg hF rfl rfl rfl rfl (fun w hx => gv_load rfl u32 rfl (hF.t rfl) (cell_ix ((hS.ext hx).cellW (k := 2) rfl (2) (by rw [hHl]; omega)) (by omega))) fun a hF => ?_
     refine dg hF rfl rfl rfl rfl (fun w hx => gv_indexArr (q := 3) rfl u153 z32 (hF.t rfl) rfl (by omega)) fun a hF => ?_
     refine dg hF rfl rfl rfl rfl (fun w hx => gv_load rfl u32 rfl (hF.t rfl) (cell_ix ((hS.ext hx).cellW (k := 2) rfl (3) (by rw [hHl]; omega)) (by omega))) fun a hF => ?_
     refine dg hF rfl rfl rfl rfl (fun w hx => gv_indexArr (q := 4) rfl u153 z32 (hF.t rfl) rfl (by omega)) fun a hF => ?_
     refine dg hF rfl rfl rfl rfl (fun w hx => gv_load rfl u32 rfl (hF.t rfl) (cell_ix ((hS.ext hx).cellW (k := 2) rfl (4) (by rw [hHl]; omega)) (by omega))) fun a hF => ?_
     refine dg hF rfl rfl rfl rfl (fun w hx => gv_indexArr (q := 5) rfl u153 z32 (hF.t rfl) rfl (by omega)) fun a hF => ?_
     refine dg hF rfl rfl rfl rfl (fun w hx => gv_load rfl u32 rfl (hF.t rfl) (cell_ix ((hS.ext hx).cellW (k := 2) rfl (5) (by rw [hHl]; omega)) (by omega))) fun a hF => ?_
     refine dg hF rfl rfl rfl rfl (fun w hx => gv_indexArr (q := 6) rfl u153 z32 (hF.t rfl) rfl (by omega)) fun a hF => ?_
     refine dg hF rfl rfl rfl rfl (fun w hx => gv_load rfl u32 rfl (hF.t rfl) (cell_ix ((hS.ext hx).cellW (k := 2) rfl (6) (by rw [hHl]; omega)) (by omega))) fun a hF => ?_
     refine dg hF rfl rfl rfl rfl (fun w hx => gv_indexArr (q := 7) rfl u153 z32 (hF.t rfl) rfl (by omega)) fun a hF => ?_
     refine dg hF rfl rfl rfl rfl (fun w hx => gv_load rfl u32 rfl (hF.t rfl) (cell_ix ((hS.ext hx).cellW (k := 2) rfl (7) (by rw [hHl]; omega)) (by omega))) fun a hF => ?_
     refine dg hF rfl rfl rfl rfl (fun w hx => gv_assign rfl (hF.t rfl)) fun a hF => ?_
     refine dg hF rfl rfl rfl rfl (fun w hx => gv_assign rfl (hF.t rfl)) fun a hF => ?_
     refine dg hF rfl rfl rfl rfl (fun w hx => gv_assign rfl (hF.t rfl)) fun a hF => ?_
     refine dg hF rfl rfl rfl rfl (fun w hx => gv_assign rfl (hF.t rfl)) fun a hF => ?_
     refine dg hF rfl rfl rfl rfl (fun w hx => gv_assign rfl (hF.t rfl)) fun a hF => ?_
     refine dg hF rfl rfl rfl rfl (fun w hx => gv_assign rfl (hF.t rfl)) fun a hF => ?_
     refine dg hF rfl rfl rfl rfl (fun w hx => gv_assign rfl (hF.t rfl)) fun a hF => ?_
     refine dg hF rfl rfl rfl rfl (fun w hx => gv_assign rfl (hF.t rfl)) fun a hF => ?_
     refine dw_nil fun a w hA hx => ?_
     replace hF := hA _ hF
     replace hS := hS.ext hx
     clear hA hx
     refine run_done (by decide) ?_
     refine tN (hKq27 _ _ ?_)
     refine wK fun Kq28 hKq28 => ?_
     refine wK fun Kq29 hKq29 => ?_
     refine wR ?_
     refine wg hF rfl rfl rfl (gv_move rfl (ev_const _ _)) fun a hF => ?_
     refine wN ?_
     refine tN (hKq29 _ _ ?_)
     refine wp_block ?_
     refine wp_loop_n (fun q a w => ∃ i v, i ≤ 64 ∧ q = 64 - i ∧ v = rds (ofL Hh) W i ∧ Fr 221 a [(2, .pointer (some ⟨out, 0, none⟩)), (3, .pointer (some ⟨h, 0, none⟩)), (5, .slice (some ⟨b1, o1, none⟩) (PL.drop (64 * j)).length c1), (6, .pointer (some ⟨wb, 0, none⟩)), (11, vW v.a), (12, vW v.c), (13, vW v.d), (14, vW v.e), (15, vW v.f), (16, vW v.g), (17, vW v.k), (18, vW v.l), (119, vI i)] ∧ St w0 w [⟨true, some wb, blkW 154 (W)⟩, ⟨true, po, blk 5 (PL.map vB ++ pp)⟩, ⟨true, some h, blkW 153 (Hh)⟩, ⟨true, some out, blkB 94 (List.replicate 32 0)⟩]) 64 ⟨0, ofL Hh, by omega, by omega, rfl, hF.sub ⟨rfl, rfl, rfl, rfl, rfl, rfl, rfl, rfl, rfl, rfl, rfl, rfl, rfl, trivial⟩, hS⟩ ?_
     rintro q a w ⟨i, v, hi, hq, hV, hF, hS⟩
     refine wK fun Kq30 hKq30 => ?_
     refine wR ?_
     refine wg hF rfl rfl rfl (gv_lss rfl (hF.t rfl) (ev_const _ _)) fun a hF => ?_
     refine wN ?_
     refine tN (hKq30 _ _ ?_)
     refine wK fun Kq31 hKq31 => ?_
     refine cond_dec (hF.t rfl) (fun h120 => ?_) (fun h120 => ?_)
     ·
      refine wp_skip ?_
      refine tN (hKq31 _ _ ?_)
      refine wK fun Kq32 hKq32 => ?_
      refine wp_block ?_
      refine wK fun Kq33 hKq33 => ?_
      refine wR ?_
      refine wg hF rfl rfl rfl (gv_move rfl (hF.t rfl)) fun a hF => ?_
      refine wg hF rfl rfl rfl (gv_assign rfl (hF.t rfl)) fun a hF => ?_
      refine wN ?_
      refine tN (hKq33 _ _ ?_)
      refine wK fun Kq34 hKq34 => ?_
      refine Fw.wp_region_draw (by kernel_rfl) fun w hx => ?_
      replace hS := hS.ext hx
      clear hx
      refine run_head0 (n := 30) _ hF (by kernel_rfl) rfl ?_
      refine dg hF rfl rfl rfl rfl (fun w hx => gv_move rfl (hF.t rfl)) fun a hF => ?_
      refine dg hF rfl rfl rfl rfl (fun w hx => gv_move rfl (hF.t rfl)) fun a hF => ?_
      refine dw_call hF rfl (wanted_none rfl) rfl rfl Tryd.ok88 rfl (Evs.cons (hF.t rfl) (Evs.cons (ev_const _ _) Evs.nil)) (fun w hx => rot_ok (k := 26) _ _ (by decide) (by decide)) fun a hF => ?_
      refine dg hF rfl rfl rfl rfl (fun w hx => gv_move rfl (hF.t rfl)) fun a hF => ?_
      refine dw_call hF rfl (wanted_none rfl) rfl rfl Tryd.ok88 rfl (Evs.cons (hF.t rfl) (Evs.cons (ev_const _ _) Evs.nil)) (fun w hx => rot_ok (k := 21) _ _ (by decide) (by decide)) fun a hF => ?_
      refine dg hF rfl rfl rfl rfl (fun w hx => gv_w_xor rfl (hF.t rfl) (hF.t rfl)) fun a hF => ?_
      refine dg hF rfl rfl rfl rfl (fun w hx => gv_move rfl (hF.t rfl)) fun a hF => ?_
      refine dw_call hF rfl (wanted_none rfl) rfl rfl Tryd.ok88 rfl (Evs.cons (hF.t rfl) (Evs.cons (ev_const _ _) Evs.nil)) (fun w hx => rot_ok (k := 7) _ _ (by decide) (by decide)) fun a hF => ?_
      refine dg hF rfl rfl rfl rfl (fun w hx => gv_w_xor rfl (hF.t rfl) (hF.t rfl)) fun a hF => ?_
      refine dg hF rfl rfl rfl rfl (fun w hx => gv_w_add rfl (hF.t rfl) (hF.t rfl)) fun a hF => ?_
      refine dg hF rfl rfl rfl rfl (fun w hx => gv_move rfl (hF.t rfl)) fun a hF => ?_
      refine dg hF rfl rfl rfl rfl (fun w hx => gv_move rfl (hF.t rfl)) fun a hF => ?_
      refine dg hF rfl rfl rfl rfl (fun w hx => gv_w_and rfl (hF.t rfl) (hF.t rfl)) fun a hF => ?_
      refine dg hF rfl rfl rfl rfl (fun w hx => gv_move rfl (hF.t rfl)) fun a hF => ?_
      refine dg hF rfl rfl rfl rfl (fun w hx => gv_w_not rfl (hF.t rfl)) fun a hF => ?_
      refine dg hF rfl rfl rfl rfl (fun w hx => gv_move rfl (hF.t rfl)) fun a hF => ?_
      refine dg hF rfl rfl rfl rfl (fun w hx => gv_w_and rfl (hF.t rfl) (hF.t rfl)) fun a hF => ?_
      refine dg hF rfl rfl rfl rfl (fun w hx => gv_w_xor rfl (hF.t rfl) (hF.t rfl)) fun a hF => ?_
      refine dg hF rfl rfl rfl rfl (fun w hx => gv_w_add rfl (hF.t rfl) (hF.t rfl)) fun a hF => ?_
      refine dg hF rfl rfl rfl rfl (fun w hx => gv_move rfl (hF.t rfl)) fun a hF => ?_
      refine dg hF rfl rfl rfl rfl (fun w hx => gv_indexArr rfl u150 z76 rfl (hF.t rfl) (by omega)) fun a hF => ?_
      refine dg hF rfl rfl rfl rfl (fun w hx => gv_load rfl u76 rfl (hF.t rfl) (cell_ix ((hG.ext ((hS.ext hx).toExt (nw_cons rfl (nw_cons rfl (nw_cons rfl (nw_cons rfl nw_nil)))))).sp i (by omega)) (by omega))) fun a hF => ?_
      refine dg hF rfl rfl rfl rfl (fun w hx => gv_d_shr (n := 32) rfl (hF.t rfl) rfl (by omega)) fun a hF => ?_
      refine dg hF rfl rfl rfl rfl (fun w hx => gv_conv_d_w rfl u76 u32 (hF.t rfl)) fun a hF => ?_
      refine dg hF rfl rfl rfl rfl (fun w hx => gv_w_add rfl (hF.t rfl) (hF.t rfl)) fun a hF => ?_
      refine dg hF rfl rfl rfl rfl (fun w hx => gv_move rfl (hF.t rfl)) fun a hF => ?_
      refine dg hF rfl rfl rfl rfl (fun w hx => gv_indexArr rfl u154 z32 (hF.t rfl) (hF.t rfl) (by omega)) fun a hF => ?_
      refine dg hF rfl rfl rfl rfl (fun w hx => gv_load rfl u32 rfl (hF.t rfl) (cell_ix ((hS.ext hx).cellW (k := 0) rfl (i) (by rw [hWl]; omega)) (by omega))) fun a hF => ?_
      refine dg hF rfl rfl rfl rfl (fun w hx => gv_w_add rfl (hF.t rfl) (hF.t rfl)) fun a hF => ?_
      refine dg hF rfl rfl rfl rfl (fun w hx => gv_assign rfl (hF.t rfl)) fun a hF => ?_
      refine dw_nil fun a w hA hx => ?_
      replace hF := hA _ hF
      replace hS := hS.ext hx
      clear hA hx
      refine run_done (by decide) ?_
      refine tN (hKq34 _ _ ?_)
      refine wK fun Kq35 hKq35 => ?_
      refine wR ?_
      refine wg hF rfl rfl rfl (gv_move rfl (hF.t rfl)) fun a hF => ?_
      refine wpList_stp (stp_call hF (wanted_none rfl) rfl rfl Tryd.ok88 rfl (Evs.cons (hF.t rfl) (Evs.cons (ev_const _ _) Evs.nil)) (rot_ok (k := 30) _ _ (by decide) (by decide)) fun e w h => ?_)
      obtain ⟨rfl, hx⟩ := h
      refine ⟨_, rfl, fun a hF => ?_⟩
      replace hS := hS.ext hx
      clear hx
      refine wg hF rfl rfl rfl (gv_move rfl (hF.t rfl)) fun a hF => ?_
      refine wpList_stp (stp_call hF (wanted_none rfl) rfl rfl Tryd.ok88 rfl (Evs.cons (hF.t rfl) (Evs.cons (ev_const _ _) Evs.nil)) (rot_ok (k := 19) _ _ (by decide) (by decide)) fun e w h => ?_)
      obtain ⟨rfl, hx⟩ := h
      refine ⟨_, rfl, fun a hF => ?_⟩
      replace hS := hS.ext hx
      clear hx
      refine wg hF rfl rfl rfl (gv_w_xor rfl (hF.t rfl) (hF.t rfl)) fun a hF => ?_
      refine wg hF rfl rfl rfl (gv_move rfl (hF.t rfl)) fun a hF => ?_
      refine wpList_stp (stp_call hF (wanted_none rfl) rfl rfl Tryd.ok88 rfl (Evs.cons (hF.t rfl) (Evs.cons (ev_const _ _) Evs.nil)) (rot_ok (k := 10) _ _ (by decide) (by decide)) fun e w h => ?_)
      obtain ⟨rfl, hx⟩ := h
      refine ⟨_, rfl, fun a hF => ?_⟩
      replace hS := hS.ext hx
      clear hx
      refine wg hF rfl rfl rfl (gv_w_xor rfl (hF.t rfl) (hF.t rfl)) fun a hF => ?_
      refine wg hF rfl rfl rfl (gv_move rfl (hF.t rfl)) fun a hF => ?_
      refine wg hF rfl rfl rfl (gv_move rfl (hF.t rfl)) fun a hF => ?_
      refine wg hF rfl rfl rfl (gv_w_and rfl (hF.t rfl) (hF.t rfl)) fun a hF => ?_
      refine wg hF rfl rfl rfl (gv_move rfl (hF.t rfl)) fun a hF => ?_
      refine wg hF rfl rfl rfl (gv_move rfl (hF.t rfl)) fun a hF => ?_
      refine wg hF rfl rfl rfl (gv_w_and rfl (hF.t rfl) (hF.t rfl)) fun a hF => ?_
      refine wg hF rfl rfl rfl (gv_w_xor rfl (hF.t rfl) (hF.t rfl)) fun a hF => ?_
      refine wg hF rfl rfl rfl (gv_move rfl (hF.t rfl)) fun a hF => ?_
      refine wg hF rfl rfl rfl (gv_move rfl (hF.t rfl)) fun a hF => ?_
      refine wg hF rfl rfl rfl (gv_w_and rfl (hF.t rfl) (hF.t rfl)) fun a hF => ?_
      refine wg hF rfl rfl rfl (gv_w_xor rfl (hF.t rfl) (hF.t rfl)) fun a hF => ?_
      refine wg hF rfl rfl rfl (gv_w_add rfl (hF.t rfl) (hF.t rfl)) fun a hF => ?_
      refine wg hF rfl rfl rfl (gv_assign rfl (hF.t rfl)) fun a hF => ?_
      refine wN ?_
      refine tN (hKq35 _ _ ?_)
      refine wR ?_
      refine wg hF rfl rfl rfl (gv_move rfl (hF.t rfl)) fun a hF => ?_
      refine wg hF rfl rfl rfl (gv_move rfl (hF.t rfl)) fun a hF => ?_
      refine wg hF rfl rfl rfl (gv_w_add rfl (hF.t rfl) (hF.t rfl)) fun a hF => ?_
      refine wg hF rfl rfl rfl (gv_move rfl (hF.t rfl)) fun a hF => ?_
      refine wg hF rfl rfl rfl (gv_move rfl (hF.t rfl)) fun a hF => ?_
      refine wg hF rfl rfl rfl (gv_move rfl (hF.t rfl)) fun a hF => ?_
      refine wg hF rfl rfl rfl (gv_move rfl (hF.t rfl)) fun a hF => ?_
      refine wg hF rfl rfl rfl (gv_move rfl (hF.t rfl)) fun a hF => ?_
      refine wg hF rfl rfl rfl (gv_w_add rfl (hF.t rfl) (hF.t rfl)) fun a hF => ?_
      refine wg hF rfl rfl rfl (gv_move rfl (hF.t rfl)) fun a hF => ?_
      refine wg hF rfl rfl rfl (gv_move rfl (hF.t rfl)) fun a hF => ?_
      refine wg hF rfl rfl rfl (gv_move rfl (hF.t rfl)) fun a hF => ?_
      refine wg hF rfl rfl rfl (gv_assign rfl (hF.t rfl)) fun a hF => ?_
      refine wg hF rfl rfl rfl (gv_assign rfl (hF.t rfl)) fun a hF => ?_
      refine wg hF rfl rfl rfl (gv_assign rfl (hF.t rfl)) fun a hF => ?_
      refine wg hF rfl rfl rfl (gv_assign rfl (hF.t rfl)) fun a hF => ?_
      refine wg hF rfl rfl rfl (gv_assign rfl (hF.t rfl)) fun a hF => ?_
      refine wg hF rfl rfl rfl (gv_assign rfl (hF.t rfl)) fun a hF => ?_
      refine wg hF rfl rfl rfl (gv_assign rfl (hF.t rfl)) fun a hF => ?_
      refine wg hF rfl rfl rfl (gv_assign rfl (hF.t rfl)) fun a hF => ?_
      refine wN ?_
      refine block_normal ?_
      refine tN (hKq32 _ _ ?_)
      refine wR ?_
      refine wg hF rfl rfl rfl (gv_nadd (n := 1) rfl (hF.t rfl) rfl (by omega)) fun a hF => ?_
      refine wg hF rfl rfl rfl (gv_move rfl (hF.t rfl)) fun a hF => ?_
      refine wN ?_
      refine then_normal ?_
      exact ⟨q - 1, by omega, i + 1, rnd v (hi32 (stepsL.getD i 0)) (W.getD i 0), by omega, by omega, by rw [hV]; rfl, hF.sub ⟨rfl, rfl, rfl, rfl, rfl, rfl, rfl, rfl, rfl, rfl, rfl, rfl, rfl, trivial⟩, hS⟩
     ·
      refine wp_exit ?_
      refine then_exit ?_
      refine then_exit ?_
      refine block_exit ?_
      refine tN (hKq28 _ _ ?_)
      refine wK fun Kq36 hKq36 => ?_
      refine wR ?_
      refine wg hF rfl rfl rfl (gv_move rfl (hF.t rfl)) fun a hF => ?_
      refine wg hF rfl rfl rfl (gv_move rfl (hF.t rfl)) fun a hF => ?_
      refine wg hF rfl rfl rfl (gv_move rfl (hF.t rfl)) fun a hF => ?_
      refine wg hF rfl rfl rfl (gv_move rfl (hF.t rfl)) fun a hF => ?_
      refine wg hF rfl rfl rfl (gv_move rfl (hF.t rfl)) fun a hF => ?_
      refine wg hF rfl rfl rfl (gv_move rfl (hF.t rfl)) fun a hF => ?_
      refine wg hF rfl rfl rfl (gv_move rfl (hF.t rfl)) fun a hF => ?_
      refine wg hF rfl rfl rfl (gv_move rfl (hF.t rfl)) fun a hF => ?_
      refine wg hF rfl rfl rfl (gv_build (v := .agg ((toL v).map vW).toArray) rfl (EvP.map (EvP.cons (hF.t rfl) (EvP.cons (hF.t rfl) (EvP.cons (hF.t rfl) (EvP.cons (hF.t rfl) (EvP.cons (hF.t rfl) (EvP.cons (hF.t rfl) (EvP.cons (hF.t rfl) (EvP.cons (hF.t rfl) EvP.nil))))))))) (run_buildArr (cs := ((toL v).map vW).toArray) u153 z32 Tryd.zv153 rfl (fill8 v))) fun a hF => ?_
      refine wg hF rfl rfl rfl (gv_move rfl (ev_const _ _)) fun a hF => ?_
      refine wN ?_
      refine tN (hKq36 _ _ ?_)
      refine wp_block ?_
      obtain rfl : i = 64 := by omega
      refine wp_loop_n (fun q a w => ∃ i, i ≤ 8 ∧ q = 8 - i ∧ Fr 221 a [(2, .pointer (some ⟨out, 0, none⟩)), (3, .pointer (some ⟨h, 0, none⟩)), (5, .slice (some ⟨b1, o1, none⟩) (PL.drop (64 * j)).length c1), (6, .pointer (some ⟨wb, 0, none⟩)), (192, .agg ((toL v).map vW).toArray), (193, vI i)] ∧ St w0 w [⟨true, some wb, blkW 154 (W)⟩, ⟨true, po, blk 5 (PL.map vB ++ pp)⟩, ⟨true, some h, blkW 153 (hadd Hh (toL v) i)⟩, ⟨true, some out, blkB 94 (List.replicate 32 0)⟩]) 8 ⟨0, by omega, by omega, hF.sub ⟨rfl, rfl, rfl, rfl, rfl, rfl, trivial⟩, hS⟩ ?_
      rintro q a w ⟨i, hi, hq, hF, hS⟩
      refine wK fun Kq37 hKq37 => ?_
      refine wR ?_
      refine wg hF rfl rfl rfl (gv_lss rfl (hF.t rfl) (ev_const _ _)) fun a hF => ?_
      refine wN ?_
      refine tN (hKq37 _ _ ?_)
      refine wK fun Kq38 hKq38 => ?_
      refine cond_dec (hF.t rfl) (fun h194 => ?_) (fun h194 => ?_)
      ·
       refine wp_skip ?_
       refine tN (hKq38 _ _ ?_)
       refine wK fun Kq39 hKq39 => ?_
       refine wp_block ?_
       refine wK fun Kq40 hKq40 => ?_
       refine wR ?_
       refine wg hF rfl rfl rfl (gv_move rfl (hF.t rfl)) fun a hF => ?_
       refine wg hF rfl rfl rfl (gv_indexAgg rfl u153 u32 rfl z32 (hF.t rfl) (hF.t rfl) (by omega) (arr_at (by rw [toL_len]; omega) 0)) fun a hF => ?_
       refine wg hF rfl rfl rfl (gv_assign rfl (hF.t rfl)) fun a hF => ?_
       refine wg hF rfl rfl rfl (gv_assign rfl (hF.t rfl)) fun a hF => ?_
       refine wN ?_
       refine tN (hKq40 _ _ ?_)
       refine wR ?_
       refine wg hF rfl rfl rfl (gv_move rfl (hF.t rfl)) fun a hF => ?_
       refine wg hF rfl rfl rfl (gv_indexArr rfl u153 z32 (hF.t rfl) (hF.t rfl) (by omega)) fun a hF => ?_
       refine wg hF rfl rfl rfl (gv_load rfl u32 rfl (hF.t rfl) (cell_ix (hS.cellW (k := 2) rfl (i) (by rw [hadd_len, hHl]; omega)) (by omega))) fun a hF => ?_
       refine wg hF rfl rfl rfl (gv_move rfl (hF.t rfl)) fun a hF => ?_
       refine wg hF rfl rfl rfl (gv_w_add rfl (hF.t rfl) (hF.t rfl)) fun a hF => ?_
       refine wg hF rfl rfl rfl (gv_indexArr rfl u153 z32 (hF.t rfl) (hF.t rfl) (by omega)) fun a hF => ?_
       refine wpList_stp (stp_storeW (i) hF (wanted_none rfl) rfl rfl z32 (hF.t rfl) (by omega) (hF.t rfl) hS (k := 2) rfl (by rw [hadd_len, hHl]; omega) fun w hS => ?_)
       refine wN ?_
       refine block_normal ?_
       refine tN (hKq39 _ _ ?_)
       refine wR ?_
       refine wg hF rfl rfl rfl (gv_nadd (n := 1) rfl (hF.t rfl) rfl (by omega)) fun a hF => ?_
       refine wg hF rfl rfl rfl (gv_move rfl (hF.t rfl)) fun a hF => ?_
       refine wN ?_
       refine then_normal ?_
       exact ⟨q - 1, by omega, i + 1, by omega, by omega, hF.sub ⟨rfl, rfl, rfl, rfl, rfl, rfl, trivial⟩, hS⟩
      ·
       refine wp_exit ?_
       refine then_exit ?_
       refine then_exit ?_
       refine block_exit ?_
       refine block_normal ?_
       refine tN (hKq13 _ _ ?_)
       refine wR ?_
       refine wg hF rfl rfl rfl (gv_move rfl (hF.t rfl)) fun a hF => ?_
       refine wg hF rfl rfl rfl (gv_sliceLo (lo := 64) rfl u22 z5 (hF.t rfl) rfl (by omega)) fun a hF => ?_
       refine wg hF rfl rfl rfl (gv_assign rfl (hF.t rfl)) fun a hF => ?_
       refine wN ?_
       refine then_normal ?_
       obtain rfl : i = 8 := by omega
       exact ⟨n - 1, by omega, j + 1, _, by omega, by omega, (by have := hP.cutLo (lo := 64) (by omega); rw [← List.map_drop, List.drop_drop] at this; exact this), hF.sub ⟨rfl, rfl, rfl, trivial⟩, by rw [hsA, blkS, ← hHh, ← hW, ← hV]; exact hS.drop rfl⟩
  ·
   refine wp_exit ?_
   refine then_exit ?_
   refine then_exit ?_
   refine block_exit ?_
   refine tN (hKq9 _ _ ?_)
   refine wK fun Kq41 hKq41 => ?_
   refine wR ?_
   refine wpList_stp (stp_alloc hF (wanted_none rfl) rfl rfl rfl Tryd.zv94 rfl hS fun o2 a w hF hS => ?_)
   refine wN ?_
   refine tN (hKq41 _ _ ?_)
   refine wK fun Kq42 hKq42 => ?_
   refine wK fun Kq43 hKq43 => ?_
   refine wR ?_
   refine wg hF rfl rfl rfl (gv_move rfl (ev_const _ _)) fun a hF => ?_
   refine wN ?_
   refine tN (hKq43 _ _ ?_)
   refine wp_block ?_
   obtain rfl : j = M := by omega
   refine wp_loop_n (fun q a w => ∃ i, i ≤ 32 ∧ q = 32 - i ∧ Fr 221 a [(2, .pointer (some ⟨out, 0, none⟩)), (3, .pointer (some ⟨h, 0, none⟩)), (24, .pointer (some ⟨o2, 0, none⟩)), (204, vI i)] ∧ St w0 w [⟨true, some o2, blkB 94 (outS (hsA PL j) i)⟩, ⟨true, po, blk 5 (PL.map vB ++ pp)⟩, ⟨true, some h, blkW 153 (hsA PL j)⟩, ⟨true, some out, blkB 94 (List.replicate 32 0)⟩]) 32 ⟨0, by omega, by omega, hF.sub ⟨rfl, rfl, rfl, rfl, trivial⟩, hS⟩ ?_
   rintro q a w ⟨i, hi, hq, hF, hS⟩
   refine wK fun Kq44 hKq44 => ?_
   refine wR ?_
   refine wg hF rfl rfl rfl (gv_lss rfl (hF.t rfl) (ev_const _ _)) fun a hF => ?_
   refine wN ?_
   refine tN (hKq44 _ _ ?_)
   refine wK fun Kq45 hKq45 => ?_
   refine cond_dec (hF.t rfl) (fun h205 => ?_) (fun h205 => ?_)
   ·
    refine wp_skip ?_
    refine tN (hKq45 _ _ ?_)
    refine wK fun Kq46 hKq46 => ?_
    refine wp_block ?_
    refine wK fun Kq47 hKq47 => ?_
    refine wR ?_
    refine wg hF rfl rfl rfl (gv_move rfl (hF.t rfl)) fun a hF => ?_
    refine wg hF rfl rfl rfl (gv_assign rfl (hF.t rfl)) fun a hF => ?_
    refine wN ?_
    refine tN (hKq47 _ _ ?_)
    refine wR ?_
    refine wg hF rfl rfl rfl (gv_move rfl (hF.t rfl)) fun a hF => ?_
    refine wg hF rfl rfl rfl (gv_move rfl (hF.t rfl)) fun a hF => ?_
    refine wg hF rfl rfl rfl (gv_nquo (n := 4) rfl (hF.t rfl) rfl (by omega) (by omega)) fun a hF => ?_
    refine wg hF rfl rfl rfl (gv_indexArr rfl u153 z32 (hF.t rfl) (hF.t rfl) (by omega)) fun a hF => ?_
    refine wg hF rfl rfl rfl (gv_load rfl u32 rfl (hF.t rfl) (cell_ix (hS.cellW (k := 2) rfl (i / 4) (by rw [hHl]; omega)) (by omega))) fun a hF => ?_
    refine wg hF rfl rfl rfl (gv_move rfl (hF.t rfl)) fun a hF => ?_
    refine wg hF rfl rfl rfl (gv_nrem (n := 4) rfl (hF.t rfl) rfl (by omega)) fun a hF => ?_
    refine wg hF rfl rfl rfl (gv_nmul (m := 8) rfl rfl (hF.t rfl) (by omega)) fun a hF => ?_
    refine wg hF rfl rfl rfl (gv_nsub (m := 24) rfl rfl (hF.t rfl) (by omega) (by omega)) fun a hF => ?_
    refine wg hF rfl rfl rfl (gv_w_shr rfl (hF.t rfl) (hF.t rfl) (by omega)) fun a hF => ?_
    refine wg hF rfl rfl rfl (gv_conv_w_b rfl u32 u5 (hF.t rfl)) fun a hF => ?_
    refine wg hF rfl rfl rfl (gv_indexArr rfl u94 z5 (hF.t rfl) (hF.t rfl) (by omega)) fun a hF => ?_
    refine wpList_stp (stp_storeB (i) hF (wanted_none rfl) rfl rfl z5 (hF.t rfl) (by omega) (hF.t rfl) hS (k := 0) rfl (by rw [outS_len]; omega) fun w hS => ?_)
    refine wN ?_
    refine block_normal ?_
    refine tN (hKq46 _ _ ?_)
    refine wR ?_
    refine wg hF rfl rfl rfl (gv_nadd (n := 1) rfl (hF.t rfl) rfl (by omega)) fun a hF => ?_
    refine wg hF rfl rfl rfl (gv_move rfl (hF.t rfl)) fun a hF => ?_
    refine wN ?_
    refine then_normal ?_
    exact ⟨q - 1, by omega, i + 1, by omega, by omega, hF.sub ⟨rfl, rfl, rfl, rfl, trivial⟩, hS⟩
   ·
    refine wp_exit ?_
    refine then_exit ?_
    refine then_exit ?_
    refine block_exit ?_
    refine tN (hKq42 _ _ ?_)
    refine wK fun Kq48 hKq48 => ?_
    obtain rfl : i = 32 := by omega
    refine wR ?_
    refine wg hF rfl rfl rfl (gv_loadAll rfl u94 rfl (z94.trans (congrArg some (by rw [List.length_map, outS_len]))) (hF.t rfl) hS (k := 0) rfl) fun a hF => ?_
    refine wpList_stp (stp_storeAll hF (wanted_none rfl) rfl rfl (z94.trans (congrArg some (by rw [List.length_map, outS_len]))) (hF.t rfl) (hF.t rfl) (one_B _) hS (k := 3) rfl (by rw [List.length_map, outS_len]; rfl) fun w hS => ?_)
    refine wN ?_
    refine tN (hKq48 _ _ ?_)
    refine wp_ret ?_
    refine retCell (fn := Tryd.f65) hF rfl u94 rfl (z94.trans (congrArg some (by rw [List.length_map, outS_len]))) rfl hS (k := 3) rfl ⟨by rw [sum256, ← hPL, hM0], hS.toExt (nw_cons rfl (nw_cons rfl (nw_cons rfl (nw_cons rfl nw_nil))))⟩
end Go.Proofs.YtfhalnobaeogkaaDoor
set_option linter.unusedVariables false
set_option linter.unusedSimpArgs false
namespace Go.Proofs.YtfhalnobaeogkaaDoor
open Go Go.RowKit Go.Fw
theorem z4 : (Tryd.prog.info? 4).map (·.size) = some 1 := by kernel_rfl
theorem z22 : (Tryd.prog.info? 22).map (·.size) = some 1 := by kernel_rfl
theorem Tryd.zv135 : (Tryd.prog.info? 135).map (·.zero) = some (some (Value.agg ([Value.slice none 0 0] ++ [Value.bool false]).toArray)) := by kernel_rfl
theorem Tryd.ok65 : CallOk Tryd.prog 65 := ⟨_, Tryd.func65, by kernel_rfl, by kernel_rfl⟩
theorem Tryd.ok68 : CallOk Tryd.prog 68 := ⟨_, Tryd.func68, by kernel_rfl, by kernel_rfl⟩
def be8 (n : UInt64) : Nat → List UInt8
 | 0 => []
 | q + 1 => be8 n q ++ [(n >>> UInt64.ofNat (8 * (7 - q))).toUInt8]
theorem be8_len (n : UInt64) : ∀ q, (be8 n q).length = q
 | 0 => rfl
 | q + 1 => by rw [be8, List.length_append, be8_len n q]; rfl
def d1 (sl : List UInt8) (n : UInt64) (q : Nat) : List UInt8 := sl ++ be8 n q
theorem d1_zero (sl : List UInt8) (n : UInt64) : sl = d1 sl n 0 := by simp [d1, be8]
theorem d1_succ (sl : List UInt8) (n : UInt64) (q j : Nat) (h : j = 7 - q) : d1 sl n q ++ [(n >>> UInt64.ofNat (8 * j)).toUInt8] = d1 sl n (q + 1) := by rw [d1, d1, List.append_assoc, be8, h]
theorem d1_len (sl : List UInt8) (n : UInt64) (q : Nat) : (d1 sl n q).length = sl.length + q := by simp [d1, be8_len]
def drawF (sl : List UInt8) (n : UInt64) : List UInt8 := sum256 (d1 sl n 8)
theorem drawF_len (sl : List UInt8) (n : UInt64) : (drawF sl n).length = 32 := sum256_len _
theorem draw_ok {sl : List UInt8} {n : UInt64} {w0 : World} (hG : Glob w0) (hn : sl.length ≤ 274877906944) :
  Calls Tryd.prog 44 #[sV sl, vD n] w0 fun e w' => e = .returned (.agg ((drawF sl n).map vB).toArray) ∧ Ext w0 w' := by
 refine calls_start 23 Tryd.func44 rfl Tryd.ntmps44 rfl fun a hF => ?_
 have hS := St.refl w0
 refine wK fun Kq1 hKq1 => ?_
 refine wR ?_
 refine wpList_stp (stp_alloc hF (wanted_none rfl) rfl rfl rfl Tryd.zv94 rfl hS fun out a w hF hS => ?_)
 refine wN ?_
 refine tN (hKq1 _ _ ?_)
 refine wK fun Kq2 hKq2 => ?_
 refine wR ?_
 refine wg hF rfl rfl rfl (gv_move rfl (hF.t rfl)) fun a hF => ?_
 refine wpList_stp (stp_strBytes hF (wanted_none rfl) rfl rfl rfl u9 u22 u5 (hF.t rfl) (by omega) hS fun b bp a w hF bc hS => ?_)
 refine wg hF rfl rfl rfl (gv_assign rfl (hF.t rfl)) fun a hF => ?_
 refine wN ?_
 refine tN (hKq2 _ _ ?_)
 refine wK fun Kq3 hKq3 => ?_
 refine wK fun Kq4 hKq4 => ?_
 refine wR ?_
 refine wg hF rfl rfl rfl (gv_assign rfl (ev_const _ _)) fun a hF => ?_
 refine wN ?_
 refine tN (hKq4 _ _ ?_)
 refine wp_block ?_
 rw [d1_zero sl n] at hS
 have hl0 := d1_len sl n 0
 refine wp_loop_n (fun q1 a w => ∃ (q j : Nat) (f : Bool) (b : Nat) (bp : List Value), q + j = 8 ∧ q1 = j ∧ (d1 sl n q).length + bp.length ≤ 9223372036854775807 ∧ Fr 23 a [(1, vD n), (4, .pointer (some ⟨out, 0, none⟩)), (5, .slice (some ⟨b, 0, none⟩) (d1 sl n q).length ((d1 sl n q).length + bp.length)), (6, dctr j)] ∧ St w0 w [⟨true, some b, blkX f 5 ((d1 sl n q).map vB ++ bp)⟩, ⟨true, some out, blkB 94 (List.replicate 32 0)⟩]) 8 ⟨0, 8, true, b, bp, rfl, rfl, by rw [hl0]; exact bc, by rw [hl0]; exact hF.sub ⟨rfl, rfl, rfl, rfl, trivial⟩, hS⟩ ?_
 rintro q1 a w ⟨q, j, f, b, bp, hqj, hn1, bc, hF, hS⟩
 have hzl := d1_len sl n q
 refine wK fun Kq5 hKq5 => ?_
 refine wK fun Kq6 hKq6 => ?_
 refine wR ?_
 refine wg hF rfl rfl rfl (gv_move rfl (hF.t rfl)) fun a hF => ?_
 refine wg hF rfl rfl rfl (gv_geq rfl (hF.t rfl) (ev_const _ _)) fun a hF => ?_
 refine wN ?_
 refine tN (hKq6 _ _ ?_)
 refine cond_dec (hF.t rfl) (fun h10 => ?_) (fun h10 => ?_)
 ·
  obtain ⟨j, rfl⟩ : ∃ i, j = i + 1 := ⟨j - 1, by omega⟩
  replace hF : Fr 23 a [(1, vD n), (4, .pointer (some ⟨out, 0, none⟩)), (5, .slice (some ⟨b, 0, none⟩) (d1 sl n q).length ((d1 sl n q).length + bp.length)), (6, vI j)] := hF.sub ⟨rfl, rfl, rfl, congrArg some (dctr_succ j), trivial⟩
  refine wp_skip ?_
  refine tN (hKq5 _ _ ?_)
  refine wK fun Kq7 hKq7 => ?_
  refine wp_block ?_
  refine wR ?_
  refine wg hF rfl rfl rfl (gv_move rfl (hF.t rfl)) fun a hF => ?_
  refine wg hF rfl rfl rfl (gv_move rfl (hF.t rfl)) fun a hF => ?_
  refine wg hF rfl rfl rfl (gv_move rfl (hF.t rfl)) fun a hF => ?_
  refine wg hF rfl rfl rfl (gv_nmul (m := 8) rfl rfl (hF.t rfl) (by omega)) fun a hF => ?_
  refine wg hF rfl rfl rfl (gv_d_shr rfl (hF.t rfl) (hF.t rfl) (by omega)) fun a hF => ?_
  refine wg hF rfl rfl rfl (gv_conv_d_b rfl u76 u5 (hF.t rfl)) fun a hF => ?_
  refine wpList_stp (stp_build1 (v := _) hF (wanted_none rfl) rfl rfl rfl u22 Tryd.ty5 (hF.t rfl) hS fun zb a w hF hS => ?_)
  refine wpList_stp (stp_app1X (k := 0) hF (wanted_none rfl) rfl rfl rfl u22 Tryd.ty5 rfl (hF.t rfl) (hF.t rfl) hS rfl bc (by omega) fun f b bp a w hF bc hS => ?_)
  refine wg hF rfl rfl rfl (gv_assign rfl (hF.t rfl)) fun a hF => ?_
  refine wN ?_
  refine block_normal ?_
  refine tN (hKq7 _ _ ?_)
  refine wR ?_
  refine wg hF rfl rfl rfl (gv_move rfl (hF.t rfl)) fun a hF => ?_
  refine wg hF rfl rfl rfl (gv_sub rfl (hF.t rfl) (ev_const _ _) (by omega) (by omega)) fun a hF => ?_
  refine wg hF rfl rfl rfl (gv_assign rfl (hF.t rfl)) fun a hF => ?_
  refine wN ?_
  refine then_normal ?_
  rw [d1_succ _ _ _ _ (show j = 7 - q by omega)] at hF bc hS
  exact ⟨q1 - 1, by omega, q + 1, j, f, b, bp, by omega, by omega, bc, hF.sub ⟨rfl, rfl, rfl, rfl, trivial⟩, hS⟩
 ·
  refine wp_exit ?_
  refine then_exit ?_
  refine then_exit ?_
  refine block_exit ?_
  refine tN (hKq3 _ _ ?_)
  refine wK fun Kq8 hKq8 => ?_
  obtain rfl : j = 0 := by omega
  obtain rfl : q = 8 := by omega
  refine wR ?_
  refine wg hF rfl rfl rfl (gv_move rfl (hF.t rfl)) fun a hF => ?_
  refine wpList_stp (stp_call hF (wanted_none rfl) rfl rfl Tryd.ok65 rfl (Evs.cons (hF.t rfl) Evs.nil) (sum_ok (hG.ext (hS.toExt (nw_cons rfl (nw_cons rfl nw_nil)))) (rdX hS List.mem_cons_self rfl bc) (by omega)) fun e w h => ?_)
  obtain ⟨rfl, hx⟩ := h
  refine ⟨_, rfl, fun a hF => ?_⟩
  replace hS := hS.ext hx
  clear hx
  refine wpList_stp (stp_storeAll hF (wanted_none rfl) rfl rfl (z94.trans (congrArg some (by rw [List.length_map, sum256_len]))) (hF.t rfl) (hF.t rfl) (one_B _) hS (k := 1) rfl (by rw [List.length_map, sum256_len]; rfl) fun w hS => ?_)
  refine wN ?_
  refine tN (hKq8 _ _ ?_)
  refine wp_ret ?_
  refine retCell (fn := Tryd.f44) hF rfl u94 rfl (z94.trans (congrArg some (by rw [List.length_map, sum256_len]))) rfl hS (k := 1) rfl ⟨rfl, hS.toExt (nw_cons rfl (nw_cons rfl nw_nil))⟩
def u32B (x : UInt32) : List UInt8 := [(x >>> UInt32.ofNat 24).toUInt8, (x >>> UInt32.ofNat 16).toUInt8, (x >>> UInt32.ofNat 8).toUInt8, x.toUInt8]
theorem u32B_len (x : UInt32) : (u32B x).length = 4 := rfl
def u32A (l : List UInt8) : Nat → UInt32
 | 0 => 0
 | i + 1 => u32A l i <<< UInt32.ofNat 8 ||| (l.getD i 0).toUInt32
abbrev wrd (v : Value) (bad : Bool) : Obj := blk 135 [v, .bool bad]
theorem build_wrd {A : Option Addr} {n c : Nat} (w : World) : (Instr.build 135 #[(0, .slice A n c)]).run Tryd.prog w = .ok (.agg [.slice A n c, .bool false].toArray) w := by
 refine run_buildStr (pl := [(0, .slice A n c)]) (places := #[(0, 1), (1, 1)]) u135 Tryd.zv135 rfl (fun w => ?_) ?_
 ·
  simp [Fw.run_sizeOf z22, Fw.run_sizeOf z4]
 ·
  rfl
theorem dgetD_take {l : List UInt8} {o i : Nat} (h : i < o) : (l.take o).getD i 0 = l.getD i 0 := by simp [List.getD_eq_getElem?_getD, h]
theorem u32_ok {w00 w : World} {T : List Ent} {o : Option Nat} {l : List UInt8} {op : List Value} {x : UInt32} (hT : ∀ e ∈ T, e.nw = true) (hS : St w00 w (⟨true, o, blk 5 (l.map vB ++ op)⟩ :: T)) (oo : o = none → l = [] ∧ op = []) (oc : l.length + op.length ≤ 9223372036854775807) (hn : l.length ≤ 1099511627776) :
  Calls Tryd.prog 45 #[ownV o l.length (l.length + op.length), vW x] w fun e w' => ∃ o' op', e = .returned (ownV o' (l ++ u32B x).length ((l ++ u32B x).length + op'.length)) ∧ (o' = none → (l ++ u32B x) = [] ∧ op' = []) ∧ ((l ++ u32B x)).length + op'.length ≤ 9223372036854775807 ∧ St w00 w' (⟨true, o', blk 5 ((l ++ u32B x).map vB ++ op')⟩ :: T) := by
 refine calls_start 19 Tryd.func45 rfl Tryd.ntmps45 rfl fun a hF => ?_
 refine wK fun Kq1 hKq1 => ?_
 refine wR ?_
 refine wg hF rfl rfl rfl (gv_assign rfl (ev_const _ _)) fun a hF => ?_
 refine wN ?_
 refine tN (hKq1 _ _ ?_)
 refine wK fun Kq2 hKq2 => ?_
 refine wR ?_
 refine wg hF rfl rfl rfl (gv_move rfl (hF.t rfl)) fun a hF => ?_
 refine wg hF rfl rfl rfl (gv_move rfl (hF.t rfl)) fun a hF => ?_
 refine wg hF rfl rfl rfl (gv_w_shr (n := 24) rfl (hF.t rfl) rfl (by omega)) fun a hF => ?_
 refine wg hF rfl rfl rfl (gv_conv_w_b rfl u32 u5 (hF.t rfl)) fun a hF => ?_
 refine wg hF rfl rfl rfl (gv_move rfl (hF.t rfl)) fun a hF => ?_
 refine wg hF rfl rfl rfl (gv_w_shr (n := 16) rfl (hF.t rfl) rfl (by omega)) fun a hF => ?_
 refine wg hF rfl rfl rfl (gv_conv_w_b rfl u32 u5 (hF.t rfl)) fun a hF => ?_
 refine wg hF rfl rfl rfl (gv_move rfl (hF.t rfl)) fun a hF => ?_
 refine wg hF rfl rfl rfl (gv_w_shr (n := 8) rfl (hF.t rfl) rfl (by omega)) fun a hF => ?_
 refine wg hF rfl rfl rfl (gv_conv_w_b rfl u32 u5 (hF.t rfl)) fun a hF => ?_
 refine wg hF rfl rfl rfl (gv_move rfl (hF.t rfl)) fun a hF => ?_
 refine wg hF rfl rfl rfl (gv_conv_w_b rfl u32 u5 (hF.t rfl)) fun a hF => ?_
 refine wpList_stp (stp_build4 hF (wanted_none rfl) rfl rfl rfl u22 Tryd.ty5 (hF.t rfl) (hF.t rfl) (hF.t rfl) (hF.t rfl) hS fun zb a w hF hS => ?_)
 have hR : Rd w (.slice (some ⟨zb, 0, none⟩) 4 4) ((u32B x).map vB) := rd_blkB hS List.mem_cons_self rfl (by omega)
 refine wpList_stp (stp_appB (k := 1) hF (wanted_none rfl) rfl rfl rfl u22 Tryd.ty5 rfl (hF.t rfl) (hF.t rfl) hS rfl oo oc hR (by rw [u32B_len]; omega) fun o op a w hF oo oc hS => ?_)
 replace hS := hS.drop rfl
 refine wg hF rfl rfl rfl (gv_assign rfl (hF.t rfl)) fun a hF => ?_
 refine wN ?_
 refine tN (hKq2 _ _ ?_)
 refine wp_ret ?_
 refine ret1 (fn := Tryd.f45) (t := 4) hF rfl rfl ?_
 exact ⟨o, op, rfl, oo, oc, hS⟩
theorem from_ok {A : Option Addr} {n c : Nat} {w0 : World} :
  Calls Tryd.prog 48 #[.slice A n c] w0 fun e w' => ∃ r, e = .returned (.pointer (some ⟨r, 0, none⟩)) ∧ St w0 w' [⟨true, some r, wrd (.slice A n c) false⟩] := by
 refine calls_start 6 Tryd.func48 rfl Tryd.ntmps48 rfl fun a hF => ?_
 have hS := St.refl w0
 refine wK fun Kq1 hKq1 => ?_
 refine wR ?_
 refine wg hF rfl rfl rfl (gv_assign rfl (ev_const _ _)) fun a hF => ?_
 refine wN ?_
 refine tN (hKq1 _ _ ?_)
 refine wK fun Kq2 hKq2 => ?_
 refine wR ?_
 refine wg hF rfl rfl rfl (gv_move rfl (hF.t rfl)) fun a hF => ?_
 refine wg hF rfl rfl rfl (gv_build rfl (EvP.map (EvP.cons (hF.t rfl) EvP.nil)) (build_wrd _)) fun a hF => ?_
 refine wpList_stp (stp_box hF (wanted_none rfl) rfl rfl rfl (hF.t rfl) rfl hS fun r a w hF hS => ?_)
 refine wg hF rfl rfl rfl (gv_assign rfl (hF.t rfl)) fun a hF => ?_
 refine wN ?_
 refine tN (hKq2 _ _ ?_)
 refine wp_ret ?_
 refine ret1 (fn := Tryd.f48) (t := 2) hF rfl rfl ?_
 exact ⟨r, rfl, hS⟩
theorem take_ok {w00 w : World} {T : List Ent} {r k n c : Nat} {A : Option Addr} (hS : St w00 w (⟨true, some r, wrd (.slice A n c) false⟩ :: T)) (hk : k ≤ n) (hc : n ≤ c) :
  Calls Tryd.prog 68 #[.pointer (some ⟨r, 0, none⟩), vI k] w fun e w' => e = .returned (.slice A k k) ∧ St w00 w' (⟨true, some r, wrd (cutV A n c k) false⟩ :: T) := by
 refine calls_start 48 Tryd.func68 rfl Tryd.ntmps68 rfl fun a hF => ?_
 refine wK fun Kq1 hKq1 => ?_
 refine wR ?_
 refine wg hF rfl rfl rfl (gv_assign rfl (ev_const _ _)) fun a hF => ?_
 refine wN ?_
 refine tN (hKq1 _ _ ?_)
 refine wK fun Kq2 hKq2 => ?_
 refine wK fun Kq3 hKq3 => ?_
 refine wR ?_
 refine wg hF rfl rfl rfl (gv_move rfl (hF.t rfl)) fun a hF => ?_
 refine wg hF rfl rfl rfl (gv_eqlNil rfl u98 (hF.t rfl) (ev_const _ _)) fun a hF => ?_
 refine wg hF rfl rfl rfl (gv_move rfl (hF.t rfl)) fun a hF => ?_
 refine wpList_stp (stp_gv hF (wanted_of hF rfl rfl (rfl)) rfl rfl (gv_move rfl (hF.t rfl)) fun a hF => ?_)
 refine wpList_stp (stp_gv hF (wanted_of hF rfl rfl (rfl)) rfl rfl (gv_nilCheck rfl (hF.t rfl)) fun a hF => ?_)
 refine wpList_stp (stp_gv hF (wanted_of hF rfl rfl (rfl)) rfl rfl (gv_field (r := 1) rfl u135 rfl rfl z4 (by decide) (hF.t rfl)) fun a hF => ?_)
 refine wpList_stp (stp_gv hF (wanted_of hF rfl rfl (rfl)) rfl rfl (gv_load rfl u4 rfl (hF.t rfl) (cell_ix (j := 1) (hS.cell (k := 0) rfl (rfl)) (by omega))) fun a hF => ?_)
 refine wg hF rfl rfl rfl (gv_pickF rfl (hF.t rfl) (hF.t rfl)) fun a hF => ?_
 refine wg hF rfl rfl rfl (gv_move rfl (hF.t rfl)) fun a hF => ?_
 refine wpList_stp (stp_gv hF (wanted_of hF rfl rfl (rfl)) rfl rfl (gv_move rfl (hF.t rfl)) fun a hF => ?_)
 refine wpList_stp (stp_gv hF (wanted_of hF rfl rfl (rfl)) rfl rfl (gv_move rfl (hF.t rfl)) fun a hF => ?_)
 refine wpList_stp (stp_gv hF (wanted_of hF rfl rfl (rfl)) rfl rfl (gv_nilCheck rfl (hF.t rfl)) fun a hF => ?_)
 refine wpList_stp (stp_gv hF (wanted_of hF rfl rfl (rfl)) rfl rfl (gv_field (r := 0) rfl u135 rfl rfl z22 (by decide) (hF.t rfl)) fun a hF => ?_)
 refine wpList_stp (stp_gv hF (wanted_of hF rfl rfl (rfl)) rfl rfl (gv_load rfl u22 rfl (hF.t rfl) (cell_ix (j := 0) (hS.cell (k := 0) rfl (rfl)) (by omega))) fun a hF => ?_)
 refine wpList_stp (stp_gv hF (wanted_of hF rfl rfl (rfl)) rfl rfl (gv_len rfl u22 (hF.t rfl)) fun a hF => ?_)
 refine wpList_stp (stp_gv hF (wanted_of hF rfl rfl (rfl)) rfl rfl (gv_gtrF rfl (hF.t rfl) (hF.t rfl) (by omega)) fun a hF => ?_)
 refine wg hF rfl rfl rfl (gv_pickF rfl (hF.t rfl) (hF.t rfl)) fun a hF => ?_
 refine wN ?_
 refine tN (hKq3 _ _ ?_)
 refine wp_cond_false (hF.t rfl) ?_
 refine wp_skip ?_
 refine tN (hKq2 _ _ ?_)
 refine wK fun Kq4 hKq4 => ?_
 refine wR ?_
 refine wg hF rfl rfl rfl (gv_move rfl (hF.t rfl)) fun a hF => ?_
 refine wg hF rfl rfl rfl (gv_nilCheck rfl (hF.t rfl)) fun a hF => ?_
 refine wg hF rfl rfl rfl (gv_field (r := 0) rfl u135 rfl rfl z22 (by decide) (hF.t rfl)) fun a hF => ?_
 refine wg hF rfl rfl rfl (gv_load rfl u22 rfl (hF.t rfl) (cell_ix (j := 0) (hS.cell (k := 0) rfl (rfl)) (by omega))) fun a hF => ?_
 refine wg hF rfl rfl rfl (gv_move rfl (hF.t rfl)) fun a hF => ?_
 refine wg hF rfl rfl rfl (gv_move rfl (hF.t rfl)) fun a hF => ?_
 refine wg hF rfl rfl rfl (gv_sliceHM rfl u22 z5 (hF.t rfl) (hF.t rfl) (hF.t rfl) (by omega) (by omega)) fun a hF => ?_
 refine wg hF rfl rfl rfl (gv_assign rfl (hF.t rfl)) fun a hF => ?_
 refine wN ?_
 refine tN (hKq4 _ _ ?_)
 refine wK fun Kq5 hKq5 => ?_
 refine wR ?_
 refine wg hF rfl rfl rfl (gv_move rfl (hF.t rfl)) fun a hF => ?_
 refine wg hF rfl rfl rfl (gv_move rfl (hF.t rfl)) fun a hF => ?_
 refine wg hF rfl rfl rfl (gv_nilCheck rfl (hF.t rfl)) fun a hF => ?_
 refine wg hF rfl rfl rfl (gv_field (r := 0) rfl u135 rfl rfl z22 (by decide) (hF.t rfl)) fun a hF => ?_
 refine wg hF rfl rfl rfl (gv_load rfl u22 rfl (hF.t rfl) (cell_ix (j := 0) (hS.cell (k := 0) rfl (rfl)) (by omega))) fun a hF => ?_
 refine wg hF rfl rfl rfl (gv_move rfl (hF.t rfl)) fun a hF => ?_
 refine wg hF rfl rfl rfl (gv_sliceLo rfl u22 z5 (hF.t rfl) (hF.t rfl) (by omega)) fun a hF => ?_
 refine wg hF rfl rfl rfl (gv_nilCheck rfl (hF.t rfl)) fun a hF => ?_
 refine wg hF rfl rfl rfl (gv_field (r := 0) rfl u135 rfl rfl z22 (by decide) (hF.t rfl)) fun a hF => ?_
 refine wpList_stp (stp_storeAt (0) hF (wanted_none rfl) rfl rfl z22 (hF.t rfl) (by omega) (hF.t rfl) rfl hS (k := 0) rfl (by simp) fun w hS => ?_)
 refine wN ?_
 refine tN (hKq5 _ _ ?_)
 refine wK fun Kq6 hKq6 => ?_
 refine wR ?_
 refine wg hF rfl rfl rfl (gv_move rfl (hF.t rfl)) fun a hF => ?_
 refine wg hF rfl rfl rfl (gv_assign rfl (hF.t rfl)) fun a hF => ?_
 refine wN ?_
 refine tN (hKq6 _ _ ?_)
 refine wp_ret ?_
 refine ret1 (fn := Tryd.f68) (t := 4) hF rfl rfl ?_
 exact ⟨rfl, hS⟩
theorem ru32_ok {w00 w : World} {T : List Ent} {r c : Nat} {A : Option Addr} {bl : List UInt8} (hT : ∀ e ∈ T, e.nw = true) (hS : St w00 w (⟨true, some r, wrd (.slice A bl.length c) false⟩ :: T)) (hP : SRd w00 T (.slice A bl.length c) (bl.map vB)) (hk : 4 ≤ bl.length) (hc : bl.length ≤ c) :
  Calls Tryd.prog 49 #[.pointer (some ⟨r, 0, none⟩)] w fun e w' => e = .returned (vW (u32A bl 4)) ∧ St w00 w' (⟨true, some r, wrd (cutV A bl.length c 4) false⟩ :: T) := by
 replace hP := hP.cutHM (h := 4) (mx := 4) hk (Nat.le_refl _) (by omega)
 rw [← List.map_take] at hP
 have hl4 : (bl.take 4).length = 4 := by simp; omega
 have hR0 := hP w _ hS (nw_cons rfl hT) (fun e he => List.mem_cons_of_mem _ he)
 obtain ⟨A1, c1, hv, _, _, hcell⟩ := hR0.isB
 injection hv with hv1 _ _
 subst hv1
 obtain ⟨b1, o1, rfl, _⟩ := hcell (by omega)
 clear hcell hR0
 refine calls_start 20 Tryd.func49 rfl Tryd.ntmps49 rfl fun a hF => ?_
 refine wK fun Kq1 hKq1 => ?_
 refine wR ?_
 refine wg hF rfl rfl rfl (gv_assign rfl (ev_const _ _)) fun a hF => ?_
 refine wN ?_
 refine tN (hKq1 _ _ ?_)
 refine wK fun Kq2 hKq2 => ?_
 refine wR ?_
 refine wg hF rfl rfl rfl (gv_assign rfl (ev_const _ _)) fun a hF => ?_
 refine wN ?_
 refine tN (hKq2 _ _ ?_)
 refine wK fun Kq3 hKq3 => ?_
 refine wK fun Kq4 hKq4 => ?_
 refine wR ?_
 refine wg hF rfl rfl rfl (gv_move rfl (hF.t rfl)) fun a hF => ?_
 refine wpList_stp (stp_call hF (wanted_none rfl) rfl rfl Tryd.ok68 rfl (Evs.cons (hF.t rfl) (Evs.cons (ev_const _ _) Evs.nil)) (take_ok (k := 4) hS hk hc) fun e w h => ?_)
 obtain ⟨rfl, hS⟩ := h
 refine ⟨_, rfl, fun a hF => ?_⟩
 refine wg hF rfl rfl rfl (gv_len rfl u22 (hF.t rfl)) fun a hF => ?_
 refine wg hF rfl rfl rfl (gv_move rfl (ev_const _ _)) fun a hF => ?_
 refine wN ?_
 refine tN (hKq4 _ _ ?_)
 refine wp_block ?_
 refine wp_loop_n (fun n a w => ∃ i, i ≤ 4 ∧ n = 4 - i ∧ Fr 20 a [(0, .pointer (some ⟨r, 0, none⟩)), (3, vW (u32A bl i)), (7, .slice (some ⟨b1, o1, none⟩) 4 4), (8, vI 4), (9, vI i)] ∧ St w00 w (⟨true, some r, wrd (cutV (some ⟨b1, o1, none⟩) bl.length c 4) false⟩ :: T)) 4 ⟨0, by omega, by omega, hF.sub ⟨rfl, rfl, rfl, rfl, rfl, trivial⟩, hS⟩ ?_
 rintro n a w ⟨i, hi, hn, hF, hS⟩
 refine wK fun Kq5 hKq5 => ?_
 refine wR ?_
 refine wg hF rfl rfl rfl (gv_lss rfl (hF.t rfl) (hF.t rfl)) fun a hF => ?_
 refine wN ?_
 refine tN (hKq5 _ _ ?_)
 refine wK fun Kq6 hKq6 => ?_
 refine cond_dec (hF.t rfl) (fun h10 => ?_) (fun h10 => ?_)
 ·
  refine wp_skip ?_
  refine tN (hKq6 _ _ ?_)
  refine wK fun Kq7 hKq7 => ?_
  refine wp_block ?_
  refine wK fun Kq8 hKq8 => ?_
  refine wR ?_
  refine wg hF rfl rfl rfl (gv_indexSl rfl u22 z5 (hF.t rfl) (hF.t rfl) (by omega)) fun a hF => ?_
  refine wg hF rfl rfl rfl (gv_load rfl u5 rfl (hF.t rfl) (cell_ix ((hP _ _ hS (nw_cons rfl hT) (fun e he => List.mem_cons_of_mem _ he)).cellB i (by omega)) (by omega))) fun a hF => ?_
  refine wg hF rfl rfl rfl (gv_assign rfl (hF.t rfl)) fun a hF => ?_
  refine wN ?_
  refine tN (hKq8 _ _ ?_)
  refine wR ?_
  refine wg hF rfl rfl rfl (gv_move rfl (hF.t rfl)) fun a hF => ?_
  refine wg hF rfl rfl rfl (gv_w_shl (n := 8) rfl (hF.t rfl) rfl (by omega)) fun a hF => ?_
  refine wg hF rfl rfl rfl (gv_move rfl (hF.t rfl)) fun a hF => ?_
  refine wg hF rfl rfl rfl (gv_conv_b_w rfl u5 u32 (hF.t rfl)) fun a hF => ?_
  refine wg hF rfl rfl rfl (gv_w_or rfl (hF.t rfl) (hF.t rfl)) fun a hF => ?_
  refine wg hF rfl rfl rfl (gv_assign rfl (hF.t rfl)) fun a hF => ?_
  refine wN ?_
  refine block_normal ?_
  refine tN (hKq7 _ _ ?_)
  refine wR ?_
  refine wg hF rfl rfl rfl (gv_nadd (n := 1) rfl (hF.t rfl) rfl (by omega)) fun a hF => ?_
  refine wg hF rfl rfl rfl (gv_move rfl (hF.t rfl)) fun a hF => ?_
  refine wN ?_
  refine then_normal ?_
  rw [dgetD_take (show i < 4 by omega)] at hF
  exact ⟨n - 1, by omega, i + 1, by omega, by omega, hF.sub ⟨rfl, rfl, rfl, rfl, rfl, trivial⟩, hS⟩
 ·
  refine wp_exit ?_
  refine then_exit ?_
  refine then_exit ?_
  refine block_exit ?_
  refine tN (hKq3 _ _ ?_)
  refine wK fun Kq9 hKq9 => ?_
  obtain rfl : i = 4 := by omega
  refine wR ?_
  refine wg hF rfl rfl rfl (gv_move rfl (hF.t rfl)) fun a hF => ?_
  refine wg hF rfl rfl rfl (gv_assign rfl (hF.t rfl)) fun a hF => ?_
  refine wN ?_
  refine tN (hKq9 _ _ ?_)
  refine wp_ret ?_
  refine ret1 (fn := Tryd.f49) (t := 2) hF rfl rfl ?_
  exact ⟨rfl, hS⟩
end Go.Proofs.YtfhalnobaeogkaaDoor
set_option linter.unusedVariables false
set_option linter.unusedSimpArgs false
namespace Go.Proofs.YtfhalnobaeogkaaDoor
open Go Go.RowKit Go.Fw
theorem z3 : (Tryd.prog.info? 3).map (·.size) = some 1 := by kernel_rfl
theorem z33 : (Tryd.prog.info? 33).map (·.size) = some 1 := by kernel_rfl
theorem z35 : (Tryd.prog.info? 35).map (·.size) = some 4 := by kernel_rfl
theorem Tryd.ok43 : CallOk Tryd.prog 43 := ⟨_, Tryd.func43, by kernel_rfl, by kernel_rfl⟩
theorem Tryd.ok44 : CallOk Tryd.prog 44 := ⟨_, Tryd.func44, by kernel_rfl, by kernel_rfl⟩
theorem Tryd.ok45 : CallOk Tryd.prog 45 := ⟨_, Tryd.func45, by kernel_rfl, by kernel_rfl⟩
abbrev wrt (seq : UInt32) (st mac : Value) (n : Nat) : Obj := blk 37 [vW seq, st, mac, vI n]
abbrev rdr (seq : UInt32) (st mac : Value) (n : Nat) (b head : Value) (bad : Bool) : Obj := blk 47 [vW seq, st, mac, vI n, b, head, .bool bad]
def padn (n u : Nat) : Nat := if u - (5 + n) % u < 4 then u - (5 + n) % u + u else u - (5 + n) % u
theorem padn_lo {n u : Nat} (h : u - (5 + n) % u < 4) : u - (5 + n) % u + u = padn n u := by rw [padn, if_pos h]
theorem padn_hi {n u : Nat} (h : ¬ u - (5 + n) % u < 4) : u - (5 + n) % u = padn n u := by rw [padn, if_neg h]
theorem padn_le {n u : Nat} : padn n u ≤ u + 3 := by
 unfold padn; split <;> omega
def pktF (seq : UInt32) (pl dl : List UInt8) (u : Nat) : List UInt8 := u32B (UInt32.ofNat (1 + pl.length + padn pl.length u)) ++ [UInt8.ofNat (padn pl.length u)] ++ pl ++ (drawF dl seq.toUInt64).take (padn pl.length u)
theorem pktF_len {seq : UInt32} {pl dl : List UInt8} {u : Nat} (h : u ≤ 29) : (pktF seq pl dl u).length = 5 + pl.length + padn pl.length u := by
 have := padn_le (n := pl.length) (u := u)
 simp only [pktF, List.length_append, u32B_len, List.length_take, drawF_len, List.length_cons, List.length_nil]
 omega
theorem blk0_ok {b : Nat} {w0 : World} (h : w0.cell? ⟨b, 1, none⟩ = some (.pointer none)) :
  Calls Tryd.prog 43 #[.pointer (some ⟨b, 0, none⟩)] w0 fun e w' => e = .returned (vI 8) ∧ Ext w0 w' := by
 refine calls_start 8 Tryd.func43 rfl Tryd.ntmps43 rfl fun a hF => ?_
 refine wK fun Kq1 hKq1 => ?_
 refine wR ?_
 refine wg hF rfl rfl rfl (gv_assign rfl (ev_const _ _)) fun a hF => ?_
 refine wN ?_
 refine tN (hKq1 _ _ ?_)
 refine wK fun Kq2 hKq2 => ?_
 refine wK fun Kq3 hKq3 => ?_
 refine wR ?_
 refine wg hF rfl rfl rfl (gv_move rfl (hF.t rfl)) fun a hF => ?_
 refine wg hF rfl rfl rfl (gv_nilCheck rfl (hF.t rfl)) fun a hF => ?_
 refine wg hF rfl rfl rfl (gv_field (r := 1) rfl u35 rfl rfl z33 (by decide) (hF.t rfl)) fun a hF => ?_
 refine wg hF rfl rfl rfl (gv_load rfl u33 rfl (hF.t rfl) h) fun a hF => ?_
 refine wg hF rfl rfl rfl (gv_eqlNil rfl u33 (hF.t rfl) (ev_const _ _)) fun a hF => ?_
 refine wN ?_
 refine tN (hKq3 _ _ ?_)
 refine wp_cond_true (hF.t rfl) ?_
 refine wK fun Kq4 hKq4 => ?_
 refine wR ?_
 refine wg hF rfl rfl rfl (gv_assign rfl (ev_const _ _)) fun a hF => ?_
 refine wN ?_
 refine tN (hKq4 _ _ ?_)
 refine wp_ret ?_
 refine then_ret ?_
 refine ret1 (fn := Tryd.f43) (t := 2) hF rfl rfl ?_
 exact ⟨rfl, Ext.refl _⟩
theorem blk1_ok {b : Nat} {ad : Addr} {w0 : World} (h : w0.cell? ⟨b, 1, none⟩ = some (.pointer (some ad))) :
  Calls Tryd.prog 43 #[.pointer (some ⟨b, 0, none⟩)] w0 fun e w' => e = .returned (vI 16) ∧ Ext w0 w' := by
 refine calls_start 8 Tryd.func43 rfl Tryd.ntmps43 rfl fun a hF => ?_
 refine wK fun Kq1 hKq1 => ?_
 refine wR ?_
 refine wg hF rfl rfl rfl (gv_assign rfl (ev_const _ _)) fun a hF => ?_
 refine wN ?_
 refine tN (hKq1 _ _ ?_)
 refine wK fun Kq2 hKq2 => ?_
 refine wK fun Kq3 hKq3 => ?_
 refine wR ?_
 refine wg hF rfl rfl rfl (gv_move rfl (hF.t rfl)) fun a hF => ?_
 refine wg hF rfl rfl rfl (gv_nilCheck rfl (hF.t rfl)) fun a hF => ?_
 refine wg hF rfl rfl rfl (gv_field (r := 1) rfl u35 rfl rfl z33 (by decide) (hF.t rfl)) fun a hF => ?_
 refine wg hF rfl rfl rfl (gv_load rfl u33 rfl (hF.t rfl) h) fun a hF => ?_
 refine wg hF rfl rfl rfl (gv_eqlNil rfl u33 (hF.t rfl) (ev_const _ _)) fun a hF => ?_
 refine wN ?_
 refine tN (hKq3 _ _ ?_)
 refine wp_cond_false (hF.t rfl) ?_
 refine wp_skip ?_
 refine tN (hKq2 _ _ ?_)
 refine wK fun Kq4 hKq4 => ?_
 refine wR ?_
 refine wg hF rfl rfl rfl (gv_assign rfl (ev_const _ _)) fun a hF => ?_
 refine wN ?_
 refine tN (hKq4 _ _ ?_)
 refine wp_ret ?_
 refine ret1 (fn := Tryd.f43) (t := 2) hF rfl rfl ?_
 exact ⟨rfl, Ext.refl _⟩
theorem num_ok {b : Nat} {s : UInt32} {w0 : World} (h : w0.cell? ⟨b, 0, none⟩ = some (vW s)) :
  Calls Tryd.prog 21 #[.pointer (some ⟨b, 0, none⟩)] w0 fun e w' => e = .returned (vW s) ∧ Ext w0 w' := by
 refine calls_start 7 Tryd.func21 rfl Tryd.ntmps21 rfl fun a hF => ?_
 refine wK fun Kq1 hKq1 => ?_
 refine wR ?_
 refine wg hF rfl rfl rfl (gv_assign rfl (ev_const _ _)) fun a hF => ?_
 refine wN ?_
 refine tN (hKq1 _ _ ?_)
 refine wK fun Kq2 hKq2 => ?_
 refine wR ?_
 refine wg hF rfl rfl rfl (gv_move rfl (hF.t rfl)) fun a hF => ?_
 refine wg hF rfl rfl rfl (gv_nilCheck rfl (hF.t rfl)) fun a hF => ?_
 refine wg hF rfl rfl rfl (gv_field (r := 0) rfl u35 rfl rfl z32 (by decide) (hF.t rfl)) fun a hF => ?_
 refine wg hF rfl rfl rfl (gv_load rfl u32 rfl (hF.t rfl) h) fun a hF => ?_
 refine wg hF rfl rfl rfl (gv_assign rfl (hF.t rfl)) fun a hF => ?_
 refine wN ?_
 refine tN (hKq2 _ _ ?_)
 refine wp_ret ?_
 refine ret1 (fn := Tryd.f21) (t := 2) hF rfl rfl ?_
 exact ⟨rfl, Ext.refl _⟩
theorem write0_ok {w00 w : World} {T : List Ent} {b n : Nat} {seq : UInt32} {mac pv : Value} {pl dl : List UInt8} (hG : Glob w00) (hT : ∀ e ∈ T, e.nw = true) (hS : St w00 w (⟨true, some b, wrt seq (.pointer none) mac n⟩ :: T)) (hPl : SRd w00 T pv (pl.map vB)) (h1 : 1 ≤ pl.length) (h2 : pl.length ≤ 2048) (hd : dl.length ≤ 274877906944) (hn : n ≤ 4611686018427387904) :
  Calls Tryd.prog 15 #[.pointer (some ⟨b, 0, none⟩), pv, sV dl] w fun e w' => ∃ v, e = .returned (.tuple #[v, .int .i64 0]) ∧ ∃ dd, ownP w00 5 (⟨true, some dd, blkB 94 (drawF dl seq.toUInt64)⟩ :: ⟨true, some b, wrt (seq + 1) (.pointer none) mac (n + 1)⟩ :: T) (pktF seq pl dl 8) v w' := by
 obtain ⟨Ap, cp, hpv, hp1, hp2, _⟩ := (hPl w _ hS (nw_cons rfl hT) (fun e he => List.mem_cons_of_mem _ he)).isB
 subst hpv
 refine calls_start 105 Tryd.func15 rfl Tryd.ntmps15 rfl fun a hF => ?_
 refine wK fun Kq1 hKq1 => ?_
 refine wR ?_
 refine wg hF rfl rfl rfl (gv_assign rfl (ev_const _ _)) fun a hF => ?_
 refine wg hF rfl rfl rfl (gv_assign rfl (ev_const _ _)) fun a hF => ?_
 refine wN ?_
 refine tN (hKq1 _ _ ?_)
 refine wK fun Kq2 hKq2 => ?_
 refine wK fun Kq3 hKq3 => ?_
 refine wR ?_
 refine wg hF rfl rfl rfl (gv_move rfl (hF.t rfl)) fun a hF => ?_
 refine wg hF rfl rfl rfl (gv_eqlNil rfl u24 (hF.t rfl) (ev_const _ _)) fun a hF => ?_
 refine wg hF rfl rfl rfl (gv_move rfl (hF.t rfl)) fun a hF => ?_
 refine wpList_stp (stp_gv hF (wanted_of hF rfl rfl (rfl)) rfl rfl (gv_move rfl (hF.t rfl)) fun a hF => ?_)
 refine wpList_stp (stp_gv hF (wanted_of hF rfl rfl (rfl)) rfl rfl (gv_len rfl u22 (hF.t rfl)) fun a hF => ?_)
 refine wpList_stp (stp_gv hF (wanted_of hF rfl rfl (rfl)) rfl rfl (gv_eqlF rfl (hF.t rfl) (ev_const _ _) (by omega)) fun a hF => ?_)
 refine wg hF rfl rfl rfl (gv_pickF rfl (hF.t rfl) (hF.t rfl)) fun a hF => ?_
 refine wg hF rfl rfl rfl (gv_move rfl (hF.t rfl)) fun a hF => ?_
 refine wpList_stp (stp_gv hF (wanted_of hF rfl rfl (rfl)) rfl rfl (gv_move rfl (hF.t rfl)) fun a hF => ?_)
 refine wpList_stp (stp_gv hF (wanted_of hF rfl rfl (rfl)) rfl rfl (gv_len rfl u22 (hF.t rfl)) fun a hF => ?_)
 refine wpList_stp (stp_gv hF (wanted_of hF rfl rfl (rfl)) rfl rfl (gv_gtrF rfl (hF.t rfl) (ev_const _ _) (by omega)) fun a hF => ?_)
 refine wg hF rfl rfl rfl (gv_pickF rfl (hF.t rfl) (hF.t rfl)) fun a hF => ?_
 refine wN ?_
 refine tN (hKq3 _ _ ?_)
 refine wp_cond_false (hF.t rfl) ?_
 refine wp_skip ?_
 refine tN (hKq2 _ _ ?_)
 refine wK fun Kq4 hKq4 => ?_
 refine wR ?_
 refine wg hF rfl rfl rfl (gv_move rfl (hF.t rfl)) fun a hF => ?_
 refine wg hF rfl rfl rfl (gv_nilCheck rfl (hF.t rfl)) fun a hF => ?_
 refine wg hF rfl rfl rfl (gv_field (r := 0) rfl u37 rfl rfl z35 (by decide) (hF.t rfl)) fun a hF => ?_
 refine wpList_stp (stp_call hF (wanted_none rfl) rfl rfl Tryd.ok43 rfl (Evs.cons (hF.t rfl) Evs.nil) (blk0_ok (hS.cell (k := 0) (i := 1) (v := .pointer none) rfl rfl)) fun e w h => ?_)
 obtain ⟨rfl, hx⟩ := h
 refine ⟨_, rfl, fun a hF => ?_⟩
 replace hS := hS.ext hx
 clear hx
 refine wg hF rfl rfl rfl (gv_assign rfl (hF.t rfl)) fun a hF => ?_
 refine wN ?_
 refine tN (hKq4 _ _ ?_)
 refine wK fun Kq5 hKq5 => ?_
 refine wR ?_
 refine wg hF rfl rfl rfl (gv_move rfl (hF.t rfl)) fun a hF => ?_
 refine wg hF rfl rfl rfl (gv_move rfl (hF.t rfl)) fun a hF => ?_
 refine wg hF rfl rfl rfl (gv_len rfl u22 (hF.t rfl)) fun a hF => ?_
 refine wg hF rfl rfl rfl (gv_nadd (m := 5) rfl rfl (hF.t rfl) (by omega)) fun a hF => ?_
 refine wg hF rfl rfl rfl (gv_move rfl (hF.t rfl)) fun a hF => ?_
 refine wg hF rfl rfl rfl (gv_nrem rfl (hF.t rfl) (hF.t rfl) (by omega)) fun a hF => ?_
 refine wg hF rfl rfl rfl (gv_nsub rfl (hF.t rfl) (hF.t rfl) (by omega) (by omega)) fun a hF => ?_
 refine wg hF rfl rfl rfl (gv_assign rfl (hF.t rfl)) fun a hF => ?_
 refine wN ?_
 refine tN (hKq5 _ _ ?_)
 refine wp_cut (fun a w => Fr 105 a [(0, .pointer (some ⟨b, 0, none⟩)), (1, .slice Ap pl.length cp), (2, sV dl), (9, vI (padn pl.length 8))] ∧ St w00 w (⟨true, some b, wrt seq (.pointer none) mac n⟩ :: T)) ?_ ?_
 ·
  refine wK fun Kq6 hKq6 => ?_
  refine wR ?_
  refine wg hF rfl rfl rfl (gv_move rfl (hF.t rfl)) fun a hF => ?_
  refine wg hF rfl rfl rfl (gv_lss rfl (hF.t rfl) (ev_const _ _)) fun a hF => ?_
  refine wN ?_
  refine tN (hKq6 _ _ ?_)
  refine cond_dec (hF.t rfl) (fun h37 => ?_) (fun h37 => ?_)
  ·
   refine wR ?_
   refine wg hF rfl rfl rfl (gv_move rfl (hF.t rfl)) fun a hF => ?_
   refine wg hF rfl rfl rfl (gv_move rfl (hF.t rfl)) fun a hF => ?_
   refine wg hF rfl rfl rfl (gv_nadd rfl (hF.t rfl) (hF.t rfl) (by omega)) fun a hF => ?_
   refine wg hF rfl rfl rfl (gv_assign rfl (hF.t rfl)) fun a hF => ?_
   refine wN ?_
   refine then_normal ?_
   rw [padn_lo (show 8 - (5 + pl.length) % 8 < 4 by omega)] at hF
   exact ⟨hF.sub ⟨rfl, rfl, rfl, rfl, trivial⟩, hS⟩
  ·
   refine wp_skip ?_
   refine then_normal ?_
   rw [padn_hi (show ¬ 8 - (5 + pl.length) % 8 < 4 by omega)] at hF
   exact ⟨hF.sub ⟨rfl, rfl, rfl, rfl, trivial⟩, hS⟩
 ·
  rintro a w ⟨hF, hS⟩
  obtain ⟨nn, hnnE⟩ : ∃ nn, nn = padn pl.length 8 := ⟨_, rfl⟩
  have hnn : nn ≤ 32 := by have := padn_le (n := pl.length) (u := 8); omega
  rw [← hnnE] at hF
  refine wK fun Kq7 hKq7 => ?_
  refine wR ?_
  refine wg hF rfl rfl rfl (gv_move rfl (hF.t rfl)) fun a hF => ?_
  refine wg hF rfl rfl rfl (gv_move rfl (hF.t rfl)) fun a hF => ?_
  refine wg hF rfl rfl rfl (gv_nilCheck rfl (hF.t rfl)) fun a hF => ?_
  refine wg hF rfl rfl rfl (gv_field (r := 0) rfl u37 rfl rfl z35 (by decide) (hF.t rfl)) fun a hF => ?_
  refine wg hF rfl rfl rfl (gv_field (r := 0) rfl u35 rfl rfl z32 (by decide) (hF.t rfl)) fun a hF => ?_
  refine wg hF rfl rfl rfl (gv_load rfl u32 rfl (hF.t rfl) (cell_ix (j := 0) (hS.cell (k := 0) rfl (rfl)) (by omega))) fun a hF => ?_
  refine wg hF rfl rfl rfl (gv_conv_w_d rfl u32 u76 (hF.t rfl)) fun a hF => ?_
  refine wpList_stp (stp_call hF (wanted_none rfl) rfl rfl Tryd.ok44 rfl (Evs.cons (hF.t rfl) (Evs.cons (hF.t rfl) Evs.nil)) (draw_ok (hG.ext (hS.toExt (nw_cons rfl hT))) hd) fun e w h => ?_)
  obtain ⟨rfl, hx⟩ := h
  refine ⟨_, rfl, fun a hF => ?_⟩
  replace hS := hS.ext hx
  clear hx
  refine wpList_stp (stp_alloc hF (wanted_none rfl) rfl rfl rfl Tryd.zv94 rfl hS fun dd a w hF hS => ?_)
  refine wpList_stp (stp_storeAll hF (wanted_none rfl) rfl rfl (z94.trans (congrArg some (by rw [List.length_map, drawF_len]))) (hF.t rfl) (hF.t rfl) (one_B _) hS (k := 0) rfl (by rw [List.length_map, drawF_len]; rfl) fun w hS => ?_)
  obtain ⟨DD, hDD⟩ : ∃ DD, DD = drawF dl seq.toUInt64 := ⟨_, rfl⟩
  have hDl : DD.length = 32 := by rw [hDD]; exact drawF_len _ _
  rw [← hDD] at hS
  refine wN ?_
  refine tN (hKq7 _ _ ?_)
  refine wK fun Kq8 hKq8 => ?_
  refine wR ?_
  refine wg hF rfl rfl rfl (gv_move rfl (hF.t rfl)) fun a hF => ?_
  refine wg hF rfl rfl rfl (gv_len rfl u22 (hF.t rfl)) fun a hF => ?_
  refine wg hF rfl rfl rfl (gv_nadd (m := 1) rfl rfl (hF.t rfl) (by omega)) fun a hF => ?_
  refine wg hF rfl rfl rfl (gv_move rfl (hF.t rfl)) fun a hF => ?_
  refine wg hF rfl rfl rfl (gv_nadd rfl (hF.t rfl) (hF.t rfl) (by omega)) fun a hF => ?_
  refine wg hF rfl rfl rfl (gv_conv_i_w rfl u3 u32 (hF.t rfl)) fun a hF => ?_
  replace hS := hS.addNil (blk 5 (([] : List UInt8).map vB ++ []))
  refine wpList_stp (stp_call hF (wanted_none rfl) rfl rfl Tryd.ok45 rfl (Evs.cons (ev_const _ _) (Evs.cons (hF.t rfl) Evs.nil)) (u32_ok (o := none) (l := []) (op := []) (nw_cons rfl (nw_cons rfl hT)) hS (fun _ => ⟨rfl, rfl⟩) (by simp) (by simp)) fun e w h => ?_)
  obtain ⟨p, pp, rfl, po, pc, hS⟩ := h
  simp only [List.nil_append] at hS po pc
  refine ⟨_, rfl, fun a hF => ?_⟩
  simp only [List.nil_append] at hF
  refine wg hF rfl rfl rfl (gv_move rfl (hF.t rfl)) fun a hF => ?_
  refine wg hF rfl rfl rfl (gv_conv_i_b rfl u3 u5 (hF.t rfl)) fun a hF => ?_
  refine wpList_stp (stp_build1 (v := _) hF (wanted_none rfl) rfl rfl rfl u22 Tryd.ty5 (hF.t rfl) hS fun zb a w hF hS => ?_)
  refine wpList_stp (stp_app1 (k := 0) hF (wanted_none rfl) rfl rfl rfl u22 Tryd.ty5 rfl (hF.t rfl) (hF.t rfl) hS rfl po pc (by rw [u32B_len]; omega) fun p pp a w hF po pc hS => ?_)
  refine wg hF rfl rfl rfl (gv_assign rfl (hF.t rfl)) fun a hF => ?_
  obtain ⟨P0, hP0⟩ : ∃ P0, P0 = u32B (UInt32.ofNat (1 + pl.length + nn)) ++ [UInt8.ofNat nn] := ⟨_, rfl⟩
  rw [← hP0] at hS po pc hF
  have hP0l : P0.length = 5 := by rw [hP0, List.length_append, u32B_len]; rfl
  refine wN ?_
  refine tN (hKq8 _ _ ?_)
  refine wK fun Kq9 hKq9 => ?_
  refine Fw.wp_region_draw (by kernel_rfl) fun w hx => ?_
  replace hS := hS.ext hx
  clear hx
  refine run_headT (n := 6) _ [2, 5] (fun s_ w => s_ = 0 → St w00 w (⟨true, p, blk 5 (P0.map vB ++ pp)⟩ :: (⟨true, some dd, blkB 94 DD⟩ :: ⟨true, some b, wrt seq (.pointer none) mac n⟩ :: T))) [(2, 62, fun s_ v w => 1 ≤ s_ ∧ (s_ = 1 → ownP w00 5 (⟨true, some dd, blkB 94 DD⟩ :: ⟨true, some b, wrt seq (.pointer none) mac n⟩ :: T) (P0 ++ pl) v w)), (5, 65, fun s_ v w => s_ = 2 ∧ ownP w00 5 (⟨true, some dd, blkB 94 DD⟩ :: ⟨true, some b, wrt seq (.pointer none) mac n⟩ :: T) (P0 ++ pl ++ DD.take nn) v w)] hF (hS.toExt (nw_cons rfl (nw_cons rfl (nw_cons rfl hT)))) (fun _ => hS) (fun _ _ _ h hx hs => (h hs).ext hx) (by kernel_rfl) rfl (fa_cons rfl (fa_cons rfl fa_nil)) (fa_cons (fun _ _ _ _ h hx => ⟨h.1, fun hs => (h.2 hs).ext hx⟩) (fa_cons (fun _ _ _ _ h hx => ⟨h.1, h.2.ext hx⟩) fa_nil)) (fa_cons ⟨Nat.zero_le _, Nat.le_of_ble_eq_true rfl⟩ (fa_cons ⟨Nat.zero_le _, Nat.le_of_ble_eq_true rfl⟩ fa_nil)) rfl (by kernel_rfl) ?_
  refine dg hF rfl rfl rfl rfl (fun w hx => gv_move rfl (hF.t rfl)) fun a hF => ?_
  refine dg hF rfl rfl rfl rfl (fun w hx => gv_move rfl (hF.t rfl)) fun a hF => ?_
  refine dw_fl rfl ?_
  refine dg hF rfl rfl rfl rfl (fun w hx => gv_move rfl (hF.t rfl)) fun a hF => ?_
  refine dg hF rfl rfl rfl rfl (fun w hx => gv_sliceArrHi rfl u94 z5 (hF.t rfl) (hF.t rfl) hnn) fun a hF => ?_
  refine dw_fl rfl ?_
  refine dw_nil ⟨(fa_cons ?_ (fa_cons ?_ fa_nil)), fun a w hx hA hR hP => ?_⟩
  ·
   intro s_ a w hsl hx hA hdp hP
   replace hF := hA _ hF
   refine ⟨_, rfl, .inr ⟨0, rfl, fun hs => ?_⟩⟩
   subst hs
   refine tx_appB (k := 0) (wanted_none rfl) rfl u22 Tryd.ty5 rfl (hF.t rfl) (hF.t rfl) (hP rfl) rfl po pc (hPl _ _ (hP rfl) (nw_cons rfl (nw_cons rfl (nw_cons rfl hT))) (fun e he => List.mem_cons_of_mem _ (List.mem_cons_of_mem _ (List.mem_cons_of_mem _ he)))) (by omega) fun o op w' h2 h3 h4 => ?_
   exact ⟨(h4.toExt (nw_cons rfl (nw_cons rfl (nw_cons rfl hT)))), (fun h => by cases h), ⟨by omega, fun _ => ⟨o, op, rfl, h2, h3, h4⟩⟩, (fa_cons (fun h => absurd h.1 (by decide)) (fa_cons (fun h => absurd h.1 (by decide)) fa_nil))⟩
  ·
   intro s_ a w hsl hx hA hdp hP
   replace hF := hA _ hF
   refine ⟨_, rfl, .inr ⟨1, rfl, fun hs => ?_⟩⟩
   subst hs
   obtain ⟨o, op, hv, po, pc, hS⟩ := ((hdp _ (List.mem_of_getElem? (i := 0) rfl) (by kernel_rfl))).2 rfl
   have hR : Rd w (.slice (some ⟨dd, 0, none⟩) nn 32) ((DD.take nn).map vB) := by
    rw [List.map_take]
    exact (SRd.cutHi (SRd.arr (w0 := w00) (T := [⟨true, some dd, blkB 94 DD⟩]) List.mem_cons_self hDl (by omega)) hnn) w _ hS (nw_cons rfl (nw_cons rfl (nw_cons rfl hT))) (by simp)
   have hTl : (DD.take nn).length = nn := by rw [List.length_take]; omega
   refine tx_appB (k := 0) (wanted_none rfl) rfl u22 Tryd.ty5 rfl ((hF.t rfl).trans hv) (hF.t rfl) hS rfl po pc hR (by rw [List.length_append]; omega) fun o op w' h2 h3 h4 => ?_
   exact ⟨(h4.toExt (nw_cons rfl (nw_cons rfl (nw_cons rfl hT)))), (fun h => by cases h), ⟨rfl, ⟨o, op, rfl, h2, h3, h4⟩⟩, (fa_cons (fun h => ⟨by omega, fun h => by cases h⟩) (fa_cons (fun h => absurd h.1 (by decide)) fa_nil))⟩
  replace hF := hA _ hF
  clear hA
  clear hP
  obtain ⟨_, p, pp, hv, po, pc, hS⟩ := hR _ (List.mem_of_getElem? (i := 1) rfl)
  replace hF : Fr 105 a [(0, .pointer (some ⟨b, 0, none⟩)), (1, .slice Ap pl.length cp), (2, sV dl), (65, ownV p (P0 ++ pl ++ DD.take nn).length ((P0 ++ pl ++ DD.take nn).length + pp.length))] := hF.sub ⟨rfl, rfl, rfl, congrArg some hv, trivial⟩
  clear hv hR
  refine run_stp (by kernel_rfl) rfl (stp_gv hF (wanted_none rfl) rfl rfl (gv_assign rfl (hF.t rfl)) fun a hF => ?_)
  refine run_done (by decide) ?_
  refine tN (hKq9 _ _ ?_)
  refine wK fun Kq10 hKq10 => ?_
  refine wR ?_
  refine wg hF rfl rfl rfl (gv_move rfl (hF.t rfl)) fun a hF => ?_
  refine wg hF rfl rfl rfl (gv_assign rfl (hF.t rfl)) fun a hF => ?_
  refine wN ?_
  refine tN (hKq10 _ _ ?_)
  refine wK fun Kq11 hKq11 => ?_
  refine wK fun Kq12 hKq12 => ?_
  refine wR ?_
  refine wg hF rfl rfl rfl (gv_move rfl (hF.t rfl)) fun a hF => ?_
  refine wg hF rfl rfl rfl (gv_nilCheck rfl (hF.t rfl)) fun a hF => ?_
  refine wg hF rfl rfl rfl (gv_field (r := 0) rfl u37 rfl rfl z35 (by decide) (hF.t rfl)) fun a hF => ?_
  refine wg hF rfl rfl rfl (gv_field (r := 1) rfl u35 rfl rfl z33 (by decide) (hF.t rfl)) fun a hF => ?_
  refine wg hF rfl rfl rfl (gv_load rfl u33 rfl (hF.t rfl) (cell_ix (j := 1) (hS.cell (k := 2) rfl (rfl)) (by omega))) fun a hF => ?_
  refine wg hF rfl rfl rfl (gv_neqNil rfl u33 (hF.t rfl) (ev_const _ _)) fun a hF => ?_
  refine wN ?_
  refine tN (hKq12 _ _ ?_)
  refine wp_cond_false (hF.t rfl) ?_
  refine wp_skip ?_
  refine tN (hKq11 _ _ ?_)
  refine wK fun Kq13 hKq13 => ?_
  refine wR ?_
  refine wg hF rfl rfl rfl (gv_move rfl (hF.t rfl)) fun a hF => ?_
  refine wg hF rfl rfl rfl (gv_nilCheck rfl (hF.t rfl)) fun a hF => ?_
  refine wg hF rfl rfl rfl (gv_field (r := 0) rfl u37 rfl rfl z35 (by decide) (hF.t rfl)) fun a hF => ?_
  refine wg hF rfl rfl rfl (gv_field (r := 0) rfl u35 rfl rfl z32 (by decide) (hF.t rfl)) fun a hF => ?_
  refine wg hF rfl rfl rfl (gv_load rfl u32 rfl (hF.t rfl) (cell_ix (j := 0) (hS.cell (k := 2) rfl (rfl)) (by omega))) fun a hF => ?_
  refine wg hF rfl rfl rfl (gv_w_add (n := 1) rfl (hF.t rfl) rfl) fun a hF => ?_
  refine wg hF rfl rfl rfl (gv_nilCheck rfl (hF.t rfl)) fun a hF => ?_
  refine wg hF rfl rfl rfl (gv_field (r := 0) rfl u37 rfl rfl z35 (by decide) (hF.t rfl)) fun a hF => ?_
  refine wg hF rfl rfl rfl (gv_field (r := 0) rfl u35 rfl rfl z32 (by decide) (hF.t rfl)) fun a hF => ?_
  refine wpList_stp (stp_storeAt (0) hF (wanted_none rfl) rfl rfl z32 (hF.t rfl) (by omega) (hF.t rfl) rfl hS (k := 2) rfl (by simp) fun w hS => ?_)
  refine wN ?_
  refine tN (hKq13 _ _ ?_)
  refine wK fun Kq14 hKq14 => ?_
  refine wR ?_
  refine wg hF rfl rfl rfl (gv_move rfl (hF.t rfl)) fun a hF => ?_
  refine wg hF rfl rfl rfl (gv_nilCheck rfl (hF.t rfl)) fun a hF => ?_
  refine wg hF rfl rfl rfl (gv_field (r := 0) rfl u37 rfl rfl z35 (by decide) (hF.t rfl)) fun a hF => ?_
  refine wg hF rfl rfl rfl (gv_field (r := 3) rfl u35 rfl rfl z3 (by decide) (hF.t rfl)) fun a hF => ?_
  refine wg hF rfl rfl rfl (gv_load rfl u3 rfl (hF.t rfl) (cell_ix (j := 3) (hS.cell (k := 2) rfl (rfl)) (by omega))) fun a hF => ?_
  refine wg hF rfl rfl rfl (gv_nadd (n := 1) rfl (hF.t rfl) rfl (by omega)) fun a hF => ?_
  refine wg hF rfl rfl rfl (gv_nilCheck rfl (hF.t rfl)) fun a hF => ?_
  refine wg hF rfl rfl rfl (gv_field (r := 0) rfl u37 rfl rfl z35 (by decide) (hF.t rfl)) fun a hF => ?_
  refine wg hF rfl rfl rfl (gv_field (r := 3) rfl u35 rfl rfl z3 (by decide) (hF.t rfl)) fun a hF => ?_
  refine wpList_stp (stp_storeAt (3) hF (wanted_none rfl) rfl rfl z3 (hF.t rfl) (by omega) (hF.t rfl) rfl hS (k := 2) rfl (by simp) fun w hS => ?_)
  refine wN ?_
  refine tN (hKq14 _ _ ?_)
  refine wK fun Kq15 hKq15 => ?_
  refine wR ?_
  refine wg hF rfl rfl rfl (gv_move rfl (hF.t rfl)) fun a hF => ?_
  refine wg hF rfl rfl rfl (gv_assign rfl (hF.t rfl)) fun a hF => ?_
  refine wg hF rfl rfl rfl (gv_assign rfl (ev_const _ _)) fun a hF => ?_
  refine wN ?_
  refine tN (hKq15 _ _ ?_)
  refine wp_ret ?_
  refine ret2 (fn := Tryd.f15) (t := 6) (u := 7) hF rfl rfl rfl ?_
  exact ⟨_, rfl, dd, p, pp, by rw [pktF, ← hnnE, ← hDD, ← hP0], by rw [pktF, ← hnnE, ← hDD, ← hP0]; exact po, by rw [pktF, ← hnnE, ← hDD, ← hP0]; exact pc, by rw [pktF, ← hnnE, ← hDD, ← hP0]; exact hS⟩
end Go.Proofs.YtfhalnobaeogkaaDoor
set_option linter.unusedVariables false
set_option linter.unusedSimpArgs false
namespace Go.Proofs.YtfhalnobaeogkaaDoor
open Go Go.RowKit Go.Fw
theorem Tryd.ok48 : CallOk Tryd.prog 48 := ⟨_, Tryd.func48, by kernel_rfl, by kernel_rfl⟩
theorem Tryd.ok49 : CallOk Tryd.prog 49 := ⟨_, Tryd.func49, by kernel_rfl, by kernel_rfl⟩
theorem feed0_ok {w00 w : World} {T : List Ent} {r n : Nat} {seq : UInt32} {st mac hd bv : Value} {bl : List UInt8} (hT : ∀ e ∈ T, e.nw = true) (hS : St w00 w (⟨true, some r, rdr seq st mac n (.slice none 0 0) hd false⟩ :: T)) (hb : SRd w00 T bv (bl.map vB)) (hn : bl.length ≤ 1099511627776) :
  Calls Tryd.prog 16 #[.pointer (some ⟨r, 0, none⟩), bv] w fun e w' => e = .returned (.tuple #[]) ∧ ∃ o op, (o = none → bl = [] ∧ op = []) ∧ bl.length + op.length ≤ 9223372036854775807 ∧ St w00 w' (⟨true, o, blk 5 (bl.map vB ++ op)⟩ :: ⟨true, some r, rdr seq st mac n (ownV o bl.length (bl.length + op.length)) hd false⟩ :: T) := by
 obtain ⟨Ab, cb, hbv, hb1, hb2, _⟩ := (hb w _ hS (nw_cons rfl hT) (fun e he => List.mem_cons_of_mem _ he)).isB
 subst hbv
 refine calls_start 22 Tryd.func16 rfl Tryd.ntmps16 rfl fun a hF => ?_
 refine wK fun Kq1 hKq1 => ?_
 refine wR ?_
 refine wg hF rfl rfl rfl (gv_move rfl (hF.t rfl)) fun a hF => ?_
 refine wg hF rfl rfl rfl (gv_neqNil rfl u25 (hF.t rfl) (ev_const _ _)) fun a hF => ?_
 refine wg hF rfl rfl rfl (gv_move rfl (hF.t rfl)) fun a hF => ?_
 refine wpList_stp (stp_gv hF (wanted_of hF rfl rfl (rfl)) rfl rfl (gv_move rfl (hF.t rfl)) fun a hF => ?_)
 refine wpList_stp (stp_gv hF (wanted_of hF rfl rfl (rfl)) rfl rfl (gv_nilCheck rfl (hF.t rfl)) fun a hF => ?_)
 refine wpList_stp (stp_gv hF (wanted_of hF rfl rfl (rfl)) rfl rfl (gv_field (r := 6) rfl u47 rfl rfl z4 (by decide) (hF.t rfl)) fun a hF => ?_)
 refine wpList_stp (stp_gv hF (wanted_of hF rfl rfl (rfl)) rfl rfl (gv_load rfl u4 rfl (hF.t rfl) (cell_ix (j := 6) (hS.cell (k := 0) rfl (rfl)) (by omega))) fun a hF => ?_)
 refine wpList_stp (stp_gv hF (wanted_of hF rfl rfl (rfl)) rfl rfl (gv_not rfl (hF.t rfl)) fun a hF => ?_)
 refine wg hF rfl rfl rfl (gv_pickT rfl (hF.t rfl) (hF.t rfl)) fun a hF => ?_
 refine wN ?_
 refine tN (hKq1 _ _ ?_)
 refine wp_cond_true (hF.t rfl) ?_
 refine wR ?_
 refine wg hF rfl rfl rfl (gv_move rfl (hF.t rfl)) fun a hF => ?_
 refine wg hF rfl rfl rfl (gv_move rfl (hF.t rfl)) fun a hF => ?_
 refine wg hF rfl rfl rfl (gv_nilCheck rfl (hF.t rfl)) fun a hF => ?_
 refine wg hF rfl rfl rfl (gv_field (r := 4) rfl u47 rfl rfl z22 (by decide) (hF.t rfl)) fun a hF => ?_
 refine wg hF rfl rfl rfl (gv_load rfl u22 rfl (hF.t rfl) (cell_ix (j := 4) (hS.cell (k := 0) rfl (rfl)) (by omega))) fun a hF => ?_
 refine wg hF rfl rfl rfl (gv_move rfl (hF.t rfl)) fun a hF => ?_
 replace hS := hS.addNil (blk 5 (([] : List UInt8).map vB ++ []))
 refine wpList_stp (stp_appB (ob := none) (l := []) (pad := []) (k := 0) hF (wanted_none rfl) rfl rfl rfl u22 Tryd.ty5 rfl (hF.t rfl) (hF.t rfl) hS rfl (fun _ => ⟨rfl, rfl⟩) (by simp) (hb _ _ hS (nw_cons rfl (nw_cons rfl hT)) (fun e he => List.mem_cons_of_mem _ (List.mem_cons_of_mem _ he))) (by simp; omega) fun o op a w hF oo oc hS => ?_)
 simp only [List.nil_append] at hF oo oc hS
 refine wg hF rfl rfl rfl (gv_nilCheck rfl (hF.t rfl)) fun a hF => ?_
 refine wg hF rfl rfl rfl (gv_field (r := 4) rfl u47 rfl rfl z22 (by decide) (hF.t rfl)) fun a hF => ?_
 refine wpList_stp (stp_storeAt (4) hF (wanted_none rfl) rfl rfl z22 (hF.t rfl) (by omega) (hF.t rfl) (own_one _ _ _) hS (k := 1) rfl (by simp) fun w hS => ?_)
 refine wN ?_
 refine end0 (fn := Tryd.f16) hF rfl ?_
 exact ⟨rfl, o, op, oo, oc, hS⟩
theorem left0_ok {w0 : World} {r c : Nat} {A : Option Addr} (h4 : w0.cell? ⟨r, 4, none⟩ = some (.slice A 0 c)) (h5 : w0.cell? ⟨r, 5, none⟩ = some (.slice none 0 0)) :
  Calls Tryd.prog 18 #[.pointer (some ⟨r, 0, none⟩)] w0 fun e w' => e = .returned (.bool false) ∧ Ext w0 w' := by
 refine calls_start 20 Tryd.func18 rfl Tryd.ntmps18 rfl fun a hF => ?_
 refine wK fun Kq1 hKq1 => ?_
 refine wR ?_
 refine wg hF rfl rfl rfl (gv_assign rfl (ev_const _ _)) fun a hF => ?_
 refine wN ?_
 refine tN (hKq1 _ _ ?_)
 refine wK fun Kq2 hKq2 => ?_
 refine wR ?_
 refine wg hF rfl rfl rfl (gv_move rfl (hF.t rfl)) fun a hF => ?_
 refine wg hF rfl rfl rfl (gv_neqNil rfl u25 (hF.t rfl) (ev_const _ _)) fun a hF => ?_
 refine wg hF rfl rfl rfl (gv_move rfl (hF.t rfl)) fun a hF => ?_
 refine wpList_stp (stp_gv hF (wanted_of hF rfl rfl (rfl)) rfl rfl (gv_move rfl (hF.t rfl)) fun a hF => ?_)
 refine wpList_stp (stp_gv hF (wanted_of hF rfl rfl (rfl)) rfl rfl (gv_nilCheck rfl (hF.t rfl)) fun a hF => ?_)
 refine wpList_stp (stp_gv hF (wanted_of hF rfl rfl (rfl)) rfl rfl (gv_field (r := 4) rfl u47 rfl rfl z22 (by decide) (hF.t rfl)) fun a hF => ?_)
 refine wpList_stp (stp_gv hF (wanted_of hF rfl rfl (rfl)) rfl rfl (gv_load rfl u22 rfl (hF.t rfl) h4) fun a hF => ?_)
 refine wpList_stp (stp_gv hF (wanted_of hF rfl rfl (rfl)) rfl rfl (gv_len rfl u22 (hF.t rfl)) fun a hF => ?_)
 refine wpList_stp (stp_gv hF (wanted_of hF rfl rfl (rfl)) rfl rfl (gv_gtrF rfl (hF.t rfl) (ev_const _ _) (by decide)) fun a hF => ?_)
 refine wpList_stp (stp_gv hF (wanted_of hF rfl rfl (rfl)) rfl rfl (gv_move rfl (hF.t rfl)) fun a hF => ?_)
 refine wpList_stp (stp_gv hF (wanted_of hF rfl rfl (rfl)) rfl rfl (gv_move rfl (hF.t rfl)) fun a hF => ?_)
 refine wpList_stp (stp_gv hF (wanted_of hF rfl rfl (rfl)) rfl rfl (gv_nilCheck rfl (hF.t rfl)) fun a hF => ?_)
 refine wpList_stp (stp_gv hF (wanted_of hF rfl rfl (rfl)) rfl rfl (gv_field (r := 5) rfl u47 rfl rfl z22 (by decide) (hF.t rfl)) fun a hF => ?_)
 refine wpList_stp (stp_gv hF (wanted_of hF rfl rfl (rfl)) rfl rfl (gv_load rfl u22 rfl (hF.t rfl) h5) fun a hF => ?_)
 refine wpList_stp (stp_gv hF (wanted_of hF rfl rfl (rfl)) rfl rfl (gv_neqNilS rfl u22 (hF.t rfl) (ev_const _ _)) fun a hF => ?_)
 refine wpList_stp (stp_gv hF (wanted_of hF rfl rfl (rfl)) rfl rfl (gv_pickF rfl (hF.t rfl) (hF.t rfl)) fun a hF => ?_)
 refine wg hF rfl rfl rfl (gv_pickT rfl (hF.t rfl) (hF.t rfl)) fun a hF => ?_
 refine wg hF rfl rfl rfl (gv_assign rfl (hF.t rfl)) fun a hF => ?_
 refine wN ?_
 refine tN (hKq2 _ _ ?_)
 refine wp_ret ?_
 refine ret1 (fn := Tryd.f18) (t := 2) hF rfl rfl ?_
 exact ⟨rfl, Ext.refl _⟩
structure Pk0 (bl : List UInt8) (L pad : Nat) : Prop where
 n : (u32A (bl.take 8) 4).toNat + 4 = L
 l8 : 9 ≤ L
 lo : L ≤ 2352
 mul : L % 8 = 0
 len : L ≤ bl.length
 pd : (bl.getD 4 0).toNat = pad
 p4 : 4 ≤ pad
 p5 : pad + 6 ≤ L
theorem take_getD {l : List UInt8} {o i : Nat} (h : i < o) : (l.take o).getD i 0 = l.getD i 0 := by simp [List.getD_eq_getElem?_getD, h]
theorem take_drop_app {bl : List UInt8} {a b : Nat} : bl.take a ++ (bl.drop a).take b = bl.take (a + b) := by rw [List.take_add]
set_option maxHeartbeats 1000000 in
theorem next0_ok {w00 w : World} {T : List Ent} {r n c L pad : Nat} {A : Option Addr} {seq : UInt32} {mac : Value} {bl : List UInt8} (hT : ∀ e ∈ T, e.nw = true) (hS : St w00 w (⟨true, some r, rdr seq (.pointer none) mac n (.slice A bl.length c) (.slice none 0 0) false⟩ :: T)) (hb : SRd w00 T (.slice A bl.length c) (bl.map vB)) (hc : bl.length ≤ c) (hp : Pk0 bl L pad) (hn : n ≤ 4611686018427387904) (hbl : bl.length ≤ 1099511627776) :
  Calls Tryd.prog 17 #[.pointer (some ⟨r, 0, none⟩)] w fun e w' => ∃ o op g gp, e = .returned (.tuple #[cut3V (some ⟨o, 0, none⟩) 5 (L - pad) (L - pad), .int .i64 0]) ∧ (g = none → bl.drop L = [] ∧ gp = []) ∧ (bl.drop L).length + gp.length ≤ 9223372036854775807 ∧ L + op.length ≤ 9223372036854775807 ∧
   St w00 w' (⟨true, some r, rdr (seq + 1) (.pointer none) mac (n + 1) (ownV g (bl.drop L).length ((bl.drop L).length + gp.length)) (.slice none 0 0) false⟩ :: ⟨true, g, blk 5 ((bl.drop L).map vB ++ gp)⟩ :: ⟨true, some o, blk 5 ((bl.take L).map vB ++ op)⟩ :: T) := by
 obtain ⟨q1, q2, q3, q4, q5, q6, q7, q8⟩ := hp
 have hR0 := hb w _ hS (nw_cons rfl hT) (fun e he => List.mem_cons_of_mem _ he)
 obtain ⟨A0, c0, hv0, _, _, hc0⟩ := hR0.isB
 injection hv0 with hA0 _ _
 subst hA0
 obtain ⟨b0, o0, rfl, _⟩ := hc0 (by omega)
 clear hc0 hR0
 have h8 : (bl.take 8).length = 8 := by rw [List.length_take]; omega
 have hh : SRd w00 T (.slice (some ⟨b0, o0, none⟩) 8 8) ((bl.take 8).map vB) := by rw [List.map_take]; exact hb.cutHM (by omega) (by omega) (by omega)
 have ht := hb.cutLo (lo := 8) (by omega)
 rw [← List.map_drop] at ht
 refine calls_start 225 Tryd.func17 rfl Tryd.ntmps17 rfl fun a hF => ?_
 refine wK fun Kq1 hKq1 => ?_
 refine wR ?_
 refine wg hF rfl rfl rfl (gv_assign rfl (ev_const _ _)) fun a hF => ?_
 refine wg hF rfl rfl rfl (gv_assign rfl (ev_const _ _)) fun a hF => ?_
 refine wN ?_
 refine tN (hKq1 _ _ ?_)
 refine wK fun Kq2 hKq2 => ?_
 refine wK fun Kq3 hKq3 => ?_
 refine wR ?_
 refine wg hF rfl rfl rfl (gv_move rfl (hF.t rfl)) fun a hF => ?_
 refine wg hF rfl rfl rfl (gv_eqlNil rfl u25 (hF.t rfl) (ev_const _ _)) fun a hF => ?_
 refine wg hF rfl rfl rfl (gv_move rfl (hF.t rfl)) fun a hF => ?_
 refine wpList_stp (stp_gv hF (wanted_of hF rfl rfl (rfl)) rfl rfl (gv_move rfl (hF.t rfl)) fun a hF => ?_)
 refine wpList_stp (stp_gv hF (wanted_of hF rfl rfl (rfl)) rfl rfl (gv_nilCheck rfl (hF.t rfl)) fun a hF => ?_)
 refine wpList_stp (stp_gv hF (wanted_of hF rfl rfl (rfl)) rfl rfl (gv_field (r := 6) rfl u47 rfl rfl z4 (by decide) (hF.t rfl)) fun a hF => ?_)
 refine wpList_stp (stp_gv hF (wanted_of hF rfl rfl (rfl)) rfl rfl (gv_load rfl u4 rfl (hF.t rfl) (cell_ix (j := 6) (hS.cell (k := 0) rfl (rfl)) (by omega))) fun a hF => ?_)
 refine wg hF rfl rfl rfl (gv_pickF rfl (hF.t rfl) (hF.t rfl)) fun a hF => ?_
 refine wN ?_
 refine tN (hKq3 _ _ ?_)
 refine wp_cond_false (hF.t rfl) ?_
 refine wp_skip ?_
 refine tN (hKq2 _ _ ?_)
 refine wK fun Kq4 hKq4 => ?_
 refine wR ?_
 refine wg hF rfl rfl rfl (gv_move rfl (hF.t rfl)) fun a hF => ?_
 refine wg hF rfl rfl rfl (gv_nilCheck rfl (hF.t rfl)) fun a hF => ?_
 refine wg hF rfl rfl rfl (gv_field (r := 0) rfl u47 rfl rfl z35 (by decide) (hF.t rfl)) fun a hF => ?_
 refine wpList_stp (stp_call hF (wanted_none rfl) rfl rfl Tryd.ok43 rfl (Evs.cons (hF.t rfl) Evs.nil) (blk0_ok (hS.cell (k := 0) (i := 1) (v := .pointer none) rfl rfl)) fun e w h => ?_)
 obtain ⟨rfl, hx⟩ := h
 refine ⟨_, rfl, fun a hF => ?_⟩
 replace hS := hS.ext hx
 clear hx
 refine wg hF rfl rfl rfl (gv_assign rfl (hF.t rfl)) fun a hF => ?_
 refine wN ?_
 refine tN (hKq4 _ _ ?_)
 refine wK fun Kq5 hKq5 => ?_
 refine wK fun Kq6 hKq6 => ?_
 refine wR ?_
 refine wg hF rfl rfl rfl (gv_move rfl (hF.t rfl)) fun a hF => ?_
 refine wg hF rfl rfl rfl (gv_nilCheck rfl (hF.t rfl)) fun a hF => ?_
 refine wg hF rfl rfl rfl (gv_field (r := 5) rfl u47 rfl rfl z22 (by decide) (hF.t rfl)) fun a hF => ?_
 refine wg hF rfl rfl rfl (gv_load rfl u22 rfl (hF.t rfl) (cell_ix (j := 5) (hS.cell (k := 0) rfl (rfl)) (by omega))) fun a hF => ?_
 refine wg hF rfl rfl rfl (gv_eqlNilS rfl u22 (hF.t rfl) (ev_const _ _)) fun a hF => ?_
 refine wN ?_
 refine tN (hKq6 _ _ ?_)
 refine wp_cond_true (hF.t rfl) ?_
 refine wK fun Kq7 hKq7 => ?_
 refine wK fun Kq8 hKq8 => ?_
 refine wR ?_
 refine wg hF rfl rfl rfl (gv_move rfl (hF.t rfl)) fun a hF => ?_
 refine wg hF rfl rfl rfl (gv_nilCheck rfl (hF.t rfl)) fun a hF => ?_
 refine wg hF rfl rfl rfl (gv_field (r := 4) rfl u47 rfl rfl z22 (by decide) (hF.t rfl)) fun a hF => ?_
 refine wg hF rfl rfl rfl (gv_load rfl u22 rfl (hF.t rfl) (cell_ix (j := 4) (hS.cell (k := 0) rfl (rfl)) (by omega))) fun a hF => ?_
 refine wg hF rfl rfl rfl (gv_len rfl u22 (hF.t rfl)) fun a hF => ?_
 refine wg hF rfl rfl rfl (gv_move rfl (hF.t rfl)) fun a hF => ?_
 refine wg hF rfl rfl rfl (gv_lssF rfl (hF.t rfl) (hF.t rfl) (by omega)) fun a hF => ?_
 refine wN ?_
 refine tN (hKq8 _ _ ?_)
 refine wp_cond_false (hF.t rfl) ?_
 refine wp_skip ?_
 refine tN (hKq7 _ _ ?_)
 refine wK fun Kq9 hKq9 => ?_
 refine wR ?_
 refine wg hF rfl rfl rfl (gv_move rfl (hF.t rfl)) fun a hF => ?_
 refine wg hF rfl rfl rfl (gv_move rfl (hF.t rfl)) fun a hF => ?_
 refine wg hF rfl rfl rfl (gv_nilCheck rfl (hF.t rfl)) fun a hF => ?_
 refine wg hF rfl rfl rfl (gv_field (r := 4) rfl u47 rfl rfl z22 (by decide) (hF.t rfl)) fun a hF => ?_
 refine wg hF rfl rfl rfl (gv_load rfl u22 rfl (hF.t rfl) (cell_ix (j := 4) (hS.cell (k := 0) rfl (rfl)) (by omega))) fun a hF => ?_
 refine wg hF rfl rfl rfl (gv_move rfl (hF.t rfl)) fun a hF => ?_
 refine wg hF rfl rfl rfl (gv_move rfl (hF.t rfl)) fun a hF => ?_
 refine wg hF rfl rfl rfl (gv_sliceHM rfl u22 z5 (hF.t rfl) (hF.t rfl) (hF.t rfl) (by omega) (by omega)) fun a hF => ?_
 refine wg hF rfl rfl rfl (gv_nilCheck rfl (hF.t rfl)) fun a hF => ?_
 refine wg hF rfl rfl rfl (gv_field (r := 5) rfl u47 rfl rfl z22 (by decide) (hF.t rfl)) fun a hF => ?_
 refine wpList_stp (stp_storeAt (5) hF (wanted_none rfl) rfl rfl z22 (hF.t rfl) (by omega) (hF.t rfl) rfl hS (k := 0) rfl (by simp) fun w hS => ?_)
 refine wN ?_
 refine tN (hKq9 _ _ ?_)
 refine wK fun Kq10 hKq10 => ?_
 refine wK fun Kq11 hKq11 => ?_
 refine wR ?_
 refine wg hF rfl rfl rfl (gv_move rfl (hF.t rfl)) fun a hF => ?_
 refine wg hF rfl rfl rfl (gv_nilCheck rfl (hF.t rfl)) fun a hF => ?_
 refine wg hF rfl rfl rfl (gv_field (r := 0) rfl u47 rfl rfl z35 (by decide) (hF.t rfl)) fun a hF => ?_
 refine wg hF rfl rfl rfl (gv_field (r := 1) rfl u35 rfl rfl z33 (by decide) (hF.t rfl)) fun a hF => ?_
 refine wg hF rfl rfl rfl (gv_load rfl u33 rfl (hF.t rfl) (cell_ix (j := 1) (hS.cell (k := 0) rfl (rfl)) (by omega))) fun a hF => ?_
 refine wg hF rfl rfl rfl (gv_neqNil rfl u33 (hF.t rfl) (ev_const _ _)) fun a hF => ?_
 refine wN ?_
 refine tN (hKq11 _ _ ?_)
 refine wp_cond_false (hF.t rfl) ?_
 refine wp_skip ?_
 refine tN (hKq10 _ _ ?_)
 refine wR ?_
 refine wg hF rfl rfl rfl (gv_move rfl (hF.t rfl)) fun a hF => ?_
 refine wg hF rfl rfl rfl (gv_move rfl (hF.t rfl)) fun a hF => ?_
 refine wg hF rfl rfl rfl (gv_nilCheck rfl (hF.t rfl)) fun a hF => ?_
 refine wg hF rfl rfl rfl (gv_field (r := 4) rfl u47 rfl rfl z22 (by decide) (hF.t rfl)) fun a hF => ?_
 refine wg hF rfl rfl rfl (gv_load rfl u22 rfl (hF.t rfl) (cell_ix (j := 4) (hS.cell (k := 0) rfl (rfl)) (by omega))) fun a hF => ?_
 refine wg hF rfl rfl rfl (gv_move rfl (hF.t rfl)) fun a hF => ?_
 refine wg hF rfl rfl rfl (gv_sliceLo rfl u22 z5 (hF.t rfl) (hF.t rfl) (by omega)) fun a hF => ?_
 refine wg hF rfl rfl rfl (gv_nilCheck rfl (hF.t rfl)) fun a hF => ?_
 refine wg hF rfl rfl rfl (gv_field (r := 4) rfl u47 rfl rfl z22 (by decide) (hF.t rfl)) fun a hF => ?_
 refine wpList_stp (stp_storeAt (4) hF (wanted_none rfl) rfl rfl z22 (hF.t rfl) (by omega) (hF.t rfl) rfl hS (k := 0) rfl (by simp) fun w hS => ?_)
 refine wN ?_
 refine tN (hKq5 _ _ ?_)
 refine wK fun Kq12 hKq12 => ?_
 refine wR ?_
 refine wg hF rfl rfl rfl (gv_move rfl (hF.t rfl)) fun a hF => ?_
 refine wg hF rfl rfl rfl (gv_nilCheck rfl (hF.t rfl)) fun a hF => ?_
 refine wg hF rfl rfl rfl (gv_field (r := 5) rfl u47 rfl rfl z22 (by decide) (hF.t rfl)) fun a hF => ?_
 refine wg hF rfl rfl rfl (gv_load rfl u22 rfl (hF.t rfl) (cell_ix (j := 5) (hS.cell (k := 0) rfl (rfl)) (by omega))) fun a hF => ?_
 refine wpList_stp (stp_call hF (wanted_none rfl) rfl rfl Tryd.ok48 rfl (Evs.cons (hF.t rfl) Evs.nil) from_ok fun e w h => ?_)
 obtain ⟨rr, rfl, hN⟩ := h
 refine ⟨_, rfl, fun a hF => ?_⟩
 replace hS := hS.join hN (nw_cons rfl nw_nil)
 simp only [List.cons_append, List.nil_append] at hS
 clear hN
 have hh8 := hh
 rw [← h8] at hh8
 refine wpList_stp (stp_call hF (wanted_none rfl) rfl rfl Tryd.ok49 rfl (Evs.cons (hF.t rfl) Evs.nil) (ru32_ok (bl := bl.take 8) (c := 8) (nw_cons rfl hT) (by rw [h8]; exact hS) (SRd.mono (T := T) (by rw [h8]; exact hh) (fun e he => List.mem_cons_of_mem _ he)) (by omega) (by omega)) fun e w h => ?_)
 obtain ⟨rfl, hS⟩ := h
 refine ⟨_, rfl, fun a hF => ?_⟩
 replace hS := hS.drop rfl
 clear hh8
 refine wg hF rfl rfl rfl (gv_conv_w_i rfl u32 u3 (hF.t rfl)) fun a hF => ?_
 refine wg hF rfl rfl rfl (gv_assign rfl (hF.t rfl)) fun a hF => ?_
 refine wN ?_
 refine tN (hKq12 _ _ ?_)
 refine wK fun Kq13 hKq13 => ?_
 refine wK fun Kq14 hKq14 => ?_
 refine wR ?_
 refine wg hF rfl rfl rfl (gv_move rfl (hF.t rfl)) fun a hF => ?_
 refine wg hF rfl rfl rfl (gv_lssF rfl (hF.t rfl) (ev_const _ _) (by omega)) fun a hF => ?_
 refine wg hF rfl rfl rfl (gv_move rfl (hF.t rfl)) fun a hF => ?_
 refine wpList_stp (stp_gv hF (wanted_of hF rfl rfl (rfl)) rfl rfl (gv_move rfl (hF.t rfl)) fun a hF => ?_)
 refine wpList_stp (stp_gv hF (wanted_of hF rfl rfl (rfl)) rfl rfl (gv_gtrF rfl (hF.t rfl) (ev_const _ _) (by omega)) fun a hF => ?_)
 refine wg hF rfl rfl rfl (gv_pickF rfl (hF.t rfl) (hF.t rfl)) fun a hF => ?_
 refine wg hF rfl rfl rfl (gv_move rfl (hF.t rfl)) fun a hF => ?_
 refine wpList_stp (stp_gv hF (wanted_of hF rfl rfl (rfl)) rfl rfl (gv_move rfl (hF.t rfl)) fun a hF => ?_)
 refine wpList_stp (stp_gv hF (wanted_of hF rfl rfl (rfl)) rfl rfl (gv_nadd (n := 4) rfl (hF.t rfl) rfl (by omega)) fun a hF => ?_)
 refine wpList_stp (stp_gv hF (wanted_of hF rfl rfl (rfl)) rfl rfl (gv_move rfl (hF.t rfl)) fun a hF => ?_)
 refine wpList_stp (stp_gv hF (wanted_of hF rfl rfl (rfl)) rfl rfl (gv_nrem rfl (hF.t rfl) (hF.t rfl) (by omega)) fun a hF => ?_)
 refine wpList_stp (stp_gv hF (wanted_of hF rfl rfl (rfl)) rfl rfl (gv_neqF rfl (hF.t rfl) (ev_const _ _) (by omega)) fun a hF => ?_)
 refine wg hF rfl rfl rfl (gv_pickF rfl (hF.t rfl) (hF.t rfl)) fun a hF => ?_
 refine wN ?_
 refine tN (hKq14 _ _ ?_)
 refine wp_cond_false (hF.t rfl) ?_
 refine wp_skip ?_
 refine tN (hKq13 _ _ ?_)
 refine wK fun Kq15 hKq15 => ?_
 refine wR ?_
 refine wg hF rfl rfl rfl (gv_move rfl (hF.t rfl)) fun a hF => ?_
 refine wg hF rfl rfl rfl (gv_nadd (n := 4) rfl (hF.t rfl) rfl (by omega)) fun a hF => ?_
 refine wg hF rfl rfl rfl (gv_move rfl (hF.t rfl)) fun a hF => ?_
 refine wg hF rfl rfl rfl (gv_nsub rfl (hF.t rfl) (hF.t rfl) (by omega) (by omega)) fun a hF => ?_
 rw [show (u32A (bl.take 8) 4).toNat + 4 - 8 = L - 8 by omega] at hF
 refine wg hF rfl rfl rfl (gv_assign rfl (hF.t rfl)) fun a hF => ?_
 refine wN ?_
 refine tN (hKq15 _ _ ?_)
 refine wK fun Kq16 hKq16 => ?_
 refine wK fun Kq17 hKq17 => ?_
 refine wR ?_
 refine wg hF rfl rfl rfl (gv_move rfl (hF.t rfl)) fun a hF => ?_
 refine wg hF rfl rfl rfl (gv_nilCheck rfl (hF.t rfl)) fun a hF => ?_
 refine wg hF rfl rfl rfl (gv_field (r := 0) rfl u47 rfl rfl z35 (by decide) (hF.t rfl)) fun a hF => ?_
 refine wg hF rfl rfl rfl (gv_field (r := 1) rfl u35 rfl rfl z33 (by decide) (hF.t rfl)) fun a hF => ?_
 refine wg hF rfl rfl rfl (gv_load rfl u33 rfl (hF.t rfl) (cell_ix (j := 1) (hS.cell (k := 0) rfl (rfl)) (by omega))) fun a hF => ?_
 refine wg hF rfl rfl rfl (gv_neqNil rfl u33 (hF.t rfl) (ev_const _ _)) fun a hF => ?_
 refine wN ?_
 refine tN (hKq17 _ _ ?_)
 refine wp_cond_false (hF.t rfl) ?_
 refine wp_skip ?_
 refine tN (hKq16 _ _ ?_)
 refine wK fun Kq18 hKq18 => ?_
 refine wK fun Kq19 hKq19 => ?_
 refine wR ?_
 refine wg hF rfl rfl rfl (gv_move rfl (hF.t rfl)) fun a hF => ?_
 refine wg hF rfl rfl rfl (gv_nilCheck rfl (hF.t rfl)) fun a hF => ?_
 refine wg hF rfl rfl rfl (gv_field (r := 4) rfl u47 rfl rfl z22 (by decide) (hF.t rfl)) fun a hF => ?_
 refine wg hF rfl rfl rfl (gv_load rfl u22 rfl (hF.t rfl) (cell_ix (j := 4) (hS.cell (k := 0) rfl (rfl)) (by omega))) fun a hF => ?_
 refine wg hF rfl rfl rfl (gv_len rfl u22 (hF.t rfl)) fun a hF => ?_
 refine wg hF rfl rfl rfl (gv_move rfl (hF.t rfl)) fun a hF => ?_
 refine wg hF rfl rfl rfl (gv_lssF rfl (hF.t rfl) (hF.t rfl) (by omega)) fun a hF => ?_
 refine wN ?_
 refine tN (hKq19 _ _ ?_)
 refine wp_cond_false (hF.t rfl) ?_
 refine wp_skip ?_
 refine tN (hKq18 _ _ ?_)
 refine wK fun Kq20 hKq20 => ?_
 refine wR ?_
 refine wg hF rfl rfl rfl (gv_move rfl (hF.t rfl)) fun a hF => ?_
 refine wg hF rfl rfl rfl (gv_nilCheck rfl (hF.t rfl)) fun a hF => ?_
 refine wg hF rfl rfl rfl (gv_field (r := 5) rfl u47 rfl rfl z22 (by decide) (hF.t rfl)) fun a hF => ?_
 refine wg hF rfl rfl rfl (gv_load rfl u22 rfl (hF.t rfl) (cell_ix (j := 5) (hS.cell (k := 0) rfl (rfl)) (by omega))) fun a hF => ?_
 refine wg hF rfl rfl rfl (gv_assign rfl (hF.t rfl)) fun a hF => ?_
 refine wN ?_
 refine tN (hKq20 _ _ ?_)
 refine wK fun Kq21 hKq21 => ?_
 refine wK fun Kq22 hKq22 => ?_
 refine wR ?_
 refine wg hF rfl rfl rfl (gv_move rfl (hF.t rfl)) fun a hF => ?_
 refine wg hF rfl rfl rfl (gv_nilCheck rfl (hF.t rfl)) fun a hF => ?_
 refine wg hF rfl rfl rfl (gv_field (r := 0) rfl u47 rfl rfl z35 (by decide) (hF.t rfl)) fun a hF => ?_
 refine wg hF rfl rfl rfl (gv_field (r := 1) rfl u35 rfl rfl z33 (by decide) (hF.t rfl)) fun a hF => ?_
 refine wg hF rfl rfl rfl (gv_load rfl u33 rfl (hF.t rfl) (cell_ix (j := 1) (hS.cell (k := 0) rfl (rfl)) (by omega))) fun a hF => ?_
 refine wg hF rfl rfl rfl (gv_neqNil rfl u33 (hF.t rfl) (ev_const _ _)) fun a hF => ?_
 refine wN ?_
 refine tN (hKq22 _ _ ?_)
 refine wp_cond_false (hF.t rfl) ?_
 refine wR ?_
 refine wg hF rfl rfl rfl (gv_move rfl (hF.t rfl)) fun a hF => ?_
 refine wg hF rfl rfl rfl (gv_move rfl (hF.t rfl)) fun a hF => ?_
 refine wg hF rfl rfl rfl (gv_nilCheck rfl (hF.t rfl)) fun a hF => ?_
 refine wg hF rfl rfl rfl (gv_field (r := 4) rfl u47 rfl rfl z22 (by decide) (hF.t rfl)) fun a hF => ?_
 refine wg hF rfl rfl rfl (gv_load rfl u22 rfl (hF.t rfl) (cell_ix (j := 4) (hS.cell (k := 0) rfl (rfl)) (by omega))) fun a hF => ?_
 refine wg hF rfl rfl rfl (gv_move rfl (hF.t rfl)) fun a hF => ?_
 refine wg hF rfl rfl rfl (gv_sliceHi rfl u22 z5 (hF.t rfl) (hF.t rfl) (by omega)) fun a hF => ?_
 have hR1 := hh w _ hS (nw_cons rfl hT) (fun e he => List.mem_cons_of_mem _ he)
 have hR2 : Rd w (.slice (if c = 8 then some ⟨b0, o0, none⟩ else (some (⟨b0, o0, none⟩ : Addr)).map (·.add 8)) (L - 8) (c - 8)) (((bl.drop 8).take (L - 8)).map vB) := by
  rw [List.map_take]
  exact (ht.cutHi (hi := L - 8) (by omega)) w _ hS (nw_cons rfl hT) (fun e he => List.mem_cons_of_mem _ he)
 have hl2 : ((bl.drop 8).take (L - 8)).length = L - 8 := by rw [List.length_take, List.length_drop]; omega
 refine wpList_stp (stp_appFull (l := bl.take 8) hF (wanted_none rfl) rfl rfl rfl u22 Tryd.ty5 rfl (by rw [h8]; exact hF.t rfl) (hF.t rfl) hS (by rw [h8]; exact hR1) (by omega) hR2 (by omega) (by omega) fun o op a w hF oc hS => ?_)
 rw [take_drop_app, show 8 + (L - 8) = L by omega] at hF oc hS
 have hlL : (bl.take L).length = L := by rw [List.length_take]; omega
 rw [hlL] at hF oc
 clear hR1 hR2
 refine wg hF rfl rfl rfl (gv_assign rfl (hF.t rfl)) fun a hF => ?_
 refine wN ?_
 refine tN (hKq21 _ _ ?_)
 refine wK fun Kq23 hKq23 => ?_
 refine wR ?_
 refine wg hF rfl rfl rfl (gv_move rfl (hF.t rfl)) fun a hF => ?_
 refine wg hF rfl rfl rfl (gv_move rfl (hF.t rfl)) fun a hF => ?_
 refine wg hF rfl rfl rfl (gv_nilCheck rfl (hF.t rfl)) fun a hF => ?_
 refine wg hF rfl rfl rfl (gv_field (r := 4) rfl u47 rfl rfl z22 (by decide) (hF.t rfl)) fun a hF => ?_
 refine wg hF rfl rfl rfl (gv_load rfl u22 rfl (hF.t rfl) (cell_ix (j := 4) (hS.cell (k := 1) rfl (rfl)) (by omega))) fun a hF => ?_
 refine wg hF rfl rfl rfl (gv_move rfl (hF.t rfl)) fun a hF => ?_
 refine wg hF rfl rfl rfl (gv_sliceLo rfl u22 z5 (hF.t rfl) (hF.t rfl) (by omega)) fun a hF => ?_
 have hR3 : SRd w00 T (cutV (if c = 8 then some ⟨b0, o0, none⟩ else (some (⟨b0, o0, none⟩ : Addr)).map (·.add 8)) (bl.length - 8) (c - 8) (L - 8)) ((bl.drop L).map vB) := by
  have := SRd.cutLo (lo := L - 8) ht (by omega)
  rw [← List.map_drop, List.drop_drop, show 8 + (L - 8) = L by omega] at this
  exact this
 replace hS := hS.addNil (blk 5 (([] : List UInt8).map vB ++ []))
 refine wpList_stp (stp_appB (ob := none) (l := []) (pad := []) (k := 0) hF (wanted_none rfl) rfl rfl rfl u22 Tryd.ty5 rfl (ev_const _ _) (hF.t rfl) hS rfl (fun _ => ⟨rfl, rfl⟩) (by simp) (hR3 _ _ hS (nw_cons rfl (nw_cons rfl (nw_cons rfl hT))) (fun e he => List.mem_cons_of_mem _ (List.mem_cons_of_mem _ (List.mem_cons_of_mem _ he)))) (by simp; omega) fun g gp a w hF go gc hS => ?_)
 simp only [List.nil_append] at hF go gc hS
 refine wg hF rfl rfl rfl (gv_nilCheck rfl (hF.t rfl)) fun a hF => ?_
 refine wg hF rfl rfl rfl (gv_field (r := 4) rfl u47 rfl rfl z22 (by decide) (hF.t rfl)) fun a hF => ?_
 refine wpList_stp (stp_storeAt (4) hF (wanted_none rfl) rfl rfl z22 (hF.t rfl) (by omega) (hF.t rfl) (own_one _ _ _) hS (k := 2) rfl (by simp) fun w hS => ?_)
 refine wN ?_
 refine tN (hKq23 _ _ ?_)
 refine wK fun Kq24 hKq24 => ?_
 refine wR ?_
 refine wg hF rfl rfl rfl (gv_move rfl (hF.t rfl)) fun a hF => ?_
 refine wg hF rfl rfl rfl (gv_nilCheck rfl (hF.t rfl)) fun a hF => ?_
 refine wg hF rfl rfl rfl (gv_field (r := 5) rfl u47 rfl rfl z22 (by decide) (hF.t rfl)) fun a hF => ?_
 refine wpList_stp (stp_storeAt (5) hF (wanted_none rfl) rfl rfl z22 (hF.t rfl) (by omega) (ev_const _ _) rfl hS (k := 2) rfl (by simp) fun w hS => ?_)
 refine wN ?_
 refine tN (hKq24 _ _ ?_)
 refine wK fun Kq25 hKq25 => ?_
 refine wR ?_
 refine wg hF rfl rfl rfl (gv_move rfl (hF.t rfl)) fun a hF => ?_
 refine wg hF rfl rfl rfl (gv_indexSl (q := 4) rfl u22 z5 (hF.t rfl) rfl (by omega)) fun a hF => ?_
 refine wg hF rfl rfl rfl (gv_load rfl u5 rfl (hF.t rfl) (cell_ix (j := 4) (hS.cell (k := 1) rfl (at_map (by rw [hlL]; omega) 0)) (by omega))) fun a hF => ?_
 refine wg hF rfl rfl rfl (gv_conv_b_i rfl u5 u3 (hF.t rfl)) fun a hF => ?_
 rw [take_getD (show 4 < L by omega), q6] at hF
 refine wg hF rfl rfl rfl (gv_assign rfl (hF.t rfl)) fun a hF => ?_
 refine wN ?_
 refine tN (hKq25 _ _ ?_)
 refine wK fun Kq26 hKq26 => ?_
 refine wK fun Kq27 hKq27 => ?_
 refine wR ?_
 refine wg hF rfl rfl rfl (gv_move rfl (hF.t rfl)) fun a hF => ?_
 refine wg hF rfl rfl rfl (gv_lssF rfl (hF.t rfl) (ev_const _ _) (by omega)) fun a hF => ?_
 refine wg hF rfl rfl rfl (gv_move rfl (hF.t rfl)) fun a hF => ?_
 refine wpList_stp (stp_gv hF (wanted_of hF rfl rfl (rfl)) rfl rfl (gv_move rfl (hF.t rfl)) fun a hF => ?_)
 refine wpList_stp (stp_gv hF (wanted_of hF rfl rfl (rfl)) rfl rfl (gv_len rfl u22 (hF.t rfl)) fun a hF => ?_)
 refine wpList_stp (stp_gv hF (wanted_of hF rfl rfl (rfl)) rfl rfl (gv_nsub (n := 5) rfl (hF.t rfl) rfl (by omega) (by omega)) fun a hF => ?_)
 refine wpList_stp (stp_gv hF (wanted_of hF rfl rfl (rfl)) rfl rfl (gv_move rfl (hF.t rfl)) fun a hF => ?_)
 refine wpList_stp (stp_gv hF (wanted_of hF rfl rfl (rfl)) rfl rfl (gv_nsub rfl (hF.t rfl) (hF.t rfl) (by omega) (by omega)) fun a hF => ?_)
 refine wpList_stp (stp_gv hF (wanted_of hF rfl rfl (rfl)) rfl rfl (gv_lssF rfl (hF.t rfl) (ev_const _ _) (by omega)) fun a hF => ?_)
 refine wg hF rfl rfl rfl (gv_pickF rfl (hF.t rfl) (hF.t rfl)) fun a hF => ?_
 refine wN ?_
 refine tN (hKq27 _ _ ?_)
 refine wp_cond_false (hF.t rfl) ?_
 refine wp_skip ?_
 refine tN (hKq26 _ _ ?_)
 refine wK fun Kq28 hKq28 => ?_
 refine wR ?_
 refine wg hF rfl rfl rfl (gv_move rfl (hF.t rfl)) fun a hF => ?_
 refine wg hF rfl rfl rfl (gv_nilCheck rfl (hF.t rfl)) fun a hF => ?_
 refine wg hF rfl rfl rfl (gv_field (r := 0) rfl u47 rfl rfl z35 (by decide) (hF.t rfl)) fun a hF => ?_
 refine wg hF rfl rfl rfl (gv_field (r := 0) rfl u35 rfl rfl z32 (by decide) (hF.t rfl)) fun a hF => ?_
 refine wg hF rfl rfl rfl (gv_load rfl u32 rfl (hF.t rfl) (cell_ix (j := 0) (hS.cell (k := 2) rfl (rfl)) (by omega))) fun a hF => ?_
 refine wg hF rfl rfl rfl (gv_w_add (n := 1) rfl (hF.t rfl) rfl) fun a hF => ?_
 refine wg hF rfl rfl rfl (gv_nilCheck rfl (hF.t rfl)) fun a hF => ?_
 refine wg hF rfl rfl rfl (gv_field (r := 0) rfl u47 rfl rfl z35 (by decide) (hF.t rfl)) fun a hF => ?_
 refine wg hF rfl rfl rfl (gv_field (r := 0) rfl u35 rfl rfl z32 (by decide) (hF.t rfl)) fun a hF => ?_
 refine wpList_stp (stp_storeAt (0) hF (wanted_none rfl) rfl rfl z32 (hF.t rfl) (by omega) (hF.t rfl) rfl hS (k := 2) rfl (by simp) fun w hS => ?_)
 refine wN ?_
 refine tN (hKq28 _ _ ?_)
 refine wK fun Kq29 hKq29 => ?_
 refine wR ?_
 refine wg hF rfl rfl rfl (gv_move rfl (hF.t rfl)) fun a hF => ?_
 refine wg hF rfl rfl rfl (gv_nilCheck rfl (hF.t rfl)) fun a hF => ?_
 refine wg hF rfl rfl rfl (gv_field (r := 0) rfl u47 rfl rfl z35 (by decide) (hF.t rfl)) fun a hF => ?_
 refine wg hF rfl rfl rfl (gv_field (r := 3) rfl u35 rfl rfl z3 (by decide) (hF.t rfl)) fun a hF => ?_
 refine wg hF rfl rfl rfl (gv_load rfl u3 rfl (hF.t rfl) (cell_ix (j := 3) (hS.cell (k := 2) rfl (rfl)) (by omega))) fun a hF => ?_
 refine wg hF rfl rfl rfl (gv_nadd (n := 1) rfl (hF.t rfl) rfl (by omega)) fun a hF => ?_
 refine wg hF rfl rfl rfl (gv_nilCheck rfl (hF.t rfl)) fun a hF => ?_
 refine wg hF rfl rfl rfl (gv_field (r := 0) rfl u47 rfl rfl z35 (by decide) (hF.t rfl)) fun a hF => ?_
 refine wg hF rfl rfl rfl (gv_field (r := 3) rfl u35 rfl rfl z3 (by decide) (hF.t rfl)) fun a hF => ?_
 refine wpList_stp (stp_storeAt (3) hF (wanted_none rfl) rfl rfl z3 (hF.t rfl) (by omega) (hF.t rfl) rfl hS (k := 2) rfl (by simp) fun w hS => ?_)
 refine wN ?_
 refine tN (hKq29 _ _ ?_)
 refine wK fun Kq30 hKq30 => ?_
 refine wR ?_
 refine wg hF rfl rfl rfl (gv_move rfl (hF.t rfl)) fun a hF => ?_
 refine wg hF rfl rfl rfl (gv_move rfl (hF.t rfl)) fun a hF => ?_
 refine wg hF rfl rfl rfl (gv_len rfl u22 (hF.t rfl)) fun a hF => ?_
 refine wg hF rfl rfl rfl (gv_move rfl (hF.t rfl)) fun a hF => ?_
 refine wg hF rfl rfl rfl (gv_nsub rfl (hF.t rfl) (hF.t rfl) (by omega) (by omega)) fun a hF => ?_
 refine wg hF rfl rfl rfl (gv_move rfl (hF.t rfl)) fun a hF => ?_
 refine wg hF rfl rfl rfl (gv_len rfl u22 (hF.t rfl)) fun a hF => ?_
 refine wg hF rfl rfl rfl (gv_move rfl (hF.t rfl)) fun a hF => ?_
 refine wg hF rfl rfl rfl (gv_nsub rfl (hF.t rfl) (hF.t rfl) (by omega) (by omega)) fun a hF => ?_
 refine wg hF rfl rfl rfl (gv_slice3 (l := 5) rfl u22 z5 (hF.t rfl) rfl (hF.t rfl) (hF.t rfl) (by omega) (by omega) (by omega)) fun a hF => ?_
 refine wg hF rfl rfl rfl (gv_assign rfl (hF.t rfl)) fun a hF => ?_
 refine wg hF rfl rfl rfl (gv_assign rfl (ev_const _ _)) fun a hF => ?_
 refine wN ?_
 refine tN (hKq30 _ _ ?_)
 refine wp_ret ?_
 refine ret2 (fn := Tryd.f17) (t := 2) (u := 3) hF rfl rfl rfl ?_
 replace hS := hS.move (k := 2) rfl
 exact ⟨o, op, g, gp, rfl, go, gc, oc, hS⟩
end Go.Proofs.YtfhalnobaeogkaaDoor
set_option linter.unusedVariables false
set_option linter.unusedSimpArgs false
namespace Go.Fw
open Go Go.RowKit
theorem cell_ext {w w' : World} {b i : Nat} {v : Value} (h : w.cell? ⟨b, i, none⟩ = some v) (hx : Ext w w') : w'.cell? ⟨b, i, none⟩ = some v := (cell_same (hx.block b (cell_lt h))).trans h
section
variable {P : Program} {ops : Array Oper} {Q : Exit → Act → World → Prop} {N : Nat} {a : Act} {m : List (Nat × Value)} {o : Oper} {w w0 : World} {K K' : Act → World → Prop} {H : List Ent}
theorem stp_mono (hk : ∀ a w, K a w → K' a w) (h : Stp P ops Q o a w K) : Stp P ops Q o a w K' := by
 unfold Stp at h ⊢
 split
 ·
  rename_i hw
  rw [if_pos hw] at h
  exact h.imp (Oper.wp_mono hk) id
 ·
  rename_i hw
  rw [if_neg hw] at h
  exact hk _ _ h
theorem run_four {o0 o1 o2 o3 : Oper} (φ : Act → World → Prop) (hsz : ops.size = 4) (h0 : ops[0]? = some o0) (h1 : ops[1]? = some o1) (h2 : ops[2]? = some o2) (h3 : ops[3]? = some o3)
  (r0 : Region.ready .any ops (upto 4 0) = [0, 1]) (r1 : Region.ready .any ops ((upto 4 0).setIfInBounds 0 true) = [1, 2]) (r2 : Region.ready .any ops ((upto 4 0).setIfInBounds 1 true) = [0])
  (r3 : Region.ready .any ops (((upto 4 0).setIfInBounds 0 true).setIfInBounds 1 true) = [2]) (r4 : Region.ready .any ops (((upto 4 0).setIfInBounds 0 true).setIfInBounds 2 true) = [1]) (r5 : Region.ready .any ops (((upto 4 0).setIfInBounds 1 true).setIfInBounds 0 true) = [2])
  (r6 : Region.ready .any ops ((((upto 4 0).setIfInBounds 0 true).setIfInBounds 1 true).setIfInBounds 2 true) = [3]) (r7 : Region.ready .any ops ((((upto 4 0).setIfInBounds 0 true).setIfInBounds 2 true).setIfInBounds 1 true) = [3]) (r8 : Region.ready .any ops ((((upto 4 0).setIfInBounds 1 true).setIfInBounds 0 true).setIfInBounds 2 true) = [3])
  (r9 : Region.ready .any ops (((((upto 4 0).setIfInBounds 0 true).setIfInBounds 1 true).setIfInBounds 2 true).setIfInBounds 3 true) = []) (r10 : Region.ready .any ops (((((upto 4 0).setIfInBounds 0 true).setIfInBounds 2 true).setIfInBounds 1 true).setIfInBounds 3 true) = []) (r11 : Region.ready .any ops (((((upto 4 0).setIfInBounds 1 true).setIfInBounds 0 true).setIfInBounds 2 true).setIfInBounds 3 true) = [])
  (g : Stp P ops Q o0 a w (fun a w => Stp P ops Q o1 a w (fun a w => Stp P ops Q o2 a w (fun a w => Stp P ops Q o3 a w φ)) ∧ Stp P ops Q o2 a w (fun a w => Stp P ops Q o1 a w (fun a w => Stp P ops Q o3 a w φ))))
  (g' : Stp P ops Q o1 a w (fun a w => Stp P ops Q o0 a w (fun a w => Stp P ops Q o2 a w (fun a w => Stp P ops Q o3 a w φ))))
  (hQ : ∀ a w, φ a w → Q .normal a w) : Run P ops Q 0 a w := by
 have one : ∀ (k i : Nat) (listed : Array Bool) (o : Oper) (a : Act) (w : World), ops[i]? = some o → Region.ready .any ops listed = [i] → Stp P ops Q o a w (wpAny P .any ops Q k (listed.setIfInBounds i true)) → wpAny P .any ops Q (k + 1) listed a w := fun k i listed o a w ho hr h => by
  refine ⟨fun h0 => absurd (hr ▸ h0) (by simp), fun j hj => ?_⟩
  rw [hr] at hj
  obtain rfl : j = i := by simpa using hj
  unfold wpOp; rw [ho]; exact h
 have two : ∀ (k i j : Nat) (listed : Array Bool) (o p : Oper) (a : Act) (w : World), ops[i]? = some o → ops[j]? = some p → Region.ready .any ops listed = [i, j] → Stp P ops Q o a w (wpAny P .any ops Q k (listed.setIfInBounds i true)) → Stp P ops Q p a w (wpAny P .any ops Q k (listed.setIfInBounds j true)) → wpAny P .any ops Q (k + 1) listed a w := fun k i j listed o p a w ho hp hr h h' => by
  refine ⟨fun h0 => absurd (hr ▸ h0) (by simp), fun q hq => ?_⟩
  rw [hr] at hq
  rcases (by simpa using hq : q = i ∨ q = j) with rfl | rfl
  ·
   unfold wpOp; rw [ho]; exact h
  ·
   unfold wpOp; rw [hp]; exact h'
 have fin : ∀ (listed : Array Bool), Region.ready .any ops listed = [] → ∀ a w, φ a w → wpAny P .any ops Q 0 listed a w := fun listed hr a w h => ⟨hr, hQ a w h⟩
 unfold Run
 rw [hsz]
 refine two 3 0 1 _ o0 o1 a w h0 h1 r0 (stp_mono (fun a w hab => ?_) g) (stp_mono (fun a w ha => ?_) g')
 ·
  obtain ⟨ha, hb⟩ := hab
  refine two 2 1 2 _ o1 o2 a w h1 h2 r1 (stp_mono (fun a w h => ?_) ha) (stp_mono (fun a w h => ?_) hb)
  ·
   exact one 1 2 _ o2 a w h2 r3 (stp_mono (fun a w h => one 0 3 _ o3 a w h3 r6 (stp_mono (fin _ r9) h)) h)
  ·
   exact one 1 1 _ o1 a w h1 r4 (stp_mono (fun a w h => one 0 3 _ o3 a w h3 r7 (stp_mono (fin _ r10) h)) h)
 ·
  exact one 2 0 _ o0 a w h0 r2 (stp_mono (fun a w h => one 1 2 _ o2 a w h2 r5 (stp_mono (fun a w h => one 0 3 _ o3 a w h3 r8 (stp_mono (fin _ r11) h)) h)) ha)
end
section
variable {P : Program} {N : Nat} {a : Act} {w w0 : World} {m : List (Nat × Value)} {H : List Ent} {o : Oper} {ops : Array Oper} {K : Act → World → Prop} {Q : Exit → Act → World → Prop} {x y : Operand} {t e : TypeId}
theorem stp_copyB {b n k d : Nat} {nw : Bool} {l ml : List UInt8} {v : Value} (hF : Fr N a m) (hw : Region.wanted o (yielded ops a.tmps) = true) (hd : o.dst = some d) (hN : Nat.blt d N = true)
  (ho : o.op = .call { callee := .builtin .copy, args := #[x, y], argTypes := #[t, t] }) (ht : P.underlying t = some (.slice e)) (hz : (P.info? e).map (·.size) = some 1)
  (hx : a.eval x = .slice (some ⟨b, 0, none⟩) n n) (hy : a.eval y = v) (hS : St w0 w H) (hk : H[k]? = some ⟨nw, some b, blkB e l⟩) (hl : l.length = n) (hr : Rd w v (ml.map vB)) (hp : 0 < ml.length) (hm : ml.length ≤ n)
  (h : ∀ a' w', Fr N a' ((d, vI ml.length) :: m) → St w0 w' (H.set k ⟨nw, some b, blkB e (ml ++ l.drop ml.length)⟩) → K a' w') : Stp P ops Q o a w K := by
 obtain ⟨A2, c2, rfl, _, _, hc2⟩ := hr.isB
 obtain ⟨b2, o2, rfl, hd2⟩ := hc2 hp
 have hb := hS.has _ (List.mem_of_getElem? hk) b rfl
 have hf := run_firstCells_some (P := P) w 1 ml.length ⟨b2, o2, none⟩ ml.length c2 (ml.map vB) (by simp) (fun j u hu => by
  rw [List.getElem?_map] at hu
  obtain ⟨q, hq, rfl⟩ := Option.map_eq_some_iff.1 hu
  have h1 := (List.getElem?_eq_some_iff.1 hq).1
  rw [add_lit, hd2 j h1, List.getD_eq_getElem?_getD, hq]; rfl)
 have hst := run_storeCells_at P b 0 e (ml.map vB) 0 (l.map vB).toArray w hb (by simp; omega) (one_B ml)
 have hrun : (Builtin.copy_ #[t, t] o.type #[.slice (some ⟨b, 0, none⟩) n n, .slice (some ⟨b2, o2, none⟩) ml.length c2]).run P w = .ok (vI ml.length) (w.setRow b ((ml ++ l.drop ml.length).map vB).toArray) := by
  have hmin : Nat.min ml.length n = ml.length := Nat.min_eq_left hm
  have e1 : (((l.map vB).toArray.toList.take (0 + 0) ++ ml.map vB ++ (l.map vB).toArray.toList.drop (0 + 0 + (ml.map vB).length)).toArray) = ((ml ++ l.drop ml.length).map vB).toArray := by simp
  rw [e1] at hst
  simp [Builtin.copy_, run_underlying ht, Fw.run_sizeOf hz, Builtin.lenOf, hmin, hf, hst, goInt, vI]
 refine stp_val hF hw hd hN (v := vI ml.length) (w' := w.setRow b ((ml ++ l.drop ml.length).map vB).toArray) ?_ fun a' hF' => h a' _ hF' (hS.setRow hk)
 unfold execOp
 rw [ho]
 simp [resolve, invoke, builtin, hx, hy, hrun]
theorem sx_build2 {R : Value → World → Prop} {q0 q1 : Operand} {v0 v1 z : Value} {by_ : Nat} (hw : Region.wanted o (yielded ops a.tmps) = true) (ho : o.op = .buildSlice t 2 #[(0, q0), (1, q1)]) (ht : P.underlying t = some (.slice e)) (hty : Ty P e z 1 by_) (hz : z.cells = #[z]) (hv0 : v0.cells = #[v0]) (hv1 : v1.cells = #[v1])
  (h0 : a.eval q0 = v0) (h1 : a.eval q1 = v1) (hr : R (.slice (some ⟨w.heap.size, 0, none⟩) 2 2) (w.alloc (.cells [v0, v1].toArray e))) : SX P ops o a w R := by
 obtain ⟨i, g1, g2, g3, g4⟩ := hty.get
 refine ⟨hw, .inl ⟨_, w.alloc (.cells [v0, v1].toArray e), ?_, Ext.alloc _ _, hr⟩⟩
 have := run_buildSlice (P := P) w t e 2 #[(0, v0), (1, v1)] [v0, v1].toArray i z ht g1 g2 (by rw [g3]; decide) (by rw [g3]; decide) (by
  rw [g3, show (Array.range (2 * 1)).map (fun j => z.cells[j % z.cells.size]!) = #[z, z] from by rw [show Array.range (2 * 1) = #[0, 1] from by decide]; simp [hz]]
  refine (fill_cons (place := fun i => some (i * 1, 1)) (v := v0) (i := 0) (rest := [(1, v1)]) (zs := [z, z]) (vs := [v0]) (off := 0) rfl (by rw [hv0]) (by simp)).trans ?_
  refine (fill_cons (place := fun i => some (i * 1, 1)) (v := v1) (i := 1) (rest := []) (vs := [v1]) (off := 1) rfl (by rw [hv1]) (by simp [splice])).trans ?_
  rw [fill_nil]; rfl)
 simp [execOp, ho, h0, h1]
 show ((Instr.buildSlice t 2 #[(0, v0), (1, v1)]).run P w).andThen _ = _
 rw [this]; rfl
end
end Go.Fw
namespace Go.Fw
open Go Go.RowKit
section
variable {P : Program} {a : Act} {o : Oper} {w : World} {x y : Operand} {t u : TypeId}
theorem gv_nmin {m n : Nat} (ho : o.op = .call { callee := .builtin .min, args := #[x, y], argTypes := #[t, u] }) (hx : a.eval x = vI m) (hy : a.eval y = vI n) : Gv P o a w (vI (min m n)) := by
 unfold Gv execOp; rw [ho]
 have : (if n < m then (n : Int) else (m : Int)) = ((min m n : Nat) : Int) := by split <;> omega
 simp [resolve, invoke, builtin, hx, hy, vI, Builtin.min_, Builtin.min2, this]
end
theorem once_perm {H H' : List Ent} (hp : H.Perm H') : (H.filterMap (·.ob)).Nodup → (H'.filterMap (·.ob)).Nodup := fun h => (hp.filterMap _).nodup_iff.1 h
theorem once_nodup : ∀ {H : List Ent}, (∀ (i j : Nat) (ei ej : Ent) (b : Nat), H[i]? = some ei → H[j]? = some ej → ei.ob = some b → ej.ob = some b → i = j) → (H.filterMap (·.ob)).Nodup
 | [], _ => List.nodup_nil
 | e :: H, h => by
  have ih := once_nodup (H := H) fun i j ei ej b hi hj h1 h2 => by
   have := h (i + 1) (j + 1) ei ej b (by simpa using hi) (by simpa using hj) h1 h2
   omega
  cases he : e.ob with
  | none => rw [List.filterMap_cons_none he]; exact ih
  | some b =>
   rw [List.filterMap_cons_some he, List.nodup_cons]
   refine ⟨fun hm => ?_, ih⟩
   obtain ⟨d, hd, hdb⟩ := List.mem_filterMap.1 hm
   obtain ⟨j, hj⟩ := List.getElem?_of_mem hd
   have := h 0 (j + 1) e d b rfl (by simpa using hj) he hdb
   omega
theorem nodup_once : ∀ {H : List Ent}, (H.filterMap (·.ob)).Nodup → ∀ (i j : Nat) (ei ej : Ent) (b : Nat), H[i]? = some ei → H[j]? = some ej → ei.ob = some b → ej.ob = some b → i = j
 | [], _, i, _, _, _, _, hi, _, _, _ => by simp at hi
 | e :: H, h, i, j, ei, ej, b, hi, hj, h1, h2 => by
  have ht : (H.filterMap (·.ob)).Nodup := by
   cases he : e.ob with
   | none => rwa [List.filterMap_cons_none he] at h
   | some c => rw [List.filterMap_cons_some he, List.nodup_cons] at h; exact h.2
  have hne : ∀ (k : Nat) (d : Ent), H[k]? = some d → d.ob = some b → e.ob = some b → False := fun k d hk hd he => by
   rw [List.filterMap_cons_some he, List.nodup_cons] at h
   exact h.1 (List.mem_filterMap.2 ⟨d, List.mem_of_getElem? hk, hd⟩)
  match i, j with
  | 0, 0 => rfl
  | 0, j + 1 =>
   simp only [List.getElem?_cons_zero, Option.some.injEq, List.getElem?_cons_succ] at hi hj
   subst hi
   exact (hne j ej hj h2 h1).elim
  | i + 1, 0 =>
   simp only [List.getElem?_cons_zero, Option.some.injEq, List.getElem?_cons_succ] at hi hj
   subst hj
   exact (hne i ei hi h1 h2).elim
  | i + 1, j + 1 =>
   simp only [List.getElem?_cons_succ] at hi hj
   rw [nodup_once ht i j ei ej b hi hj h1 h2]
theorem St.perm {w0 w : World} {H H' : List Ent} (h : St w0 w H) (hp : H.Perm H') : St w0 w H' :=
 ⟨h.os, h.tape, h.output, h.size, fun b hb hn => h.old b hb fun e he => hn e (hp.mem_iff.1 he), fun e he => h.has e (hp.mem_iff.2 he), fun e he => h.new e (hp.mem_iff.2 he), nodup_once (once_perm hp (once_nodup h.once))⟩
theorem St.fewer {w0 w : World} {H H' : List Ent} (h : St w0 w (H ++ H')) (hn : ∀ e ∈ H, e.nw = true) : St w0 w H' := by
 induction H with
 | nil => exact h
 | cons e H ih => exact ih (St.drop (H := H ++ H') h (hn e List.mem_cons_self)) fun d hd => hn d (List.mem_cons_of_mem _ hd)
end Go.Fw
set_option linter.unusedVariables false
set_option linter.unusedSimpArgs false
namespace Go.Proofs.YtfhalnobaeogkaaDoor
open Go Go.RowKit Go.Fw
theorem z9 : (Tryd.prog.info? 9).map (·.size) = some 1 := by kernel_rfl
theorem z55 : (Tryd.prog.info? 55).map (·.size) = some 4 := by kernel_rfl
theorem Tryd.zv55 : (Tryd.prog.info? 55).map (·.zero) = some (some (Value.agg ([Value.int .i64 0] ++ [Value.slice none 0 0] ++ [Value.string .empty] ++ [Value.int .i64 0]).toArray)) := by kernel_rfl
structure CallE where
 kind : Int
 dv : Value
 bl : List UInt8
 dr : List UInt8
 n : Int
def CallE.cells (x : CallE) : List Value := [.int .i64 x.kind, x.dv, sV x.dr, .int .i64 x.n]
structure CRd (w : World) (v : Value) (cs : List CallE) : Prop where
 is : ∃ A c, v = .slice A cs.length c ∧ (0 < cs.length → ∃ b o, A = some ⟨b, o, none⟩ ∧ ∀ i x, cs[i]? = some x → ∀ j u, x.cells[j]? = some u → w.cell? ⟨b, o + i * 4 + j, none⟩ = some u)
 el : ∀ x ∈ cs, Rd w x.dv (x.bl.map vB) ∧ x.bl.length ≤ 140737488351232 ∧ x.dr.length ≤ 140737488351232 ∧ (-9223372036854775808 ≤ x.n ∧ x.n ≤ 9223372036854775807)
 len : cs.length ≤ 9223372036854775807
theorem CRd.ext {w w' : World} {v : Value} {cs : List CallE} (h : CRd w v cs) (hx : Ext w w') : CRd w' v cs := by
 obtain ⟨A, c, hv, hc⟩ := h.is
 refine ⟨⟨A, c, hv, fun hp => ?_⟩, fun x hx' => ?_, h.len⟩
 ·
  obtain ⟨b, o, hA, hc⟩ := hc hp
  exact ⟨b, o, hA, fun i x hx' j u hu => cell_ext (hc i x hx' j u hu) hx⟩
 ·
  obtain ⟨h1, h2⟩ := h.el x hx'
  exact ⟨h1.ext hx, h2⟩
theorem CRd.at {w : World} {A : Option Addr} {n c : Nat} {cs : List CallE} (h : CRd w (.slice A n c) cs) {i : Nat} (hi : i < cs.length) : ∃ b o x, A = some ⟨b, o, none⟩ ∧ cs[i]? = some x ∧ (∀ j u, x.cells[j]? = some u → w.cell? ⟨b, o + i * 4 + j, none⟩ = some u) ∧ Rd w x.dv (x.bl.map vB) ∧ x.bl.length ≤ 140737488351232 ∧ x.dr.length ≤ 140737488351232 ∧ (-9223372036854775808 ≤ x.n ∧ x.n ≤ 9223372036854775807) := by
 obtain ⟨A', c', hv, hc⟩ := h.is
 injection hv with hA _ _
 subst hA
 obtain ⟨b, o, hA, hc⟩ := hc (by omega)
 exact ⟨b, o, cs[i], hA, List.getElem?_eq_getElem hi, hc i _ (List.getElem?_eq_getElem hi), h.el _ (List.getElem_mem hi)⟩
def lightN (cs : List CallE) : Nat → Nat
 | 0 => 0
 | i + 1 => lightN cs i + (match cs[i]? with | some x => 1 + (x.bl.length + x.dr.length) / 50 | none => 0)
theorem lightN_succ {cs : List CallE} {i : Nat} {x : CallE} (h : cs[i]? = some x) : lightN cs (i + 1) = lightN cs i + (1 + (x.bl.length + x.dr.length) / 50) := by simp [lightN, h]
theorem lightN_le (cs : List CallE) (i : Nat) : ∀ k, lightN cs i ≤ lightN cs (i + k)
 | 0 => Nat.le_refl _
 | k + 1 => Nat.le_trans (lightN_le cs i k) (by rw [← Nat.add_assoc, lightN]; omega)
theorem lightN_mono (cs : List CallE) {i j : Nat} (h : i ≤ j) : lightN cs i ≤ lightN cs j := by
 have := lightN_le cs i (j - i)
 rwa [show i + (j - i) = j by omega] at this
theorem light_small {cs : List CallE} {i : Nat} {x : CallE} (h : lightN cs cs.length ≤ 100) (hx : cs[i]? = some x) : x.bl.length + x.dr.length < 5000 := by
 have hi := (List.getElem?_eq_some_iff.1 hx).1
 have h1 := lightN_mono cs (show i + 1 ≤ cs.length by omega)
 rw [lightN_succ hx] at h1
 omega
theorem light_len (cs : List CallE) : ∀ i, i ≤ cs.length → i ≤ lightN cs i
 | 0, _ => Nat.le_refl _
 | i + 1, h => by
  rw [lightN_succ (List.getElem?_eq_getElem (show i < cs.length by omega))]
  have := light_len cs i (by omega)
  omega
theorem gv_lenS7 {P : Program} {a : Act} {o : Oper} {w : World} {t : TypeId} {l : List UInt8} {x : Operand} (ho : o.op = .call { callee := .builtin .len, args := #[x], argTypes := #[t] }) (ht : P.underlying t = some .string) (hx : a.eval x = sV l) : Gv P o a w (vI l.length) := by
 have := gv_lenStr (w := w) ho ht hx
 rwa [sV_size] at this
theorem cells_one {x : CallE} {w : World} {l : List UInt8} (h : Rd w x.dv (l.map vB)) : ∀ u ∈ x.cells, u.oneCell' = true := by
 obtain ⟨A, c, hv, _⟩ := h.isB
 intro u hu
 simp only [CallE.cells, List.mem_cons, List.mem_nil_iff, or_false] at hu
 rcases hu with rfl | rfl | rfl | rfl
 ·
  rfl
 ·
  rw [hv]; rfl
 ·
  rfl
 ·
  rfl
theorem light_ok {v : Value} {cs : List CallE} {w0 : World} (hv : CRd w0 v cs) :
  Calls Tryd.prog 22 #[v] w0 fun e w' => e = .returned (.bool (decide (lightN cs cs.length ≤ 100))) ∧ Ext w0 w' := by
 obtain ⟨A1, c1, hv1, _⟩ := hv.is
 subst hv1
 have hlen := hv.len
 refine calls_start 26 Tryd.func22 rfl Tryd.ntmps22 rfl fun a hF => ?_
 have hS := St.refl w0
 refine wK fun Kq1 hKq1 => ?_
 refine wR ?_
 refine wg hF rfl rfl rfl (gv_assign rfl (ev_const _ _)) fun a hF => ?_
 refine wN ?_
 refine tN (hKq1 _ _ ?_)
 refine wK fun Kq2 hKq2 => ?_
 refine wR ?_
 refine wg hF rfl rfl rfl (gv_assign rfl (ev_const _ _)) fun a hF => ?_
 refine wN ?_
 refine tN (hKq2 _ _ ?_)
 refine wK fun Kq3 hKq3 => ?_
 refine wK fun Kq4 hKq4 => ?_
 refine wR ?_
 refine wg hF rfl rfl rfl (gv_move rfl (hF.t rfl)) fun a hF => ?_
 refine wg hF rfl rfl rfl (gv_len rfl u44 (hF.t rfl)) fun a hF => ?_
 refine wg hF rfl rfl rfl (gv_move rfl (ev_const _ _)) fun a hF => ?_
 refine wN ?_
 refine tN (hKq4 _ _ ?_)
 refine wp_block ?_
 refine wp_loop_n (fun n a w => ∃ i, i ≤ cs.length ∧ n = cs.length - i ∧ lightN cs i ≤ 100 ∧ Fr 26 a [(3, vI (lightN cs i)), (6, .slice A1 cs.length c1), (7, vI cs.length), (8, vI i)] ∧ St w0 w []) cs.length ⟨0, by omega, by omega, by simp [lightN], hF.sub ⟨rfl, rfl, rfl, rfl, trivial⟩, hS⟩ ?_
 rintro n a w ⟨i, hi, hn, hli, hF, hS⟩
 refine wK fun Kq5 hKq5 => ?_
 refine wR ?_
 refine wg hF rfl rfl rfl (gv_lss rfl (hF.t rfl) (hF.t rfl)) fun a hF => ?_
 refine wN ?_
 refine tN (hKq5 _ _ ?_)
 refine wK fun Kq6 hKq6 => ?_
 refine cond_dec (hF.t rfl) (fun h9 => ?_) (fun h9 => ?_)
 ·
  obtain ⟨b1, o1, ⟨kd, dv, bl, dr, nn⟩, hA1, hx1, hcell, hdv, hbl, hdr, hnn⟩ := hv.at (i := i) (by omega)
  obtain ⟨Ad, cd, hdv0, hd1, hd2, _⟩ := hdv.isB
  simp only at hdv0 hbl hdr hnn
  subst hdv0
  subst hA1
  refine wp_skip ?_
  refine tN (hKq6 _ _ ?_)
  refine wK fun Kq7 hKq7 => ?_
  refine wp_block ?_
  refine wK fun Kq8 hKq8 => ?_
  refine wR ?_
  refine wg hF rfl rfl rfl (gv_indexSl rfl u44 z55 (hF.t rfl) (hF.t rfl) (by omega)) fun a hF => ?_
  refine wg hF rfl rfl rfl (gv_loadAgg (vs := [.int .i64 kd, .slice Ad bl.length cd, sV dr, .int .i64 nn]) rfl u55 rfl (z55.trans (congrArg some (by rfl))) (hF.t rfl) (fun j u hu => cell_ext (hcell j u hu) (hS.toExt nw_nil))) fun a hF => ?_
  refine wpList_stp (stp_alloc hF (wanted_none rfl) rfl rfl rfl Tryd.zv55 rfl hS fun cx a w hF hS => ?_)
  refine wpList_stp (stp_storeAll hF (wanted_none rfl) rfl rfl (z55.trans (congrArg some (by rfl))) (hF.t rfl) (hF.t rfl) (cells_one (x := ⟨kd, .slice Ad bl.length cd, bl, dr, nn⟩) hdv) hS (k := 0) rfl (by rfl) fun w hS => ?_)
  refine wN ?_
  refine tN (hKq8 _ _ ?_)
  refine wK fun Kq9 hKq9 => ?_
  refine wR ?_
  refine wg hF rfl rfl rfl (gv_move rfl (hF.t rfl)) fun a hF => ?_
  refine wg hF rfl rfl rfl (gv_field (r := 1) rfl u55 rfl rfl z22 (by decide) (hF.t rfl)) fun a hF => ?_
  refine wg hF rfl rfl rfl (gv_load rfl u22 rfl (hF.t rfl) (cell_ix (j := 1) (hS.cell (k := 0) rfl (rfl)) (by omega))) fun a hF => ?_
  refine wg hF rfl rfl rfl (gv_len rfl u22 (hF.t rfl)) fun a hF => ?_
  refine wg hF rfl rfl rfl (gv_field (r := 2) rfl u55 rfl rfl z9 (by decide) (hF.t rfl)) fun a hF => ?_
  refine wg hF rfl rfl rfl (gv_load rfl u9 rfl (hF.t rfl) (cell_ix (j := 2) (hS.cell (k := 0) rfl (rfl)) (by omega))) fun a hF => ?_
  refine wg hF rfl rfl rfl (gv_lenS7 rfl u9 (hF.t rfl)) fun a hF => ?_
  refine wg hF rfl rfl rfl (gv_nadd rfl (hF.t rfl) (hF.t rfl) (by omega)) fun a hF => ?_
  refine wg hF rfl rfl rfl (gv_nquo (n := 50) rfl (hF.t rfl) rfl (by omega) (by omega)) fun a hF => ?_
  refine wg hF rfl rfl rfl (gv_nadd (m := 1) rfl rfl (hF.t rfl) (by omega)) fun a hF => ?_
  refine wg hF rfl rfl rfl (gv_nadd rfl (hF.t rfl) (hF.t rfl) (by omega)) fun a hF => ?_
  rw [← lightN_succ hx1] at hF
  refine wg hF rfl rfl rfl (gv_assign rfl (hF.t rfl)) fun a hF => ?_
  refine wN ?_
  refine tN (hKq9 _ _ ?_)
  refine wK fun Kq10 hKq10 => ?_
  refine wR ?_
  refine wg hF rfl rfl rfl (gv_move rfl (hF.t rfl)) fun a hF => ?_
  refine wg hF rfl rfl rfl (gv_gtr rfl (hF.t rfl) (ev_const _ _)) fun a hF => ?_
  refine wN ?_
  refine tN (hKq10 _ _ ?_)
  refine cond_dec (hF.t rfl) (fun h24 => ?_) (fun h24 => ?_)
  ·
   refine wK fun Kq11 hKq11 => ?_
   refine wR ?_
   refine wg hF rfl rfl rfl (gv_assign rfl (ev_const _ _)) fun a hF => ?_
   refine wN ?_
   refine tN (hKq11 _ _ ?_)
   refine wp_ret ?_
   refine block_ret ?_
   refine then_ret ?_
   refine then_ret ?_
   refine block_ret ?_
   refine then_ret ?_
   refine ret1 (fn := Tryd.f22) (t := 2) hF rfl rfl ?_
   have hm := lightN_mono cs (show i + 1 ≤ cs.length by omega)
   exact ⟨by rw [decide_eq_false (by omega)], hS.toExt (nw_cons rfl nw_nil)⟩
  ·
   refine wp_skip ?_
   refine block_normal ?_
   refine tN (hKq7 _ _ ?_)
   refine wR ?_
   refine wg hF rfl rfl rfl (gv_nadd (n := 1) rfl (hF.t rfl) rfl (by omega)) fun a hF => ?_
   refine wg hF rfl rfl rfl (gv_move rfl (hF.t rfl)) fun a hF => ?_
   refine wN ?_
   refine then_normal ?_
   exact ⟨n - 1, by omega, i + 1, by omega, by omega, by omega, hF.sub ⟨rfl, rfl, rfl, rfl, trivial⟩, hS.drop rfl⟩
 ·
  refine wp_exit ?_
  refine then_exit ?_
  refine then_exit ?_
  refine block_exit ?_
  refine tN (hKq3 _ _ ?_)
  refine wK fun Kq12 hKq12 => ?_
  refine wR ?_
  refine wg hF rfl rfl rfl (gv_assign rfl (ev_const _ _)) fun a hF => ?_
  refine wN ?_
  refine tN (hKq12 _ _ ?_)
  refine wp_ret ?_
  refine ret1 (fn := Tryd.f22) (t := 2) hF rfl rfl ?_
  obtain rfl : i = cs.length := by omega
  exact ⟨by rw [decide_eq_true hli], hS.toExt nw_nil⟩
end Go.Proofs.YtfhalnobaeogkaaDoor
set_option linter.unusedVariables false
set_option linter.unusedSimpArgs false
namespace Go.Proofs.YtfhalnobaeogkaaDoor
open Go Go.RowKit Go.Fw
instance : Inhabited CallE := ⟨⟨0, undef, [], [], 0⟩⟩
theorem calls_field {j : Nat} {f : Field} {d0 d1 d2 d3 : Field} (h : (#[d0, d1, d2, d3] : Array Field)[j]? = some f) : (j = 0 ∧ f = d0) ∨ (j = 1 ∧ f = d1) ∨ (j = 2 ∧ f = d2) ∨ (j = 3 ∧ f = d3) := by
 match j, h with
 | 0, h => exact .inl ⟨rfl, by simpa using h.symm⟩
 | 1, h => exact .inr (.inl ⟨rfl, by simpa using h.symm⟩)
 | 2, h => exact .inr (.inr (.inl ⟨rfl, by simpa using h.symm⟩))
 | 3, h => exact .inr (.inr (.inr ⟨rfl, by simpa using h.symm⟩))
 | j + 4, h => simp at h
theorem rd_calls {H : Type} {enc : TypeId × Value → H} {w : World} {base : Nat} {held : Bool} {A : Option Addr} {len cap : Nat} {d : DataW H} {p : List MemPlace} (h : DataW.Trod enc Tryd.prog w base (fun _ => true) held 44 (.slice A len cap) d p) (hs : ∀ n ∈ d.weights Tryd.prog 44, n ≤ reachBytes) : ∃ cs, CRd w (.slice A len cap) cs := by
 obtain ⟨h1, h2, h3⟩ := open_structs u44 u55 (k := 4) (by kernel_rfl) rfl (by decide) (fun j f hf => by
  rcases calls_field hf with ⟨rfl, rfl⟩ | ⟨rfl, rfl⟩ | ⟨rfl, rfl⟩ | ⟨rfl, rfl⟩ <;> exact ⟨rfl, by kernel_rfl⟩) h
 have hmax : maxLen = 9223372036854775807 := rfl
 by_cases hl : len = 0
 ·
  subst hl
  exact ⟨[], ⟨A, cap, rfl, fun h => absurd h (by simp)⟩, (fun x hx => by cases hx), by simp⟩
 ·
  obtain ⟨b, o, rfl, hf⟩ := h3 (by omega)
  obtain ⟨C, hC⟩ := Deep.choose_lt (α := CallE) (n := len) (p := fun i x => (∀ j u, x.cells[j]? = some u → w.cell? ⟨b, o + i * 4 + j, none⟩ = some u) ∧ Rd w x.dv (x.bl.map vB) ∧ x.bl.length ≤ 140737488351232 ∧ x.dr.length ≤ 140737488351232 ∧ (-9223372036854775808 ≤ x.n ∧ x.n ≤ 9223372036854775807)) (fun i hi => by
   obtain ⟨v0, f0⟩ := hf i hi 0 _ rfl
   obtain ⟨v1, f1⟩ := hf i hi 1 _ rfl
   obtain ⟨v2, f2⟩ := hf i hi 2 _ rfl
   obtain ⟨v3, f3⟩ := hf i hi 3 _ rfl
   obtain ⟨kd, rfl, _⟩ := f0.int u3
   obtain ⟨_, bl, hr, hb⟩ := f1.bytes u22 u5 (by kernel_rfl) (by kernel_rfl) hs
   obtain ⟨dr, rfl, hd⟩ := f2.str u9 hs
   obtain ⟨nn, rfl, hn⟩ := f3.int u3
   refine ⟨⟨kd, v1, bl, dr, nn⟩, fun j u hu => ?_, hr, hb, hd, hn⟩
   match j, hu with
   | 0, hu => simp only [CallE.cells, List.getElem?_cons_zero, Option.some.injEq] at hu; subst hu; exact f0.cell
   | 1, hu => simp only [CallE.cells, List.getElem?_cons_succ, List.getElem?_cons_zero, Option.some.injEq] at hu; subst hu; exact f1.cell
   | 2, hu => simp only [CallE.cells, List.getElem?_cons_succ, List.getElem?_cons_zero, Option.some.injEq] at hu; subst hu; exact f2.cell
   | 3, hu => simp only [CallE.cells, List.getElem?_cons_succ, List.getElem?_cons_zero, Option.some.injEq] at hu; subst hu; exact f3.cell
   | j + 4, hu => simp [CallE.cells] at hu)
  have hget : ∀ i x, ((List.range len).map C)[i]? = some x → i < len ∧ x = C i := fun i x hx => by
   rw [List.getElem?_map] at hx
   obtain ⟨q, hq, rfl⟩ := Option.map_eq_some_iff.1 hx
   have hq1 := List.getElem?_eq_some_iff.1 hq
   have hlt : i < len := by simpa using hq1.1
   have : q = i := by have := hq1.2; simpa using this.symm
   exact ⟨hlt, by rw [this]⟩
  refine ⟨(List.range len).map C, ⟨_, cap, by simp, fun _ => ⟨b, o, rfl, fun i x hx => ?_⟩⟩, fun x hx => ?_, by simp; omega⟩
  ·
   obtain ⟨hlt, rfl⟩ := hget i x hx
   exact (hC i hlt).1
  ·
   obtain ⟨i, hi⟩ := List.getElem?_of_mem hx
   obtain ⟨hlt, rfl⟩ := hget i x hi
   exact (hC i hlt).2
end Go.Proofs.YtfhalnobaeogkaaDoor
set_option linter.unusedVariables false
set_option linter.unusedSimpArgs false
namespace Go.Fw
open Go Go.RowKit
section
variable {P : Program} {ops : Array Oper} {Q : Exit → Act → World → Prop} {N : Nat} {a : Act} {w w0 : World} {m : List (Nat × Value)} {o : Oper}
theorem eqGuard_bool (op : BinOp) (t : TypeId) (x y : Operand) (p q : Bool) (w : World) : (eqGuard op t x y (.bool p) (.bool q)).run P w = .ok () w := by
 unfold eqGuard; split <;> rfl
theorem gv_boolEql {x y : Operand} {t t' : TypeId} {p q : Bool} (ho : o.op = .binOp .eql t x y t') (ht : P.underlying t = some .bool) (hx : a.eval x = .bool p) (hy : a.eval y = .bool q) : Gv P o a w (.bool (decide (p = q))) := by
 have he : (Op.equal t (.bool p) (.bool q)).run P w = .ok (p == q) w := by
  show (Op.equalIn (9999 + 1) t (.bool p) (.bool q)).run P w = _
  unfold Op.equalIn
  simp [run_und ht]
 unfold Gv execOp; rw [ho]
 simp only [hx, hy, binOp, Sem.run_bind, eqGuard_bool, Result.andThen_ok, he, Sem.run_pure]
 cases p <;> cases q <;> rfl
theorem gv_boolNeq {x y : Operand} {t t' : TypeId} {p q : Bool} (ho : o.op = .binOp .neq t x y t') (ht : P.underlying t = some .bool) (hx : a.eval x = .bool p) (hy : a.eval y = .bool q) : Gv P o a w (.bool (decide (p ≠ q))) := by
 have he : (Op.equal t (.bool p) (.bool q)).run P w = .ok (p == q) w := by
  show (Op.equalIn (9999 + 1) t (.bool p) (.bool q)).run P w = _
  unfold Op.equalIn
  simp [run_und ht]
 unfold Gv execOp; rw [ho]
 simp only [hx, hy, binOp, Sem.run_bind, eqGuard_bool, Result.andThen_ok, he, Sem.run_pure]
 cases p <;> cases q <;> rfl
end
end Go.Fw
set_option linter.unusedVariables false
set_option linter.unusedSimpArgs false
namespace Go.Fw
open Go Go.RowKit
section
variable {P : Program} {N : Nat} {a : Act} {w w0 : World} {m : List (Nat × Value)} {H : List Ent} {o : Oper} {ops : Array Oper} {K : Act → World → Prop} {Q : Exit → Act → World → Prop} {x y : Operand} {t t' u e : TypeId}
theorem run_appendS {ty : TypeId} {z : Value} (ht : P.underlying t = some (.slice e)) (hu : P.underlying u = some .string) (hy : Ty P e z 1 1) (hzc : z.cells.size = 1) {ob : Option Nat} {l ml : List UInt8} {pad : List Value} (hS : St w0 w H) {k : Nat} (hk : H[k]? = some ⟨true, ob, blk e (l.map vB ++ pad)⟩)
  (hob : ob = none → l = [] ∧ pad = []) (hcap : l.length + pad.length ≤ 9223372036854775807) (hn : l.length + ml.length ≤ 140737488355328) :
  ∃ ob' pad' w', (Builtin.append_ #[t, u] ty #[ownV ob l.length (l.length + pad.length), sV ml]).run P w = .ok (ownV ob' (l ++ ml).length ((l ++ ml).length + pad'.length)) w' ∧
   (ob' = none → l ++ ml = [] ∧ pad' = []) ∧ (l ++ ml).length + pad'.length ≤ 9223372036854775807 ∧ St w0 w' (H.set k ⟨true, ob', blk e ((l ++ ml).map vB ++ pad')⟩) := by
 obtain ⟨i, hi, h2, h3, h4⟩ := hy.get
 have hsz := sV_size ml
 have hlen : (l ++ ml).length = l.length + ml.length := List.length_append
 have htk : List.take ml.length (List.map (fun b : UInt8 => Value.int IntKind.u8 (b.toNat : Int)) ml) = ml.map vB := List.take_of_length_le (by simp)
 by_cases hroom : ml.length ≤ pad.length
 ·
  have hneed : l.length + ml.length ≤ l.length + pad.length := by omega
  cases ob with
  | none =>
   obtain ⟨rfl, rfl⟩ := hob rfl
   have hm0 : ml = [] := List.length_eq_zero_iff.1 (by simpa using hroom)
   subst hm0
   refine ⟨none, [], w, ?_, fun _ => ⟨rfl, rfl⟩, by simp, by rw [show ([] : List UInt8) ++ [] = [] from rfl, set_self hk]; exact hS⟩
   simp [ownV, sV, Builtin.append_, run_underlying ht, run_underlying hu, sizeOf, typeInfo, hi, Builtin.lenOf, ByteArray.size, h3, Builtin.firstCells]
  | some b =>
   have hb := hS.has _ (List.mem_of_getElem? hk) b rfl
   have hst := run_storeCells_at P b l.length e (ml.map vB) 0 (l.map vB ++ pad).toArray w hb (by simp; omega) (one_B ml)
   simp only [Nat.add_zero] at hst
   refine ⟨some b, pad.drop ml.length, w.setRow b ((l ++ ml).map vB ++ pad.drop ml.length).toArray, ?_, (fun h => by cases h), (by rw [hlen, List.length_drop]; omega), hS.setRow hk⟩
   have e1 : ((l.map vB ++ pad).toArray.toList.take l.length ++ ml.map vB ++ (l.map vB ++ pad).toArray.toList.drop (l.length + (ml.map vB).length)).toArray = ((l ++ ml).map vB ++ pad.drop ml.length).toArray := by
    congr 1
    simp [List.take_append, List.drop_append, List.drop_eq_nil_of_le]
   rw [e1] at hst
   have hval : (l ++ ml).length + (pad.drop ml.length).length = l.length + pad.length := by rw [hlen, List.length_drop]; omega
   simp only [hval]
   simp [ownV, sV, Builtin.append_, run_underlying ht, run_underlying hu, sizeOf, typeInfo, hi, Builtin.lenOf, hsz, h3, hroom, Builtin.firstCells, htk, add_lit, hst, hlen]
 ·
  have hm0 : 0 < ml.length := by omega
  have hg : l.length + pad.length < l.length + ml.length := by omega
  have hge := grownCap_ge w (l.length + ml.length) (l.length + pad.length) e
  have hle := grownCap_le_maxLen w (l.length + ml.length) (l.length + pad.length) e (by simp only [maxLen]; omega)
  obtain ⟨Z, hZ⟩ : ∃ Z : Array Value, Builtin.zeroCells z.cells (grownCap w (l.length + ml.length) (l.length + pad.length) e - (l.length + ml.length)) = Z := ⟨_, rfl⟩
  have hZl : Z.toList.length = grownCap w (l.length + ml.length) (l.length + pad.length) e - (l.length + ml.length) := by rw [← hZ, Array.length_toList, size_zeroCells, hzc]; omega
  have hval : (l ++ ml).length + Z.toList.length = grownCap w (l.length + ml.length) (l.length + pad.length) e := by rw [hlen, hZl]; omega
  have hrun : (Builtin.append_ #[t, u] ty #[ownV ob l.length (l.length + pad.length), sV ml]).run P w = .ok (.slice (some ⟨w.heap.size, 0, none⟩) (l.length + ml.length) (grownCap w (l.length + ml.length) (l.length + pad.length) e)) (w.drew.alloc (.cells ((l ++ ml).map vB ++ Z.toList).toArray e)) := by
   have harr : ((l.map vB).toArray ++ (ml.map vB).toArray ++ Z) = ((l ++ ml).map vB ++ Z.toList).toArray := by apply Array.ext'; simp
   cases ob with
   | none =>
    obtain ⟨rfl, rfl⟩ := hob rfl
    have hr := run_append_nil_string (P := P) w t u ty e i z ht hu hi h2 ⟨ml.toArray⟩ (by rw [hsz]; exact hm0) (by rw [hsz]; omega) (by rw [hsz, h4]; omega)
    rw [hsz] at hr
    simp only [List.length_nil, Nat.zero_add] at hZ ⊢
    rw [hZ] at hr
    refine hr.trans ?_
    congr 3
    apply Array.ext'
    simp [vB]
   | some b =>
    have hn1 : ¬ (l.length + ml.length ≤ l.length + pad.length) := by omega
    have h63' : ¬ (9223372036854775807 < ((l.length : Int) + (ml.length : Int))) := by omega
    have hfit := growslice_fits (bytes := 1) hg (by omega)
    have h48' : ¬ (281474976710656 < Builtin.nextslicecap (l.length + ml.length) (l.length + pad.length)) := by omega
    have hfo := run_firstCells_some (P := P) w.drew 1 l.length ⟨b, 0, none⟩ l.length (l.length + pad.length) (l.map vB) (by simp) (fun j v hv => by
     rw [add_lit, Nat.zero_add]
     have := hS.cell hk (i := j) (v := v) (by rw [List.getElem?_append_left (List.getElem?_eq_some_iff.1 hv).1]; exact hv)
     simpa using this)
    simp only [grownCap] at hZ ⊢
    have hfo' : (loadCells ⟨b, 0, none⟩ l.length).run P w.drew = .ok (l.map vB).toArray w.drew := by simpa [Builtin.firstCells] using hfo
    have harr' : (l.map vB).toArray ++ ((ml.map vB).toArray ++ Z) = (l.map vB ++ (ml.map vB ++ Z.toList)).toArray := by apply Array.ext'; simp
    simp [ownV, sV, Builtin.append_, run_underlying ht, run_underlying hu, sizeOf, typeInfo, zeroValue, hi, h2, h3, h4, Builtin.lenOf, hsz, hroom, h63', h48', Question.forced, hfo', Builtin.firstCells, htk, newRow, hZ, harr']
  refine ⟨some w.heap.size, Z.toList, _, (by rw [hval, hlen]; exact hrun), (fun h => by cases h), (by rw [hval]; simpa [maxLen] using hle), ?_⟩
  refine hS.swap hk rfl (w' := w.drew.alloc _) ⟨rfl, rfl, rfl, by simp, fun j hj => heap_alloc_old w.drew _ hj⟩ (some w.heap.size) _ fun b' hb' => ?_
  injection hb' with hb'
  subst hb'
  exact ⟨Nat.le_refl _, (heap_alloc_new w.drew _).trans (by simp [blk])⟩
end
end Go.Fw
set_option linter.unusedVariables false
set_option linter.unusedSimpArgs false
namespace Go.Fw
open Go Go.RowKit
section
variable {P : Program} {N : Nat} {a : Act} {w w0 : World} {m : List (Nat × Value)} {H : List Ent} {o : Oper} {ops : Array Oper} {K : Act → World → Prop} {Q : Exit → Act → World → Prop} {x y : Operand} {t e ti us : TypeId}
theorem zeroCells_u8 (n : Nat) : Builtin.zeroCells #[.int .u8 0] n = ((List.replicate n (0 : UInt8)).map vB).toArray := by
 apply Array.ext'
 simp only [Builtin.zeroCells, Array.toList_map, List.size_toArray, List.length_cons, List.length_nil, Nat.mul_one]
 apply List.ext_getElem
 ·
  simp
 ·
  intro i h1 h2
  simp [vB, Nat.mod_one]
theorem run_appendZ {ty : TypeId} (ht : P.underlying t = some (.slice e)) (hti : P.underlying ti = some (.int .i64)) (hu : P.underlying us = some .string) (hy : Ty P e (.int .u8 0) 1 1) (A : Option Addr) (len cap n : Nat) (hn0 : n ≠ 0) (hc : len ≤ cap) (hn : len + n ≤ 140737488355328) (w : World) :
  (Builtin.append_ #[t, ti] ty #[.slice A len cap, vI n]).run P w = (Builtin.append_ #[t, us] ty #[.slice A len cap, sV (List.replicate n 0)]).run P w := by
 obtain ⟨i, hi, h2, h3, h4⟩ := hy.get
 have hw : IntKind.i64.wrap (n : Int) = n := wrap_i64_id (by omega) (by omega)
 have hz := zeroCells_u8 n
 have hml : (List.replicate n (0 : UInt8)).length = n := List.length_replicate
 generalize List.replicate n (0 : UInt8) = ml at hz hml ⊢
 have hsz := sV_size ml
 rw [hml] at hsz
 have htk : List.take n (List.map (fun b : UInt8 => Value.int IntKind.u8 (b.toNat : Int)) ml) = ml.map vB := List.take_of_length_le (by simp [hml])
 have h0 : ¬ ((n : Int) < 0) := by omega
 have h48 : ¬ (281474976710656 < (n : Int)) := by omega
 have hsz' : (ByteArray.mk ml.toArray).size = n := by simpa [sV] using hsz
 have hzc : (Value.int IntKind.u8 0).cells = #[.int .u8 0] := rfl
 by_cases hroom : len + n ≤ cap
 ·
  cases A <;> simp [sV, vI, asInt, asIntOf, hw, h0, h48, Builtin.append_, run_underlying ht, run_underlying hti, run_underlying hu, sizeOf, typeInfo, hi, zeroValue, h2, h3, h4, Builtin.lenOf, hroom, Builtin.firstCells, hsz', hn0, hz, hzc, htk]
 ·
  have hfit := growslice_fits (bytes := 1) (show cap < len + n by omega) (by omega)
  have hn1 : ¬ 281474976710656 < Builtin.nextslicecap (len + n) cap := by omega
  have h63 : ¬ (9223372036854775807 < (len : Int) + (n : Int)) := by omega
  cases A <;> simp [sV, vI, asInt, asIntOf, hw, h0, h48, Builtin.append_, run_underlying ht, run_underlying hti, run_underlying hu, sizeOf, typeInfo, hi, zeroValue, h2, h3, h4, Builtin.lenOf, hroom, Builtin.firstCells, hsz', hn0, hz, hzc, htk, hn1, h63]
theorem stp_appZ {ob : Option Nat} {l : List UInt8} {n : Nat} {pad : List Value} {d k : Nat} (hF : Fr N a m) (hw : Region.wanted o (yielded ops a.tmps) = true) (hd : o.dst = some d) (hN : Nat.blt d N = true)
  (ho : o.op = .call { callee := .builtin .append, args := #[x, y], argTypes := #[t, ti] }) (ht : P.underlying t = some (.slice e)) (hti : P.underlying ti = some (.int .i64)) (hu : P.underlying us = some .string) (hty : Ty P e (.int .u8 0) 1 1)
  (hx : a.eval x = ownV ob l.length (l.length + pad.length)) (hy : a.eval y = vI n) (hn0 : n ≠ 0) (hS : St w0 w H) (hk : H[k]? = some ⟨true, ob, blk e (l.map vB ++ pad)⟩) (hob : ob = none → l = [] ∧ pad = []) (hcap : l.length + pad.length ≤ 9223372036854775807)
  (hn : l.length + n ≤ 140737488355328)
  (h : ∀ ob' pad' a' w', Fr N a' ((d, ownV ob' (l ++ List.replicate n 0).length ((l ++ List.replicate n 0).length + pad'.length)) :: m) → (ob' = none → l ++ List.replicate n 0 = [] ∧ pad' = []) → (l ++ List.replicate n 0).length + pad'.length ≤ 9223372036854775807 →
   St w0 w' (H.set k ⟨true, ob', blk e ((l ++ List.replicate n 0).map vB ++ pad')⟩) → K a' w') : Stp P ops Q o a w K := by
 obtain ⟨ob', pad', w', hrun, h2, h3, h4⟩ := run_appendS (ty := o.type) (ml := List.replicate n 0) ht hu hty rfl hS hk hob hcap (by simpa using hn)
 refine stp_val hF hw hd hN ?_ fun a' hF' => h ob' pad' a' w' hF' h2 h3 h4
 have hr : (Builtin.append_ #[t, ti] o.type #[ownV ob l.length (l.length + pad.length), vI n]).run P w = (Builtin.append_ #[t, us] o.type #[ownV ob l.length (l.length + pad.length), sV (List.replicate n 0)]).run P w := by
  cases ob with
  | none => obtain ⟨rfl, rfl⟩ := hob rfl; exact run_appendZ ht hti hu hty none _ _ n hn0 (Nat.le_refl 0) hn w
  | some b => exact run_appendZ ht hti hu hty _ _ _ n hn0 (by omega) hn w
 unfold execOp
 rw [ho]
 simp [resolve, invoke, builtin, hx, hy, hr, hrun]
variable {z : Value}
end
end Go.Fw
set_option linter.unusedVariables false
set_option linter.unusedSimpArgs false
namespace Go.Fw
open Go Go.RowKit
section
variable {P : Program} {ops : Array Oper} {Q : Exit → Act → World → Prop}
structure WI where
 ok : World → Prop
 wit : World
 has : ok wit
def DV (P : Program) (w0 : WI) (o : Oper) (a : Act) (v : Value) : Prop :=
 ∀ w, w0.ok w → (execOp a.eval o).run P w = .ok (.value v) w ∨ ((execOp a.eval o).run P w = .ok .skip w ∧ v = undef)
theorem DV.uniq {w0 : WI} {o : Oper} {a : Act} {v v' : Value} (h : DV P w0 o a v) (h' : DV P w0 o a v') : v = v' := by
 rcases h w0.wit w0.has with h1 | ⟨h1, h2⟩ <;> rcases h' w0.wit w0.has with h3 | ⟨h3, h4⟩
 ·
  rw [h1] at h3; injection h3 with h3; injection h3
 ·
  rw [h1] at h3; injection h3 with h3; cases h3
 ·
  rw [h1] at h3; injection h3 with h3; cases h3
 ·
  rw [h2, h4]
theorem DV.same {w0 : WI} {o : Oper} {a b : Act} {v : Value} (hs : ∀ cs b, o.op ≠ .select cs b) (h : DV P w0 o a v) (he : ∀ t ∈ o.looksAt ops, slot a t = slot b t) : DV P w0 o b v := by
 intro w hw
 have := h w hw
 rwa [execOp_congr o hs (eval_same he)] at this
def QV (P : Program) (ops : Array Oper) (w0 : WI) (o : Oper) (a : Act) (v : Value) : Prop :=
 (Region.wanted o (yielded ops a.tmps) = true ∧ DV P w0 o a v) ∨ (Region.wanted o (yielded ops a.tmps) = false ∧ v = undef)
theorem QV.uniq {w0 : WI} {o : Oper} {a : Act} {v v' : Value} (h : QV P ops w0 o a v) (h' : QV P ops w0 o a v') : v = v' := by
 rcases h with ⟨h1, h2⟩ | ⟨h1, h2⟩ <;> rcases h' with ⟨h3, h4⟩ | ⟨h3, h4⟩
 ·
  exact h2.uniq h4
 ·
  rw [h1] at h3; cases h3
 ·
  rw [h1] at h3; cases h3
 ·
  rw [h2, h4]
theorem QV.same {w0 : WI} {o : Oper} {a b : Act} {v : Value} (hs : ∀ cs b, o.op ≠ .select cs b) (hz : a.tmps.size = b.tmps.size) (h : QV P ops w0 o a v) (he : ∀ t ∈ o.looksAt ops, slot a t = slot b t) : QV P ops w0 o b v := by
 have hw := wanted_same (o := o) hz he
 rcases h with ⟨h1, h2⟩ | ⟨h1, h2⟩
 ·
  exact .inl ⟨hw ▸ h1, h2.same hs he⟩
 ·
  exact .inr ⟨hw ▸ h1, h2⟩
abbrev QF : Exit → Act → World → Prop := fun _ _ _ => False
def swalk (P : Program) (ops : Array Oper) (w0 : WI) (E : List Nat) (K : Act → World → Prop) : Nat → List Oper → Act → World → Prop
 | _, [], a, w => K a w
 | i, o :: rest, a, w =>
  if i ∈ E then Stp P ops QF o a w (fun a' w' => w0.ok w' ∧ swalk P ops w0 E K (i + 1) rest a' w')
  else ∃ v, QV P ops w0 o a v ∧ swalk P ops w0 E K (i + 1) rest (a.put o.dst v) w
def pathB (ops : Array Oper) (m : Nat) : Nat → List Nat → Bool
 | _, [] => true
 | j, x :: c => decide (m ≤ x) && (waits ops j x && pathB ops m x c)
def lastP : Nat → List Nat → Nat
 | j, [] => j
 | _, x :: c => lastP x c
theorem path_listed {m : Nat} {listed : Array Bool} (hcl : ∀ j o, ops[j]? = some o → m ≤ j → listed.getD j false = true → ∀ e ∈ o.after, Region.binds .any e = true → listed.getD e.on false = true) :
  ∀ (c : List Nat) (j : Nat) (o : Oper), ops[j]? = some o → (∀ e ∈ o.after, Region.binds .any e = true → listed.getD e.on false = true) → pathB ops m j c = true → lastP j c ≠ j → listed.getD (lastP j c) false = true
 | [], j, o, _, _, _, hne => absurd rfl hne
 | x :: c, j, o, ho, hdep, hp, hne => by
  simp only [pathB, Bool.and_eq_true, decide_eq_true_eq] at hp
  obtain ⟨hm, hw, hp⟩ := hp
  obtain ⟨e, he, hb, hon⟩ := waits_spec ho hw
  have hl := hdep e he hb
  rw [hon] at hl
  rw [lastP]
  by_cases hx : lastP x c = x
  ·
   rw [hx]; exact hl
  ·
   cases hq : ops[x]? with
   | none =>
    cases c with
    | nil => exact absurd rfl hx
    | cons y c => simp [pathB, waits, hq] at hp
   | some q => exact path_listed hcl c x q hq (hcl x q hq hm hl) hp hx
def chainB (ops : Array Oper) (m n : Nat) (E : List Nat) (C : List (List Nat)) : Bool :=
 E.all fun j => E.all fun i => !(decide (m ≤ i) && decide (i < j) && decide (j < n)) || C.any fun c => pathB ops m j c && E.any fun k => decide (i ≤ k) && decide (k < j) && (lastP j c == k)
theorem chainB_spec {m n : Nat} {E : List Nat} {C : List (List Nat)} (h : chainB ops m n E C = true) {i j : Nat} (hi : i ∈ E) (hj : j ∈ E) (hm : m ≤ i) (hij : i < j) (hn : j < n) : ∃ k ∈ E, ∃ c, i ≤ k ∧ k < j ∧ pathB ops m j c = true ∧ lastP j c = k := by
 have := List.all_eq_true.1 (List.all_eq_true.1 h j hj) i hi
 simp only [hm, hij, hn, decide_true, Bool.and_self, Bool.not_true, Bool.false_or, List.any_eq_true, Bool.and_eq_true, decide_eq_true_eq, beq_iff_eq] at this
 obtain ⟨c, _, h1, k, hk, ⟨h2, h3⟩, h4⟩ := this
 exact ⟨k, hk, c, h2, h3, h1, h4⟩
theorem stp_move {o : Oper} {a b : Act} {w : World} {K : Act → World → Prop} (hs : ∀ cs b, o.op ≠ .select cs b) (hz : a.tmps.size = b.tmps.size) (hd : a.defers = b.defers) (he : ∀ t ∈ o.looksAt ops, slot a t = slot b t) (h : Stp P ops QF o a w K) :
  Stp P ops Q o b w (fun b' w' => ∃ v ds, b' = ({ b with defers := ds } : Act).put o.dst v ∧ K (({ a with defers := ds } : Act).put o.dst v) w') := by
 have hw := wanted_same (o := o) hz he
 have hx := execOp_congr o hs (eval_same (ops := ops) he)
 unfold Stp at h ⊢
 rw [hw] at h
 have hb : b = ({ b with defers := b.defers } : Act) := rfl
 have ha : a = ({ a with defers := b.defers } : Act) := by rw [← hd]
 split
 ·
  rename_i hwt
  rw [if_pos hwt] at h
  refine .inl ?_
  replace h : o.wp P a w K QF := h.elim id fun ⟨_, _, _, h⟩ => h.elim
  unfold Oper.wp at h ⊢
  rw [hx] at h
  generalize (execOp b.eval o).run P w = r at h ⊢
  cases r with
  | ok n w' =>
   cases n <;> simp only [Oper.upon] at h ⊢ <;> try exact h.elim
   case value v => exact ⟨v, b.defers, rfl, by rw [← ha]; exact h⟩
   case skip => exact ⟨undef, b.defers, rfl, by rw [← ha]; exact h⟩
   case defer d => exact ⟨undef, d :: b.defers, rfl, by rw [hd] at h; exact h⟩
   case enter f args =>
    refine Calls.mono h fun e w'' he => ?_
    cases e with
    | returned v => exact ⟨v, b.defers, rfl, by rw [← ha]; exact he⟩
    | panicked c => exact he.elim
    | outgrown => obtain ⟨_, _, h⟩ := he; exact h.elim
   case row row args => exact Rows.mono h fun v w'' he => ⟨v, b.defers, rfl, by rw [← ha]; exact he⟩
  | halt x w' =>
   cases x <;> simp only [Oper.upon] at h ⊢ <;> exact h.elim
 ·
  rename_i hwf
  rw [if_neg hwf] at h
  exact ⟨undef, b.defers, rfl, by rw [← ha]; exact h⟩
theorem stp_some {o : Oper} {a : Act} {w : World} {K : Act → World → Prop} (h : Stp P ops QF o a w K) : ∃ v ds w', K (({ a with defers := ds } : Act).put o.dst v) w' := by
 unfold Stp at h
 split at h
 ·
  replace h : o.wp P a w K QF := h.elim id fun ⟨_, _, _, h⟩ => h.elim
  unfold Oper.wp at h
  generalize (execOp a.eval o).run P w = r at h
  cases r with
  | ok n w' =>
   cases n <;> simp only [Oper.upon] at h <;> try exact h.elim
   case value v => exact ⟨v, a.defers, w', h⟩
   case skip => exact ⟨undef, a.defers, w', h⟩
   case defer d => exact ⟨undef, d :: a.defers, w', h⟩
   case enter f args =>
    obtain ⟨e, w'', fr, hR, _⟩ := h []
    cases e with
    | returned v => exact ⟨v, a.defers, w'', hR⟩
    | panicked c => exact hR.elim
    | outgrown => obtain ⟨_, _, h⟩ := hR; exact h.elim
   case row row args =>
    obtain ⟨v, w'', hR, _⟩ := h default []
    exact ⟨v, a.defers, w'', hR⟩
  | halt x w' => cases x <;> simp only [Oper.upon] at h <;> exact h.elim
 ·
  exact ⟨undef, a.defers, w, h⟩
theorem put_defers' (a : Act) (ds : List Deferred) (d : Option Tmp) (v : Value) : (({ a with defers := ds } : Act).put d v).tmps = (a.put d v).tmps ∧ (({ a with defers := ds } : Act).put d v).defers = ds := by
 cases d <;> exact ⟨rfl, rfl⟩
theorem slot_pd (a : Act) (ds : List Deferred) (d : Option Tmp) (v : Value) (t : Nat) : slot (({ a with defers := ds } : Act).put d v) t = slot (a.put d v) t := by
 unfold slot; rw [(put_defers' a ds d v).1]
variable {w0 : WI} {N m n : Nat} {E : List Nat} {K : Act → World → Prop}
structure SIn (P : Program) (ops : Array Oper) (w0 : WI) (N m n : Nat) (E : List Nat) (listed : Array Bool) (a : Act) (p : Nat) (A : Act) : Prop where
 mp : m ≤ p
 pn : p ≤ n
 sz : A.tmps.size = N
 asz : a.tmps.size = N
 df : A.defers = a.defers
 un : ∀ t, (∀ j o, m ≤ j → j < n → ops[j]? = some o → o.dst ≠ some t) → slot A t = slot a t
 eq : ∀ j o d, m ≤ j → j < p → ops[j]? = some o → o.dst = some d → listed.getD j false = true → slot a d = slot A d
 qu : ∀ j o, m ≤ j → j < p → ops[j]? = some o → listed.getD j false = false → j ∉ E ∧ ∃ v, QV P ops w0 o A v ∧ ∀ d, o.dst = some d → slot A d = v
 ea : ∀ j o, p ≤ j → j < n → ops[j]? = some o → listed.getD j false = true → j ∉ E ∧ ∃ v, QV P ops w0 o a v ∧ ∀ d, o.dst = some d → slot a d = v
theorem SIn.agree (hok : HOk ops N m n []) {listed : Array Bool} {a A : Act} {p : Nat} (I : SIn P ops w0 N m n E listed a p A) {i : Nat} {o : Oper} (hm : m ≤ i) (hn : i < n) (ho : ops[i]? = some o) (hdep : ∀ e ∈ o.after, Region.binds .any e = true → listed.getD e.on false = true)
  (hp : ∀ k, k < i → listed.getD k false = true → k < p) : ∀ t ∈ o.looksAt ops, slot A t = slot a t := by
 intro t ht
 by_cases hex : ∃ j q, m ≤ j ∧ j < n ∧ ops[j]? = some q ∧ q.dst = some t
 ·
  obtain ⟨j, q, hj, hj', hq, hd⟩ := hex
  obtain ⟨hlt, hw, _⟩ := hok.look i o j q t hm hn ho hj hj' hq hd ht
  obtain ⟨e, he, hb, hon⟩ := waits_spec ho hw
  have hl := hdep e he hb
  rw [hon] at hl
  exact (I.eq j q t hj (hp j hlt hl) hq hd hl).symm
 ·
  exact I.un t fun j q hj hj' hq hd => hex ⟨j, q, hj, hj', hq, hd⟩
theorem SIn.quiet (hok : HOk ops N m n []) {listed : Array Bool} (hcl : ∀ j o, ops[j]? = some o → m ≤ j → listed.getD j false = true → ∀ e ∈ o.after, Region.binds .any e = true → listed.getD e.on false = true) {a A : Act} {p : Nat} (I : SIn P ops w0 N m n E listed a p A) {o : Oper} (hp : p < n) (ho : ops[p]? = some o) (hE : p ∉ E) {v : Value} (hv : QV P ops w0 o A v) : SIn P ops w0 N m n E listed a (p + 1) (A.put o.dst v) := by
 have hsel := fun cs b => Region.noSelect_spec hok.nosel p o cs b ho
 have hne : ∀ j q d, m ≤ j → j < n → ops[j]? = some q → j ≠ p → q.dst = some d → slot (A.put o.dst v) d = slot A d := fun j q d hj hj' hq hjp hd =>
  slot_put_ne v (hok.once p o j q d I.mp hp ho hj hj' hq hjp hd)
 have hkeep : ∀ j q, m ≤ j → j < n → ops[j]? = some q → j ≤ p → ∀ t ∈ q.looksAt ops, slot A t = slot (A.put o.dst v) t := fun j q hj hj' hq hjp t ht =>
  (slot_put_ne v fun hd => by have := (hok.look j q p o t hj hj' hq I.mp hp ho hd ht).1; omega).symm
 have hself : ∀ d, o.dst = some d → slot (A.put o.dst v) d = v := fun d hd => by rw [hd]; exact slot_put_same v (by rw [I.sz]; exact hok.dst p o d I.mp hp ho hd)
 refine ⟨by have := I.mp; omega, hp, by rw [put_size]; exact I.sz, I.asz, by rw [put_defers]; exact I.df, fun t ht => ?_, fun j q d hj hj' hq hd hl => ?_, fun j q hj hj' hq hl => ?_, fun j q hj hj' hq hl => I.ea j q (by omega) hj' hq hl⟩
 ·
  rw [slot_put_ne v (ht p o I.mp hp ho)]; exact I.un t ht
 ·
  by_cases hjp : j = p
  ·
   subst hjp
   have : q = o := Option.some.inj (hq.symm.trans ho)
   subst this
   obtain ⟨_, v', hv', hs⟩ := I.ea j q (Nat.le_refl _) hp hq hl
   have hag := I.agree hok I.mp hp hq (hcl j q hq I.mp hl) (fun k hk _ => hk)
   rw [hself d hd, hs d hd]
   exact hv'.uniq (hv.same hsel (I.sz.trans I.asz.symm) hag)
  ·
   rw [hne j q d hj (by omega) hq hjp hd]
   exact I.eq j q d hj (by omega) hq hd hl
 ·
  by_cases hjp : j = p
  ·
   subst hjp
   have : q = o := Option.some.inj (hq.symm.trans ho)
   subst this
   exact ⟨hE, v, hv.same hsel (by rw [put_size]) (hkeep j q hj hp hq (Nat.le_refl _)), hself⟩
  ·
   obtain ⟨h1, v', h2, h3⟩ := I.qu j q hj (by omega) hq hl
   exact ⟨h1, v', h2.same (fun cs b => Region.noSelect_spec hok.nosel j q cs b hq) (by rw [put_size]) (hkeep j q hj (by omega) hq (by omega)), fun d hd => by rw [hne j q d hj (by omega) hq hjp hd]; exact h3 d hd⟩
theorem SIn.advance (hok : HOk ops N m n []) {listed : Array Bool} (hcl : ∀ j o, ops[j]? = some o → m ≤ j → listed.getD j false = true → ∀ e ∈ o.after, Region.binds .any e = true → listed.getD e.on false = true) {a : Act} {w : World} :
  ∀ (l : List Oper) (p : Nat) (A : Act), p + l.length = n → (∀ j, j < l.length → l[j]? = ops[p + j]?) → SIn P ops w0 N m n E listed a p A → swalk P ops w0 E K p l A w →
   ∃ p' l' A', p ≤ p' ∧ p' + l'.length = n ∧ (∀ j, j < l'.length → l'[j]? = ops[p' + j]?) ∧ SIn P ops w0 N m n E listed a p' A' ∧ swalk P ops w0 E K p' l' A' w ∧ (p' < n → p' ∈ E) ∧ (∀ e ∈ E, p ≤ e → p' ≤ e) := by
 intro l
 induction l with
 | nil => intro p A hl hat I h; exact ⟨p, [], A, Nat.le_refl _, hl, hat, I, h, fun hp => by simp at hl; omega, fun e _ h => h⟩
 | cons o l ih =>
  intro p A hl hat I h
  simp only [List.length_cons] at hl
  by_cases hE : p ∈ E
  ·
   exact ⟨p, o :: l, A, Nat.le_refl _, by simpa using hl, hat, I, h, fun _ => hE, fun e _ h => h⟩
  ·
   unfold swalk at h
   rw [if_neg hE] at h
   obtain ⟨v, hv, h⟩ := h
   have ho : ops[p]? = some o := by have := hat 0 (by simp); simpa using this.symm
   obtain ⟨p', l', A', h1, h2, h3, h4, h5, h6, h7⟩ := ih (p + 1) _ (by omega) (fun j hj => by
    have := hat (j + 1) (by simp only [List.length_cons]; omega)
    simpa [Nat.add_assoc, Nat.add_comm 1 j] using this) (I.quiet hok hcl (by omega) ho hE hv) h
   exact ⟨p', l', A', by omega, h2, h3, h4, h5, h6, fun e he hpe => h7 e he (by have : e ≠ p := fun h => hE (h ▸ he); omega)⟩
theorem SIn.peek (hok : HOk ops N m n []) {listed : Array Bool} (hcl : ∀ j o, ops[j]? = some o → m ≤ j → listed.getD j false = true → ∀ e ∈ o.after, Region.binds .any e = true → listed.getD e.on false = true) {a : Act} {i : Nat} {oi : Oper} (hi : i < n) (hoi : ops[i]? = some oi) (hiE : i ∉ E) (hdep : ∀ e ∈ oi.after, Region.binds .any e = true → listed.getD e.on false = true) :
  ∀ (l : List Oper) (p : Nat) (A : Act) (w : World), p ≤ i → p + l.length = n → (∀ j, j < l.length → l[j]? = ops[p + j]?) → m ≤ p → A.tmps.size = N → a.tmps.size = N →
   (∀ t, (∀ j o, m ≤ j → j < n → ops[j]? = some o → o.dst ≠ some t) → slot A t = slot a t) →
   (∀ j o d, m ≤ j → j < p → ops[j]? = some o → o.dst = some d → listed.getD j false = true → slot a d = slot A d) →
   (∀ j o, p ≤ j → j < n → ops[j]? = some o → listed.getD j false = true → j ∉ E ∧ ∃ v, QV P ops w0 o a v ∧ ∀ d, o.dst = some d → slot a d = v) →
   swalk P ops w0 E K p l A w → ∃ v, QV P ops w0 oi a v := by
 intro l
 induction l with
 | nil => intro p A w hpi hln; simp at hln; omega
 | cons o l ih =>
  intro p A w hpi hln hat hmp hsz hasz hun heq hea h
  simp only [List.length_cons] at hln
  have ho : ops[p]? = some o := by have := hat 0 (by simp); simpa using this.symm
  have hat' : ∀ j, j < l.length → l[j]? = ops[p + 1 + j]? := fun j hj => by
   have := hat (j + 1) (by simp only [List.length_cons]; omega)
   simpa [Nat.add_assoc, Nat.add_comm 1 j] using this
  have agree : ∀ {k : Nat} {q : Oper}, m ≤ k → k < n → k ≤ p → ops[k]? = some q → (∀ e ∈ q.after, Region.binds .any e = true → listed.getD e.on false = true) → ∀ t ∈ q.looksAt ops, slot A t = slot a t := by
   intro k q hmk hkn hkp hq hd t ht
   by_cases hex : ∃ j r, m ≤ j ∧ j < n ∧ ops[j]? = some r ∧ r.dst = some t
   ·
    obtain ⟨j, r, hj, hj', hr, hdt⟩ := hex
    obtain ⟨hlt, hw, _⟩ := hok.look k q j r t hmk hkn hq hj hj' hr hdt ht
    obtain ⟨e, he, hb, hon⟩ := waits_spec hq hw
    have hl := hd e he hb
    rw [hon] at hl
    exact (heq j r t hj (by omega) hr hdt hl).symm
   ·
    exact hun t fun j r hj hj' hr hdt => hex ⟨j, r, hj, hj', hr, hdt⟩
  have hnE : ∀ (v : Value) (j : Nat) (q : Oper) (d : Tmp), m ≤ j → j < n → ops[j]? = some q → j ≠ p → q.dst = some d → slot (A.put o.dst v) d = slot A d := fun v j q d hj hj' hq hjp hd =>
   slot_put_ne v (hok.once p o j q d hmp (by omega) ho hj hj' hq hjp hd)
  unfold swalk at h
  by_cases hE : p ∈ E
  ·
   rw [if_pos hE] at h
   have hpi' : p ≠ i := fun h => hiE (h ▸ hE)
   obtain ⟨v, ds, w', _, h⟩ := stp_some h
   refine ih (p + 1) _ w' (by omega) (by omega) hat' (by omega) (by rw [(put_defers' _ _ _ _).1, put_size]; exact hsz) hasz (fun t ht => ?_) (fun j q d hj hj' hq hd hl => ?_) (fun j q hj hj' hq hl => hea j q (by omega) hj' hq hl) h
   ·
    rw [slot_pd, slot_put_ne v (ht p o hmp (by omega) ho)]; exact hun t ht
   ·
    rw [slot_pd]
    by_cases hjp : j = p
    ·
     subst hjp
     exact absurd hE (hea j q (Nat.le_refl _) (by omega) hq hl).1
    ·
     rw [hnE v j q d hj (by omega) hq hjp hd]
     exact heq j q d hj (by omega) hq hd hl
  ·
   rw [if_neg hE] at h
   obtain ⟨v, hv, h⟩ := h
   by_cases hpi' : p = i
   ·
    subst hpi'
    have : oi = o := Option.some.inj (hoi.symm.trans ho)
    subst this
    exact ⟨v, hv.same (fun cs b => Region.noSelect_spec hok.nosel p oi cs b ho) (hsz.trans hasz.symm) (agree hmp hi (Nat.le_refl _) ho hdep)⟩
   ·
    refine ih (p + 1) _ w (by omega) (by omega) hat' (by omega) (by rw [put_size]; exact hsz) hasz (fun t ht => ?_) (fun j q d hj hj' hq hd hl => ?_) (fun j q hj hj' hq hl => hea j q (by omega) hj' hq hl) h
    ·
     rw [slot_put_ne v (ht p o hmp (by omega) ho)]; exact hun t ht
    ·
     by_cases hjp : j = p
     ·
      subst hjp
      have : q = o := Option.some.inj (hq.symm.trans ho)
      subst this
      obtain ⟨_, v', hv', hs⟩ := hea j q (Nat.le_refl _) (by omega) hq hl
      have hag := agree hmp (by omega) (Nat.le_refl _) hq (hcl j q hq hmp hl)
      rw [hs d hd, hd, slot_put_same v (by rw [hsz]; exact hok.dst j q d hmp (by omega) hq hd)]
      exact hv'.uniq (hv.same (fun cs b => Region.noSelect_spec hok.nosel j q cs b hq) (hsz.trans hasz.symm) hag)
     ·
      rw [hnE v j q d hj (by omega) hq hjp hd]
      exact heq j q d hj (by omega) hq hd hl
theorem SIn.took (hok : HOk ops N m n []) {listed : Array Bool} (hsz : listed.size = ops.size) (hcl : ∀ j o, ops[j]? = some o → m ≤ j → listed.getD j false = true → ∀ e ∈ o.after, Region.binds .any e = true → listed.getD e.on false = true) {a A : Act} {p i : Nat} (I : SIn P ops w0 N m n E listed a p A) {o : Oper} (hm : m ≤ i) (hn : i < n) (ho : ops[i]? = some o) (hun : listed.getD i false = false) {v : Value} (hv : QV P ops w0 o a v)
  (h1 : i < p → ∀ d, o.dst = some d → slot A d = v) (h2 : p ≤ i → i ∉ E) : SIn P ops w0 N m n E (listed.setIfInBounds i true) (a.put o.dst v) p A := by
 have hsel := fun j q (hq : ops[j]? = some q) cs b => Region.noSelect_spec hok.nosel j q cs b hq
 have hil : i < listed.size := by rw [hsz]; exact (Array.getElem?_eq_some_iff.1 ho).1
 have hset : ∀ j, (listed.setIfInBounds i true).getD j false = true → j ≠ i → listed.getD j false = true := fun j h hne => by rwa [getD_set_other (Ne.symm hne)] at h
 have hunset : ∀ j, (listed.setIfInBounds i true).getD j false = false → j ≠ i ∧ listed.getD j false = false := fun j h => by
  by_cases hj : i = j
  ·
   subst hj; rw [getD_set_self hil] at h; cases h
  ·
   exact ⟨Ne.symm hj, by rwa [getD_set_other hj] at h⟩
 have hne : ∀ j q d, m ≤ j → j < n → ops[j]? = some q → j ≠ i → q.dst = some d → slot (a.put o.dst v) d = slot a d := fun j q d hj hj' hq hji hd =>
  slot_put_ne v (hok.once i o j q d hm hn ho hj hj' hq hji hd)
 have hkeep : ∀ j q, m ≤ j → j < n → ops[j]? = some q → (listed.getD j false = true ∨ j = i) → ∀ t ∈ q.looksAt ops, slot a t = slot (a.put o.dst v) t := fun j q hj hj' hq hl t ht =>
  (slot_put_ne v fun hd => by
   obtain ⟨hlt, hw, _⟩ := hok.look j q i o t hj hj' hq hm hn ho hd ht
   rcases hl with hl | hl
   ·
    obtain ⟨e, he, hb, hon⟩ := waits_spec hq hw
    have := hcl j q hq hj hl e he hb
    rw [hon, hun] at this
    cases this
   ·
    omega).symm
 have hself : ∀ d, o.dst = some d → slot (a.put o.dst v) d = v := fun d hd => by rw [hd]; exact slot_put_same v (by rw [I.asz]; exact hok.dst i o d hm hn ho hd)
 refine ⟨I.mp, I.pn, I.sz, by rw [put_size]; exact I.asz, by rw [put_defers]; exact I.df, fun t ht => ?_, fun j q d hj hj' hq hd hl => ?_, fun j q hj hj' hq hl => ?_, fun j q hj hj' hq hl => ?_⟩
 ·
  rw [slot_put_ne v (ht i o hm hn ho)]; exact I.un t ht
 ·
  by_cases hji : j = i
  ·
   subst hji
   have : q = o := Option.some.inj (hq.symm.trans ho)
   subst this
   rw [hself d hd, h1 hj' d hd]
  ·
   rw [hne j q d hj (by have := I.pn; omega) hq hji hd]
   exact I.eq j q d hj hj' hq hd (hset j hl hji)
 ·
  exact I.qu j q hj hj' hq (hunset j hl).2
 ·
  by_cases hji : j = i
  ·
   subst hji
   have : q = o := Option.some.inj (hq.symm.trans ho)
   subst this
   exact ⟨h2 hj, v, hv.same (hsel j q hq) (by rw [put_size]) (hkeep j q hm hn hq (.inr rfl)), hself⟩
  ·
   obtain ⟨g1, v', g2, g3⟩ := I.ea j q hj hj' hq (hset j hl hji)
   have hmj : m ≤ j := Nat.le_trans I.mp hj
   exact ⟨g1, v', g2.same (hsel j q hq) (by rw [put_size]) (hkeep j q hmj hj' hq (.inl (hset j hl hji))), fun d hd => by rw [hne j q d hmj hj' hq hji hd]; exact g3 d hd⟩
theorem SIn.done (hok : HOk ops N m n []) {listed : Array Bool} (hsz : listed.size = ops.size) (hcl : ∀ j o, ops[j]? = some o → m ≤ j → listed.getD j false = true → ∀ e ∈ o.after, Region.binds .any e = true → listed.getD e.on false = true) {a A : Act} {p : Nat} (I : SIn P ops w0 N m n E listed a p A) {o : Oper} (hn : p < n) (ho : ops[p]? = some o) (hun : listed.getD p false = false) (v : Value) (ds : List Deferred) :
  SIn P ops w0 N m n E (listed.setIfInBounds p true) (({ a with defers := ds } : Act).put o.dst v) (p + 1) (({ A with defers := ds } : Act).put o.dst v) := by
 have hsel := fun j q (hq : ops[j]? = some q) cs b => Region.noSelect_spec hok.nosel j q cs b hq
 have hil : p < listed.size := by rw [hsz]; exact (Array.getElem?_eq_some_iff.1 ho).1
 have hset : ∀ j, (listed.setIfInBounds p true).getD j false = true → j ≠ p → listed.getD j false = true := fun j h hne => by rwa [getD_set_other (Ne.symm hne)] at h
 have hunset : ∀ j, (listed.setIfInBounds p true).getD j false = false → j ≠ p ∧ listed.getD j false = false := fun j h => by
  by_cases hj : p = j
  ·
   subst hj; rw [getD_set_self hil] at h; cases h
  ·
   exact ⟨Ne.symm hj, by rwa [getD_set_other hj] at h⟩
 have hne : ∀ (b : Act) j q d, m ≤ j → j < n → ops[j]? = some q → j ≠ p → q.dst = some d → slot (({ b with defers := ds } : Act).put o.dst v) d = slot b d := fun b j q d hj hj' hq hji hd => by
  rw [slot_pd]; exact slot_put_ne v (hok.once p o j q d I.mp hn ho hj hj' hq hji hd)
 have hself : ∀ (b : Act) d, b.tmps.size = N → o.dst = some d → slot (({ b with defers := ds } : Act).put o.dst v) d = v := fun b d hb hd => by rw [slot_pd, hd]; exact slot_put_same v (by rw [hb]; exact hok.dst p o d I.mp hn ho hd)
 have hz : ∀ b : Act, (({ b with defers := ds } : Act).put o.dst v).tmps.size = b.tmps.size := fun b => by rw [(put_defers' b ds o.dst v).1, put_size]
 refine ⟨by have := I.mp; omega, hn, by rw [hz]; exact I.sz, by rw [hz]; exact I.asz, by rw [(put_defers' _ _ _ _).2, (put_defers' _ _ _ _).2], fun t ht => ?_, fun j q d hj hj' hq hd hl => ?_, fun j q hj hj' hq hl => ?_, fun j q hj hj' hq hl => ?_⟩
 ·
  rw [slot_pd, slot_pd, slot_put_ne v (ht p o I.mp hn ho), slot_put_ne v (ht p o I.mp hn ho)]; exact I.un t ht
 ·
  by_cases hji : j = p
  ·
   subst hji
   have : q = o := Option.some.inj (hq.symm.trans ho)
   subst this
   rw [hself a d I.asz hd, hself A d I.sz hd]
  ·
   rw [hne a j q d hj (by omega) hq hji hd, hne A j q d hj (by omega) hq hji hd]
   exact I.eq j q d hj (by omega) hq hd (hset j hl hji)
 ·
  obtain ⟨hji, hl⟩ := hunset j hl
  obtain ⟨g1, v', g2, g3⟩ := I.qu j q hj (by omega) hq hl
  refine ⟨g1, v', g2.same (hsel j q hq) (hz A).symm fun t ht => ?_, fun d hd => by rw [hne A j q d hj (by omega) hq hji hd]; exact g3 d hd⟩
  rw [slot_pd]
  exact (slot_put_ne v fun hd => by have := (hok.look j q p o t hj (by omega) hq I.mp hn ho hd ht).1; omega).symm
 ·
  have hji : j ≠ p := by omega
  have hmj : m ≤ j := by have := I.mp; omega
  obtain ⟨g1, v', g2, g3⟩ := I.ea j q (by omega) hj' hq (hset j hl hji)
  refine ⟨g1, v', g2.same (hsel j q hq) (hz a).symm fun t ht => ?_, fun d hd => by rw [hne a j q d hmj hj' hq hji hd]; exact g3 d hd⟩
  rw [slot_pd]
  exact (slot_put_ne v fun hd => by
   obtain ⟨hlt, hw, _⟩ := hok.look j q p o t hmj hj' hq I.mp hn ho hd ht
   obtain ⟨e, he, hb, hon⟩ := waits_spec hq hw
   have := hcl j q hq hmj (hset j hl hji) e he hb
   rw [hon, hun] at this
   cases this).symm
structure LOk (ops : Array Oper) (m n : Nat) (listed : Array Bool) : Prop where
 sz : listed.size = ops.size
 lo : ∀ j, j < m → listed.getD j false = true
 hi : ∀ j, n ≤ j → listed.getD j false = false
 cl : ∀ j o, ops[j]? = some o → m ≤ j → listed.getD j false = true → ∀ e ∈ o.after, Region.binds .any e = true → listed.getD e.on false = true
theorem LOk.ready_lt (hok : HOk ops N m n []) {listed : Array Bool} (I : LOk ops m n listed) {i : Nat} (hm : m ≤ i) (hn : i < n) (hun : listed.getD i false = false) : ∀ t ∈ Region.ready .any ops listed, m ≤ t ∧ t < n := by
 intro t ht
 obtain ⟨h1, o, ho, hall⟩ := mem_ready.1 ht
 have htl : t < ops.size := (Array.getElem?_eq_some_iff.1 ho).1
 rw [getD_true_false (by rw [I.sz]; exact htl)] at h1
 refine ⟨Nat.le_of_not_lt fun h => (by rw [I.lo t h] at h1; cases h1), Nat.lt_of_not_le fun hge => ?_⟩
 rcases Nat.lt_or_eq_of_le hge with hgt | heq
 ·
  obtain ⟨s, hs, _, hw⟩ := hok.tail t hgt htl
  obtain ⟨e, he, hb, hon⟩ := waits_spec ho hw
  have := hall e he hb
  rw [hon, I.hi s hs] at this
  cases this
 ·
  subst heq
  have key : ∀ k i, n - i = k → m ≤ i → i < n → listed.getD i false = false → False := by
   intro k
   induction k using Nat.strongRecOn with
   | _ k ih =>
    intro i hk hm hn hun
    obtain ⟨j, hj, hij, hw⟩ := hok.sink htl i hm hn
    rcases Nat.lt_or_eq_of_le hj with hlt | heq
    ·
     cases hl : listed.getD j false with
     | false => exact ih (n - j) (by omega) j rfl (by omega) hlt hl
     | true =>
      cases hp : ops[j]? with
      | none => have := Array.getElem?_eq_none_iff.1 hp; omega
      | some p =>
       obtain ⟨e, he, hb, hon⟩ := waits_spec hp hw
       have := I.cl j p hp (by omega) hl e he hb
       rw [hon, hun] at this
       cases this
    ·
     subst heq
     obtain ⟨e, he, hb, hon⟩ := waits_spec ho hw
     have := hall e he hb
     rw [hon, hun] at this
     cases this
  exact key _ i rfl hm hn hun
theorem LOk.some_ready (hok : HOk ops N m n []) {listed : Array Bool} (I : LOk ops m n listed) {i : Nat} (hm : m ≤ i) (hn : i < n) (hun : listed.getD i false = false) : Region.ready .any ops listed ≠ [] := by
 have key : ∀ k i, i = k → m ≤ i → i < n → listed.getD i false = false → ∃ t, t ∈ Region.ready .any ops listed := by
  intro k
  induction k using Nat.strongRecOn with
  | _ k ih =>
   intro i hk hm hn hun
   subst hk
   cases ho : ops[i]? with
   | none => have := Array.getElem?_eq_none_iff.1 ho; have := hok.ns; omega
   | some o =>
    have hil : i < listed.size := by rw [I.sz]; exact (Array.getElem?_eq_some_iff.1 ho).1
    by_cases hall : ∀ e ∈ o.after, Region.binds .any e = true → listed.getD e.on false = true
    ·
     exact ⟨i, mem_ready.2 ⟨by rw [getD_true_false hil]; exact hun, o, ho, hall⟩⟩
    ·
     have : ∃ e ∈ o.after, Region.binds .any e = true ∧ listed.getD e.on false ≠ true := by
      apply Classical.byContradiction
      intro hno
      exact hall fun e he hb => Classical.byContradiction fun hc => hno ⟨e, he, hb, hc⟩
     obtain ⟨e, he, hb, hc⟩ := this
     have hlt := hok.back i o hm hn ho e he hb
     have hun' : listed.getD e.on false = false := by simpa using hc
     have hme : m ≤ e.on := Nat.le_of_not_lt fun h => (by rw [I.lo _ h] at hun'; cases hun')
     exact ih e.on hlt e.on rfl hme (by omega) hun'
 obtain ⟨t, ht⟩ := key i i rfl hm hn hun
 intro h0
 rw [h0] at ht
 cases ht
theorem LOk.next {listed : Array Bool} (I : LOk ops m n listed) {i : Nat} {o : Oper} (hm : m ≤ i) (hn : i < n) (ho : ops[i]? = some o) (hdep : ∀ e ∈ o.after, Region.binds .any e = true → listed.getD e.on false = true) : LOk ops m n (listed.setIfInBounds i true) := by
 have hi : i < listed.size := by rw [I.sz]; exact (Array.getElem?_eq_some_iff.1 ho).1
 have hmono : ∀ j, listed.getD j false = true → (listed.setIfInBounds i true).getD j false = true := fun j h => by
  by_cases hj : i = j
  ·
   subst hj; exact getD_set_self hi
  ·
   rwa [getD_set_other hj]
 refine ⟨by simpa using I.sz, fun j hj => hmono j (I.lo j hj), fun j hj => ?_, fun j p hp hj hl e he hb => ?_⟩
 ·
  rw [getD_set_other (by omega)]; exact I.hi j hj
 ·
  by_cases hji : j = i
  ·
   subst hji
   have : p = o := Option.some.inj (hp.symm.trans ho)
   subst this
   exact hmono _ (hdep e he hb)
  ·
   exact hmono _ (I.cl j p hp hj (by rwa [getD_set_other (Ne.symm hji)] at hl) e he hb)
def At_ (P : Program) (ops : Array Oper) (w0 : WI) (N m n : Nat) (E : List Nat) (K : Act → World → Prop) (listed : Array Bool) (a : Act) (w : World) : Prop :=
 w0.ok w ∧ ∃ p l A, p + l.length = n ∧ (∀ j, j < l.length → l[j]? = ops[p + j]?) ∧ SIn P ops w0 N m n E listed a p A ∧ swalk P ops w0 E K p l A w ∧ (p < n → p ∈ E)
theorem act_eq {a A : Act} (hs : a.tmps.size = A.tmps.size) (hd : a.defers = A.defers) (h : ∀ t, slot a t = slot A t) : a = A := by
 have : a.tmps = A.tmps := by
  apply Array.ext hs
  intro i h1 h2
  have := h i
  simp only [slot, Array.getD_eq_getD_getElem?] at this
  rw [Array.getElem?_eq_getElem h1, Array.getElem?_eq_getElem h2] at this
  exact this
 cases a; cases A
 simp only at this hd
 rw [this, hd]
theorem seq_all (hok : HOk ops N m n []) {C : List (List Nat)} (hch : chainB ops m n E C = true) :
  ∀ (k : Nat) (listed : Array Bool) (a : Act) (w : World), open_ m n listed = k → LOk ops m n listed → At_ P ops w0 N m n E (Run P ops Q n) listed a w → wpAny P .any ops Q (k + (ops.size - n)) listed a w := by
 intro k
 induction k with
 | zero =>
  intro listed a w hk L ⟨hx, p, l, A, hl, hat, I, h, hp⟩
  have hall := open_zero hk
  have hlist : listed = upto ops.size n := by
   apply Array.ext
   ·
    rw [L.sz, upto_size]
   ·
    intro j h1 h2
    have h1' : listed.getD j false = listed[j] := by simp [Array.getD, h1]
    have h2' : (upto ops.size n).getD j false = (upto ops.size n)[j] := by simp [Array.getD, h2]
    rw [← h1', ← h2', upto_getD, if_pos (by rw [← L.sz]; exact h1)]
    by_cases hjn : j < n
    ·
     by_cases hjm : j < m
     ·
      rw [L.lo j hjm]; simp [hjn]
     ·
      rw [hall j (by omega) hjn]; simp [hjn]
    ·
     rw [L.hi j (by omega)]; simp [hjn]
  have hpn : p = n := by
   rcases Nat.lt_or_eq_of_le I.pn with hlt | heq
   ·
    exfalso
    cases ho : ops[p]? with
    | none => have := Array.getElem?_eq_none_iff.1 ho; have := hok.ns; omega
    | some o => exact (I.ea p o (Nat.le_refl _) hlt ho (hall p I.mp hlt)).1 (hp hlt)
   ·
    exact heq
  subst hpn
  have hl0 : l = [] := List.length_eq_zero_iff.1 (by omega)
  subst hl0
  have haA : a = A := act_eq (I.asz.trans I.sz.symm) I.df.symm fun t => by
   by_cases hex : ∃ j q, m ≤ j ∧ j < p ∧ ops[j]? = some q ∧ q.dst = some t
   ·
    obtain ⟨j, q, hj, hj', hq, hd⟩ := hex
    exact I.eq j q t hj hj' hq hd (hall j hj hj')
   ·
    exact (I.un t fun j q hj hj' hq hd => hex ⟨j, q, hj, hj', hq, hd⟩).symm
  subst haA
  subst hlist
  rw [Nat.zero_add]
  exact h
 | succ k ih =>
  intro listed a w hk L ⟨hx, p, l, A, hl, hat, I, h, hp⟩
  have hex : ∃ i, m ≤ i ∧ i < n ∧ listed.getD i false = false := by
   apply Classical.byContradiction
   intro hno
   have : open_ m n listed = 0 := by
    unfold open_
    rw [List.filter_eq_nil_iff.2, List.length_nil]
    intro j hj hc
    simp only [Bool.and_eq_true, decide_eq_true_eq, Bool.not_eq_true'] at hc
    exact hno ⟨j, hc.1, List.mem_range.1 hj, hc.2⟩
   omega
  obtain ⟨i0, hm0, hn0, hun0⟩ := hex
  rw [show k + 1 + (ops.size - n) = (k + (ops.size - n)) + 1 by omega]
  refine ⟨fun h0 => absurd h0 (L.some_ready hok hm0 hn0 hun0), fun i hi => ?_⟩
  obtain ⟨hm, hn⟩ := L.ready_lt hok hm0 hn0 hun0 i hi
  obtain ⟨h1, o, ho, hdep⟩ := mem_ready.1 hi
  have hil : i < listed.size := by rw [L.sz]; exact (Array.getElem?_eq_some_iff.1 ho).1
  rw [getD_true_false hil] at h1
  have hop : open_ m n (listed.setIfInBounds i true) = k := by
   have := open_set hm hn hil h1
   omega
  have hL := L.next hm hn ho hdep
  have hsel := fun cs b => Region.noSelect_spec hok.nosel i o cs b ho
  have quiet : ∀ v, QV P ops w0 o a v → (i < p → ∀ d, o.dst = some d → slot A d = v) → (p ≤ i → i ∉ E) → wpOp P ops Q i (wpAny P .any ops Q (k + (ops.size - n)) (listed.setIfInBounds i true)) a w := by
   intro v hv g1 g2
   have go : wpAny P .any ops Q (k + (ops.size - n)) (listed.setIfInBounds i true) (a.put o.dst v) w :=
    ih _ _ _ hop hL ⟨hx, p, l, A, hl, hat, I.took hok L.sz L.cl hm hn ho h1 hv g1 g2, h, hp⟩
   unfold wpOp
   rw [ho]
   simp only
   rcases hv with ⟨hw, hq⟩ | ⟨hw, rfl⟩
   ·
    rw [if_pos hw]
    refine .inl ?_
    unfold Oper.wp
    rcases hq w hx with hr | ⟨hr, rfl⟩
    ·
     rw [hr]; exact go
    ·
     rw [hr]; exact go
   ·
    rw [if_neg (by rw [hw]; exact Bool.false_ne_true)]
    exact go
  rcases Nat.lt_trichotomy i p with hip | hip | hip
  ·
   obtain ⟨g1, v, g2, g3⟩ := I.qu i o hm hip ho h1
   have hag := I.agree hok hm hn ho hdep fun k hk _ => by omega
   exact quiet v (g2.same hsel (I.sz.trans I.asz.symm) hag) (fun _ => g3) fun hge => absurd hge (by omega)
  ·
   subst hip
   have hE := hp hn
   have hag := I.agree hok hm hn ho hdep fun k hk _ => hk
   cases l with
   | nil => simp at hl; omega
   | cons o' l =>
    have ho' : o' = o := by
     have := hat 0 (by simp)
     rw [Nat.add_zero, ho] at this
     simpa using this
    subst ho'
    unfold swalk at h
    rw [if_pos hE] at h
    have := stp_move (Q := Q) hsel (I.sz.trans I.asz.symm) I.df hag h
    unfold wpOp
    rw [ho]
    simp only
    unfold Stp at this
    have next : ∀ a' w', (∃ v ds, a' = ({ a with defers := ds } : Act).put o'.dst v ∧ (w0.ok w' ∧ swalk P ops w0 E (Run P ops Q n) (i + 1) l (({ A with defers := ds } : Act).put o'.dst v) w')) → wpAny P .any ops Q (k + (ops.size - n)) (listed.setIfInBounds i true) a' w' := by
     rintro a' w' ⟨v, ds, rfl, hx', hs⟩
     simp only [List.length_cons] at hl
     obtain ⟨p', l', A', q1, q2, q3, q4, q5, q6, _⟩ := SIn.advance hok hL.cl l (i + 1) _ (by omega) (fun j hj => by
      have := hat (j + 1) (by simp only [List.length_cons]; omega)
      simpa [Nat.add_assoc, Nat.add_comm 1 j] using this) (I.done hok L.sz L.cl hn ho h1 v ds) hs
     exact ih _ _ _ hop hL ⟨hx', p', l', A', q2, q3, q4, q5, q6⟩
    split at this
    ·
     rename_i hw
     rw [if_pos hw]
     exact this.imp (Oper.wp_mono fun a w h => next a w h) id
    ·
     rename_i hw
     rw [if_neg hw]
     exact next _ _ this
  ·
   have hpn : p < n := by omega
   have hpE := hp hpn
   have hiE : i ∉ E := fun hiE => by
    obtain ⟨k', hk', c, g1, g2, g3, g4⟩ := chainB_spec hch hpE hiE I.mp hip hn
    have hl' := path_listed L.cl c i o ho hdep g3 (by omega)
    rw [g4] at hl'
    cases hq : ops[k']? with
    | none => have := Array.getElem?_eq_none_iff.1 hq; have := hok.ns; omega
    | some q => exact (I.ea k' q g1 (by omega) hq hl').1 hk'
   obtain ⟨v, hv⟩ := SIn.peek hok L.cl hn ho hiE hdep l p A w (by omega) hl hat I.mp I.sz I.asz I.un I.eq I.ea h
   exact quiet v hv (fun h => absurd h (by omega)) fun _ => hiE
theorem run_swalkI (I0 : WI) (N m n : Nat) (E : List Nat) (C : List (List Nat)) (l : List Oper) {a : Act} {w : World} (hI0 : I0.ok w) (hB : headB ops N m n [] = true) (hch : chainB ops m n E C = true) (hl : (ops.toList.drop m).take (n - m) = l) (hN : a.tmps.size = N)
  (h : swalk P ops I0 E (Run P ops Q n) m l a w) : Run P ops Q m a w := by
 have hok := headB_spec hB
 have hlen : l.length = n - m := by rw [← hl]; have := hok.ns; simp; omega
 have hat : ∀ j, j < l.length → l[j]? = ops[m + j]? := fun j hj => by
  rw [← hl, List.getElem?_take, if_pos (by omega), List.getElem?_drop]; simp
 have hlo : ∀ j, (upto ops.size m).getD j false = true → j < m := fun j h => by
  rw [upto_getD] at h
  split at h
  ·
   simpa using h
  ·
   cases h
 have L : LOk ops m n (upto ops.size m) := by
  refine ⟨upto_size _ _, fun j hj => ?_, fun j hj => ?_, fun j o ho hm hl => absurd (hlo j hl) (by omega)⟩
  ·
   rw [upto_getD, if_pos (by have := hok.ns; have := hok.mn; omega)]; simp [hj]
  ·
   rw [upto_getD]
   split
   ·
    have := hok.mn; simp; omega
   ·
    rfl
 have I : SIn P ops I0 N m n E (upto ops.size m) a m a :=
  ⟨Nat.le_refl _, hok.mn, hN, hN, rfl, fun _ _ => rfl, fun j o d h1 h2 => by omega, fun j o h1 h2 => by omega, fun j o h1 h2 ho hl => absurd (hlo j hl) (by omega)⟩
 obtain ⟨p', l', A', q1, q2, q3, q4, q5, q6, _⟩ := SIn.advance hok L.cl l m a (by have := hok.mn; omega) hat I h
 have hsize : ops.size - m = (n - m) + (ops.size - n) := by have := hok.ns; have := hok.mn; omega
 unfold Run
 rw [hsize]
 refine seq_all hok hch _ _ _ _ ?_ L ⟨hI0, p', l', A', q2, q3, q4, q5, q6⟩
 unfold open_
 have : ((List.range n).filter fun j => decide (m ≤ j) && !(upto ops.size m).getD j false) = (List.range n).filter fun j => decide (m ≤ j) :=
  List.filter_congr fun j hj => by
   rw [upto_getD]
   have := hok.ns
   have := List.mem_range.1 hj
   rw [if_pos (by omega)]
   by_cases h : m ≤ j
   ·
    simp [h, show ¬ j < m by omega]
   ·
    simp [h]
 rw [this]
 have key : ∀ n, m ≤ n → ((List.range n).filter fun j => decide (m ≤ j)).length = n - m := by
  intro n
  induction n with
  | zero => intro _; simp
  | succ n ih =>
   intro h
   rw [List.range_succ, List.filter_append, List.length_append]
   by_cases hmn : m ≤ n
   ·
    rw [ih hmn]; simp [hmn]; omega
   ·
    have : m = n + 1 := by omega
    subst this
    rw [List.filter_eq_nil_iff.2 (fun j hj => by have := List.mem_range.1 hj; simp; omega)]
    simp
 exact key n hok.mn
end
section
variable {P : Program} {ops : Array Oper} {Q : Exit → Act → World → Prop} {N i : Nat} {a : Act} {mm : List (Nat × Value)} {o : Oper} {w : World} {w0 : WI} {E : List Nat} {K : Act → World → Prop} {rest : List Oper}
theorem sw_eff (hE : E.contains i = true) (h : Stp P ops QF o a w (fun a' w' => w0.ok w' ∧ swalk P ops w0 E K (i + 1) rest a' w')) : swalk P ops w0 E K i (o :: rest) a w := by
 unfold swalk; rw [if_pos (by simpa using hE)]; exact h
theorem sw_nil (h : K a w) : swalk P ops w0 E K i [] a w := h
theorem sw_gv (hF : Fr N a mm) (hE : E.contains i = false) (hw : Region.wanted o (yielded ops a.tmps) = true) {d : Nat} {v : Value} (hd : o.dst = some d) (hN : Nat.blt d N = true) (hv : ∀ w', w0.ok w' → Gv P o a w' v) (h : ∀ a', Fr N a' ((d, v) :: mm) → swalk P ops w0 E K (i + 1) rest a' w) :
  swalk P ops w0 E K i (o :: rest) a w := by
 unfold swalk
 rw [if_neg (by simpa using hE)]
 exact ⟨v, .inl ⟨hw, fun w' hx => .inl (hv w' hx)⟩, by rw [hd]; exact h _ (hF.put v hN)⟩
theorem sw_skip (hF : Fr N a mm) (hE : E.contains i = false) (hw : Region.wanted o (yielded ops a.tmps) = false) {d : Nat} (hd : o.dst = some d) (hN : Nat.blt d N = true) (h : ∀ a', Fr N a' ((d, undef) :: mm) → swalk P ops w0 E K (i + 1) rest a' w) :
  swalk P ops w0 E K i (o :: rest) a w := by
 unfold swalk
 rw [if_neg (by simpa using hE)]
 exact ⟨undef, .inr ⟨hw, rfl⟩, by rw [hd]; exact h _ (hF.put undef hN)⟩
theorem run_swalk (N m n : Nat) (E : List Nat) (C : List (List Nat)) (l : List Oper) {a : Act} {w : World} (hB : headB ops N m n [] = true) (hch : chainB ops m n E C = true) (hl : (ops.toList.drop m).take (n - m) = l) (hN : a.tmps.size = N)
  (h : swalk P ops ⟨fun w' => Ext w w', w, Ext.refl w⟩ E (Run P ops Q n) m l a w) : Run P ops Q m a w := run_swalkI ⟨fun w' => Ext w w', w, Ext.refl w⟩ N m n E C l (Ext.refl w) hB hch hl hN h
end
end Go.Fw

namespace Go.Fw
open Go Go.RowKit
theorem sg {P : Program} {ops : Array Oper} {N i : Nat} {mm : List (Nat × Value)} {a : Act} {w : World} {w0 : WI} {o : Oper} {rest : List Oper} {E : List Nat} {K : Act → World → Prop} (hF : Fr N a mm) (hE : E.contains i = false) (hg : o.guard = none) {d : Nat} {v : Value} (hd : o.dst = some d) (hN : Nat.blt d N = true) (hv : ∀ w', w0.ok w' → Gv P o a w' v) (h : ∀ a', Fr N a' ((d, v) :: mm) → swalk P ops w0 E K (i + 1) rest a' w) : swalk P ops w0 E K i (o :: rest) a w := sw_gv hF hE (wanted_none hg) hd hN hv h
end Go.Fw
set_option linter.unusedVariables false
set_option linter.unusedSimpArgs false
namespace Go.Proofs.YtfhalnobaeogkaaDoor
open Go Go.RowKit Go.Fw
theorem z136 : (Tryd.prog.info? 136).map (·.size) = some 256 := by kernel_rfl
theorem Tryd.zv136 : (Tryd.prog.info? 136).map (·.zero) = some (some (Value.agg ((List.replicate 256 (0 : UInt8)).map vB).toArray)) := by kernel_rfl
def dbl (x : UInt8) : UInt8 := if x &&& 128 ≠ 0 then (x <<< 1) ^^^ 27 else x <<< 1
theorem dbl_yes {x : UInt8} (h : ((x &&& 128).toNat : Int) ≠ 0) : (x <<< UInt8.ofNat 1) ^^^ 27 = dbl x := by
 have h' : x &&& 128 ≠ 0 := fun e => h (by rw [e]; rfl)
 unfold dbl; rw [if_pos h']; rfl
theorem dbl_no {x : UInt8} (h : ¬ ((x &&& 128).toNat : Int) ≠ 0) : x <<< UInt8.ofNat 1 = dbl x := by
 have h' : ¬ (x &&& 128 ≠ 0) := fun e => h fun h0 => e (UInt8.toNat_inj.1 (by rw [Int.natCast_eq_zero.1 h0]; rfl))
 unfold dbl; rw [if_neg h']; rfl
def swapL : List UInt8 := [99, 124, 119, 123, 242, 107, 111, 197, 48, 1, 103, 43, 254, 215, 171, 118, 202, 130, 201, 125, 250, 89, 71, 240, 173, 212, 162, 175, 156, 164, 114, 192, 183, 253, 147, 38, 54, 63, 247, 204, 52, 165, 229, 241, 113, 216, 49, 21, 4, 199, 35, 195, 24, 150, 5, 154, 7, 18, 128, 226, 235, 39, 178, 117, 9, 131, 44, 26, 27, 110, 90, 160, 82, 59, 214, 179, 41, 227, 47, 132, 83, 209, 0, 237, 32, 252, 177, 91, 106, 203, 190, 57, 74, 76, 88, 207, 208, 239, 170, 251, 67, 77, 51, 133, 69, 249, 2, 127, 80, 60, 159, 168, 81, 163, 64, 143, 146, 157, 56, 245, 188, 182, 218, 33, 16, 255, 243, 210, 205, 12, 19, 236, 95, 151, 68, 23, 196, 167, 126, 61, 100, 93, 25, 115, 96, 129, 79, 220, 34, 42, 144, 136, 70, 238, 184, 20, 222, 94, 11, 219, 224, 50, 58, 10, 73, 6, 36, 92, 194, 211, 172, 98, 145, 149, 228, 121, 231, 200, 55, 109, 141, 213, 78, 169, 108, 86, 244, 234, 101, 122, 174, 8, 186, 120, 37, 46, 28, 166, 180, 198, 232, 221, 116, 31, 75, 189, 139, 138, 112, 62, 181, 102, 72, 3, 246, 14, 97, 53, 87, 185, 134, 193, 29, 158, 225, 248, 152, 17, 105, 217, 142, 148, 155, 30, 135, 233, 206, 85, 40, 223, 140, 161, 137, 13, 191, 230, 66, 104, 65, 153, 45, 15, 176, 84, 187, 22]
theorem swapL_len : swapL.length = 256 := by decide +kernel
def sb (x : UInt8) : UInt8 := swapL.getD x.toNat 0
theorem sw_at (x : UInt8) : ((swapL.map vB).toArray)[x.toNat]? = some (vB (sb x)) := by
 have h : x.toNat < swapL.length := by rw [swapL_len]; exact x.toNat_lt
 have := map_at (f := vB) h 0
 simpa [sb] using this
theorem swap_fill : Instr.fill (fun i => some (i * 1, 1)) ((List.replicate 256 (0 : UInt8)).map vB).toArray [(0, .int .u8 99), (1, .int .u8 124), (2, .int .u8 119), (3, .int .u8 123), (4, .int .u8 242), (5, .int .u8 107), (6, .int .u8 111), (7, .int .u8 197), (8, .int .u8 48), (9, .int .u8 1), (10, .int .u8 103), (11, .int .u8 43), (12, .int .u8 254), (13, .int .u8 215), (14, .int .u8 171), (15, .int .u8 118), (16, .int .u8 202), (17, .int .u8 130), (18, .int .u8 201), (19, .int .u8 125), (20, .int .u8 250), (21, .int .u8 89), (22, .int .u8 71), (23, .int .u8 240), (24, .int .u8 173), (25, .int .u8 212), (26, .int .u8 162), (27, .int .u8 175), (28, .int .u8 156), (29, .int .u8 164), (30, .int .u8 114), (31, .int .u8 192), (32, .int .u8 183), (33, .int .u8 253), (34, .int .u8 147), (35, .int .u8 38), (36, .int .u8 54), (37, .int .u8 63), (38, .int .u8 247), (39, .int .u8 204), (40, .int .u8 52), (41, .int .u8 165), (42, .int .u8 229), (43, .int .u8 241), (44, .int .u8 113), (45, .int .u8 216), (46, .int .u8 49), (47, .int .u8 21), (48, .int .u8 4), (49, .int .u8 199), (50, .int .u8 35), (51, .int .u8 195), (52, .int .u8 24), (53, .int .u8 150), (54, .int .u8 5), (55, .int .u8 154), (56, .int .u8 7), (57, .int .u8 18), (58, .int .u8 128), (59, .int .u8 226), (60, .int .u8 235), (61, .int .u8 39), (62, .int .u8 178), (63, .int .u8 117), (64, .int .u8 9), (65, .int .u8 131), (66, .int .u8 44), (67, .int .u8 26), (68, .int .u8 27), (69, .int .u8 110), (70, .int .u8 90), (71, .int .u8 160), (72, .int .u8 82), (73, .int .u8 59), (74, .int .u8 214), (75, .int .u8 179), (76, .int .u8 41), (77, .int .u8 227), (78, .int .u8 47), (79, .int .u8 132), (80, .int .u8 83), (81, .int .u8 209), (82, .int .u8 0), (83, .int .u8 237), (84, .int .u8 32), (85, .int .u8 252), (86, .int .u8 177), (87, .int .u8 91), (88, .int .u8 106), (89, .int .u8 203), (90, .int .u8 190), (91, .int .u8 57), (92, .int .u8 74), (93, .int .u8 76), (94, .int .u8 88), (95, .int .u8 207), (96, .int .u8 208), (97, .int .u8 239), (98, .int .u8 170), (99, .int .u8 251), (100, .int .u8 67), (101, .int .u8 77), (102, .int .u8 51), (103, .int .u8 133), (104, .int .u8 69), (105, .int .u8 249), (106, .int .u8 2), (107, .int .u8 127), (108, .int .u8 80), (109, .int .u8 60), (110, .int .u8 159), (111, .int .u8 168), (112, .int .u8 81), (113, .int .u8 163), (114, .int .u8 64), (115, .int .u8 143), (116, .int .u8 146), (117, .int .u8 157), (118, .int .u8 56), (119, .int .u8 245), (120, .int .u8 188), (121, .int .u8 182), (122, .int .u8 218), (123, .int .u8 33), (124, .int .u8 16), (125, .int .u8 255), (126, .int .u8 243), (127, .int .u8 210), (128, .int .u8 205), (129, .int .u8 12), (130, .int .u8 19), (131, .int .u8 236), (132, .int .u8 95), (133, .int .u8 151), (134, .int .u8 68), (135, .int .u8 23), (136, .int .u8 196), (137, .int .u8 167), (138, .int .u8 126), (139, .int .u8 61), (140, .int .u8 100), (141, .int .u8 93), (142, .int .u8 25), (143, .int .u8 115), (144, .int .u8 96), (145, .int .u8 129), (146, .int .u8 79), (147, .int .u8 220), (148, .int .u8 34), (149, .int .u8 42), (150, .int .u8 144), (151, .int .u8 136), (152, .int .u8 70), (153, .int .u8 238), (154, .int .u8 184), (155, .int .u8 20), (156, .int .u8 222), (157, .int .u8 94), (158, .int .u8 11), (159, .int .u8 219), (160, .int .u8 224), (161, .int .u8 50), (162, .int .u8 58), (163, .int .u8 10), (164, .int .u8 73), (165, .int .u8 6), (166, .int .u8 36), (167, .int .u8 92), (168, .int .u8 194), (169, .int .u8 211), (170, .int .u8 172), (171, .int .u8 98), (172, .int .u8 145), (173, .int .u8 149), (174, .int .u8 228), (175, .int .u8 121), (176, .int .u8 231), (177, .int .u8 200), (178, .int .u8 55), (179, .int .u8 109), (180, .int .u8 141), (181, .int .u8 213), (182, .int .u8 78), (183, .int .u8 169), (184, .int .u8 108), (185, .int .u8 86), (186, .int .u8 244), (187, .int .u8 234), (188, .int .u8 101), (189, .int .u8 122), (190, .int .u8 174), (191, .int .u8 8), (192, .int .u8 186), (193, .int .u8 120), (194, .int .u8 37), (195, .int .u8 46), (196, .int .u8 28), (197, .int .u8 166), (198, .int .u8 180), (199, .int .u8 198), (200, .int .u8 232), (201, .int .u8 221), (202, .int .u8 116), (203, .int .u8 31), (204, .int .u8 75), (205, .int .u8 189), (206, .int .u8 139), (207, .int .u8 138), (208, .int .u8 112), (209, .int .u8 62), (210, .int .u8 181), (211, .int .u8 102), (212, .int .u8 72), (213, .int .u8 3), (214, .int .u8 246), (215, .int .u8 14), (216, .int .u8 97), (217, .int .u8 53), (218, .int .u8 87), (219, .int .u8 185), (220, .int .u8 134), (221, .int .u8 193), (222, .int .u8 29), (223, .int .u8 158), (224, .int .u8 225), (225, .int .u8 248), (226, .int .u8 152), (227, .int .u8 17), (228, .int .u8 105), (229, .int .u8 217), (230, .int .u8 142), (231, .int .u8 148), (232, .int .u8 155), (233, .int .u8 30), (234, .int .u8 135), (235, .int .u8 233), (236, .int .u8 206), (237, .int .u8 85), (238, .int .u8 40), (239, .int .u8 223), (240, .int .u8 140), (241, .int .u8 161), (242, .int .u8 137), (243, .int .u8 13), (244, .int .u8 191), (245, .int .u8 230), (246, .int .u8 66), (247, .int .u8 104), (248, .int .u8 65), (249, .int .u8 153), (250, .int .u8 45), (251, .int .u8 15), (252, .int .u8 176), (253, .int .u8 84), (254, .int .u8 187), (255, .int .u8 22)] = some (swapL.map vB).toArray := by kernel_rfl
theorem double_any (x : UInt8) (w : World) :
  Calls Tryd.prog 70 #[vB x] w fun e w' => e = .returned (vB (dbl x)) ∧ Ext w w' := by
 refine calls_start 11 Tryd.func70 rfl Tryd.ntmps70 rfl fun a hF => ?_
 refine wK fun Kq1 hKq1 => ?_
 refine wR ?_
 refine wg hF rfl rfl rfl (gv_assign rfl (ev_const _ _)) fun a hF => ?_
 refine wN ?_
 refine tN (hKq1 _ _ ?_)
 refine wK fun Kq2 hKq2 => ?_
 refine wK fun Kq3 hKq3 => ?_
 refine wR ?_
 refine wg hF rfl rfl rfl (gv_move rfl (hF.t rfl)) fun a hF => ?_
 refine wg hF rfl rfl rfl (gv_b_and (n := 128) rfl (hF.t rfl) rfl) fun a hF => ?_
 refine wg hF rfl rfl rfl (gv_neq rfl (hF.t rfl) (ev_const _ _)) fun a hF => ?_
 refine wN ?_
 refine tN (hKq3 _ _ ?_)
 refine cond_dec (hF.t rfl) (fun hc5 => ?_) (fun hc5 => ?_)
 ·
  refine wK fun Kq4 hKq4 => ?_
  refine wR ?_
  refine wg hF rfl rfl rfl (gv_move rfl (hF.t rfl)) fun a hF => ?_
  refine wg hF rfl rfl rfl (gv_b_shl (n := 1) rfl (hF.t rfl) rfl (by omega)) fun a hF => ?_
  refine wg hF rfl rfl rfl (gv_b_xor (n := 27) rfl (hF.t rfl) rfl) fun a hF => ?_
  refine wg hF rfl rfl rfl (gv_assign rfl (hF.t rfl)) fun a hF => ?_
  refine wN ?_
  refine tN (hKq4 _ _ ?_)
  refine wp_ret ?_
  refine then_ret ?_
  refine ret1 (fn := Tryd.f70) (t := 2) hF rfl rfl ?_
  exact ⟨by rw [dbl_yes hc5], Ext.refl _⟩
 ·
  refine wp_skip ?_
  refine tN (hKq2 _ _ ?_)
  refine wK fun Kq5 hKq5 => ?_
  refine wR ?_
  refine wg hF rfl rfl rfl (gv_move rfl (hF.t rfl)) fun a hF => ?_
  refine wg hF rfl rfl rfl (gv_b_shl (n := 1) rfl (hF.t rfl) rfl (by omega)) fun a hF => ?_
  refine wg hF rfl rfl rfl (gv_assign rfl (hF.t rfl)) fun a hF => ?_
  refine wN ?_
  refine tN (hKq5 _ _ ?_)
  refine wp_ret ?_
  refine ret1 (fn := Tryd.f70) (t := 2) hF rfl rfl ?_
  exact ⟨by rw [dbl_no hc5], Ext.refl _⟩
set_option maxRecDepth 100000 in
theorem swap_any (w : World) :
  Calls Tryd.prog 69 #[] w fun e w' => e = .returned (.agg (swapL.map vB).toArray) ∧ Ext w w' := by
 refine calls_start 2 Tryd.func69 rfl Tryd.ntmps69 rfl fun a hF => ?_
 have hS := St.refl w
 refine wK fun Kq1 hKq1 => ?_
 refine wR ?_
 refine wpList_stp (stp_alloc hF (wanted_none rfl) rfl rfl rfl Tryd.zv136 rfl hS fun b0 a w hF hS => ?_)
 refine wN ?_
 refine tN (hKq1 _ _ ?_)
 refine wK fun Kq2 hKq2 => ?_
 refine wR ?_
 refine wg hF rfl rfl rfl (gv_build rfl rfl (run_buildArr u136 z5 Tryd.zv136 rfl swap_fill)) fun a hF => ?_
 refine wpList_stp (stp_storeAll hF (wanted_none rfl) rfl rfl (z136.trans (congrArg some (by simp [swapL_len]))) (hF.t rfl) (hF.t rfl) (one_B _) hS (k := 0) rfl (by simp [swapL_len]) fun w hS => ?_)
 refine wN ?_
 refine tN (hKq2 _ _ ?_)
 refine wp_ret ?_
 refine retCell (fn := Tryd.f69) hF rfl u136 rfl (z136.trans (congrArg some (by simp [swapL_len]))) rfl hS (k := 0) rfl ⟨rfl, hS.toExt (by simp)⟩
end Go.Proofs.YtfhalnobaeogkaaDoor
