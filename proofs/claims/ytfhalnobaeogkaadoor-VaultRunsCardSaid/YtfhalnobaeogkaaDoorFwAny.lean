/- What is proved: a head in which an operation that lays memory may look at what an earlier one has laid, each with a fact on its value that may depend on which of them are done. -/
import Derived.Test.YtfhalnobaeogkaaDoorFwStr
set_option linter.unusedVariables false
set_option linter.unusedSimpArgs false
namespace Go.Fw
open Go Go.RowKit
section
variable {P : Program} {ops : Array Oper} {Q : Exit → Act → World → Prop}

def headA (ops : Array Oper) (N m n : Nat) (fl : List Nat) : Bool :=
  Region.noSelect ops && (decide (m ≤ n) && (decide (n ≤ ops.size) &&
  (((List.range n).all fun i => decide (i < m) ||
    match ops[i]? with
    | none => false
    | some o =>
      (match o.dst with | some d => decide (d < N) | none => true) &&
      ((o.after.toList.all fun e => !Region.binds .any e || decide (e.on < i)) &&
      ((!fl.contains i || o.dst.isSome || true) &&
      (((List.range n).all fun j => decide (j < m) ||
        match ops[j]? with
        | none => false
        | some p => match p.dst with
          | none => true
          | some d => (!(o.looksAt ops).contains d || (decide (j < i) && (waits ops i j && (!fl.contains j || fl.contains i)))) && (j == i || o.dst != some d)) &&
      (n == ops.size || ((List.range (n + 1)).any fun j => decide (i < j) && waits ops j i)))))) &&
  ((List.range ops.size).all fun t => decide (t ≤ n) || ((List.range t).any fun s => decide (n ≤ s) && waits ops t s)))))

structure AOk (ops : Array Oper) (N m n : Nat) (fl : List Nat) : Prop where
  nosel : Region.noSelect ops = true
  mn : m ≤ n
  ns : n ≤ ops.size
  dst : ∀ i o d, m ≤ i → i < n → ops[i]? = some o → o.dst = some d → d < N
  back : ∀ i o, m ≤ i → i < n → ops[i]? = some o → ∀ e ∈ o.after, Region.binds .any e = true → e.on < i
  look : ∀ i o j p d, m ≤ i → i < n → ops[i]? = some o → m ≤ j → j < n → ops[j]? = some p → p.dst = some d → d ∈ o.looksAt ops → j < i ∧ waits ops i j = true ∧ (j ∈ fl → i ∈ fl)
  once : ∀ i o j p d, m ≤ i → i < n → ops[i]? = some o → m ≤ j → j < n → ops[j]? = some p → j ≠ i → p.dst = some d → o.dst ≠ some d
  sink : n < ops.size → ∀ i, m ≤ i → i < n → ∃ j, j ≤ n ∧ i < j ∧ waits ops j i = true
  tail : ∀ t, n < t → t < ops.size → ∃ s, n ≤ s ∧ s < t ∧ waits ops t s = true

theorem headA_spec {N m n : Nat} {fl : List Nat} (h : headA ops N m n fl = true) : AOk ops N m n fl := by
  simp only [headA, Bool.and_eq_true, decide_eq_true_eq] at h
  obtain ⟨h1, h2, h3, h4, h5⟩ := h
  have key : ∀ i o, m ≤ i → i < n → ops[i]? = some o → _ := fun i o hm hn ho => by
    have := List.all_eq_true.1 h4 i (List.mem_range.2 hn)
    rw [ho] at this
    simp only [Bool.or_eq_true, decide_eq_true_eq, Bool.and_eq_true] at this
    exact this.resolve_left (by omega)
  have pair : ∀ i o j p d, m ≤ i → i < n → ops[i]? = some o → m ≤ j → j < n → ops[j]? = some p → p.dst = some d → _ := fun i o j p d hm hn ho hm' hn' hp hd => by
    have := List.all_eq_true.1 (key i o hm hn ho).2.2.2.1 j (List.mem_range.2 hn')
    rw [hp] at this
    simp only [Bool.or_eq_true, decide_eq_true_eq] at this
    have := this.resolve_left (by omega)
    rw [hd] at this
    simp only [Bool.and_eq_true] at this
    exact this
  refine ⟨h1, h2, h3, ?_, ?_, ?_, ?_, ?_, ?_⟩
  · intro i o d hm hn ho hd
    have := (key i o hm hn ho).1
    rw [hd] at this
    simpa using this
  · intro i o hm hn ho e he hb
    have := List.all_eq_true.1 (key i o hm hn ho).2.1 e (by simpa using he)
    simpa [hb] using this
  · intro i o j p d hm hn ho hm' hn' hp hd hl
    have := (pair i o j p d hm hn ho hm' hn' hp hd).1
    simp only [Bool.or_eq_true, Bool.not_eq_true', List.contains_eq_mem, decide_eq_false_iff_not, Bool.and_eq_true, decide_eq_true_eq] at this
    have := this.resolve_left (fun h => h hl)
    exact ⟨this.1, this.2.1, fun hj => this.2.2.resolve_left (fun h => h hj)⟩
  · intro i o j p d hm hn ho hm' hn' hp hne hd
    have := (pair i o j p d hm hn ho hm' hn' hp hd).2
    simp only [Bool.or_eq_true, beq_iff_eq, bne_iff_ne] at this
    exact this.resolve_left hne
  · intro hlt i hm hn
    cases ho : ops[i]? with
    | none => have := Array.getElem?_eq_none_iff.1 ho; omega
    | some o =>
      have := (key i o hm hn ho).2.2.2.2
      simp only [beq_iff_eq] at this
      have := this.resolve_left (by omega)
      obtain ⟨j, hj, hj'⟩ := List.any_eq_true.1 this
      simp only [Bool.and_eq_true, decide_eq_true_eq] at hj'
      have := List.mem_range.1 hj
      exact ⟨j, by omega, hj'.1, hj'.2⟩
  · intro t hn hs
    have := List.all_eq_true.1 h5 t (List.mem_range.2 hs)
    simp only [Bool.or_eq_true, decide_eq_true_eq] at this
    obtain ⟨s, hs, hs'⟩ := List.any_eq_true.1 (this.resolve_left (by omega))
    simp only [Bool.and_eq_true, decide_eq_true_eq] at hs'
    exact ⟨s, hs'.1, List.mem_range.1 hs, hs'.2⟩

theorem dwalk_specA {w0 : World} {N m n : Nat} {fl : List Nat} (hok : AOk ops N m n fl) {K : Act → Prop} :
    ∀ (l : List Oper) (i : Nat) (a : Act), m ≤ i → i + l.length = n → (∀ j, j < l.length → l[j]? = ops[i + j]?) → a.tmps.size = N →
      dwalk P ops w0 fl K i l a → ∃ A val, K A ∧ HSpec P ops w0 i n fl a A val := by
  intro l
  induction l with
  | nil =>
    intro i a hm hl _ _ h
    simp only [List.length_nil] at hl
    exact ⟨a, fun _ => undef, h, ⟨rfl, rfl, fun _ _ => rfl, fun j o d h1 h2 => by omega, fun j o h1 h2 => by omega⟩⟩
  | cons o l ih =>
    intro i a hm hl hat hN h
    simp only [List.length_cons] at hl
    have ho : ops[i]? = some o := by have := hat 0 (by simp); simpa using this.symm
    have hat' : ∀ j, j < l.length → l[j]? = ops[i + 1 + j]? := fun j hj => by
      have := hat (j + 1) (by simp only [List.length_cons]; omega)
      simpa [Nat.add_assoc, Nat.add_comm 1 j] using this
    unfold dwalk at h
    by_cases hf : i ∈ fl
    · rw [if_pos hf] at h
      obtain ⟨A, val, hK, S⟩ := ih (i + 1) a (by omega) (by omega) hat' hN h
      refine ⟨A, val, hK, ⟨S.size, S.dfs, fun t ht => S.un t fun j p hj hj' hp hnf => ht j p (by omega) hj' hp hnf, fun j p d hj hj' hp hnf hd => ?_, fun j p hj hj' hp hnf => ?_⟩⟩
      · exact S.wr j p d (by have : j ≠ i := fun e => hnf (e ▸ hf); omega) hj' hp hnf hd
      · exact S.ex j p (by have : j ≠ i := fun e => hnf (e ▸ hf); omega) hj' hp hnf
    · rw [if_neg hf] at h
      have step : ∀ v, dwalk P ops w0 fl K (i + 1) l (a.put o.dst v) →
          ((Region.wanted o (yielded ops a.tmps) = true ∧ DQ P w0 o a v) ∨ (Region.wanted o (yielded ops a.tmps) = false ∧ v = undef)) → ∃ A val, K A ∧ HSpec P ops w0 i n fl a A val := by
        intro v hrest hex
        obtain ⟨A, val, hK, S⟩ := ih (i + 1) (a.put o.dst v) (by omega) (by omega) hat' (by rw [put_size]; exact hN) hrest
        have hsame : ∀ t ∈ o.looksAt ops, slot a t = slot A t := fun t ht => by
          rw [S.un t fun j p hj hj' hp hnf hd => by
            have := (hok.look i o j p t hm (by omega) ho (by omega) hj' hp hd ht).1
            omega]
          refine (slot_put_ne v fun hd => ?_).symm
          have := (hok.look i o i o t hm (by omega) ho hm (by omega) ho hd ht).1
          omega
        have hsz : a.tmps.size = A.tmps.size := by rw [S.size, put_size]
        refine ⟨A, fun j => if j = i then v else val j, hK, ⟨by rw [S.size, put_size], by rw [S.dfs, put_defers], fun t ht => ?_, fun j p d hj hj' hp hnf hd => ?_, fun j p hj hj' hp hnf => ?_⟩⟩
        · rw [S.un t fun j p hj hj' hp hnf => ht j p (by omega) hj' hp hnf]
          exact slot_put_ne v (ht i o (Nat.le_refl _) (by omega) ho hf)
        · by_cases hji : j = i
          · subst hji
            have : p = o := Option.some.inj (hp.symm.trans ho)
            subst this
            simp only [if_true]
            rw [S.un d fun k q hk hk' hq hnf' hd' => by
              have := hok.once j p k q d hm hj' hp (by omega) hk' hq (by omega) hd'
              exact this hd]
            rw [hd]
            exact slot_put_same v (by rw [hN]; exact hok.dst j p d hm hj' hp hd)
          · simp only [hji, if_false]
            exact S.wr j p d (by omega) hj' hp hnf hd
        · by_cases hji : j = i
          · subst hji
            have : p = o := Option.some.inj (hp.symm.trans ho)
            subst this
            simp only [if_true]
            rw [← wanted_same hsz hsame]
            rcases hex with ⟨h1, h2⟩ | h2
            · exact .inl ⟨h1, h2.same (fun cs b => Region.noSelect_spec hok.nosel j p cs b hp) hsame⟩
            · exact .inr h2
          · simp only [hji, if_false]
            exact S.ex j p (by omega) hj' hp hnf
      rcases h with ⟨hw, v, hv, hrest⟩ | ⟨hw, hrest⟩
      · exact step v hrest (.inl ⟨hw, hv⟩)
      · exact step undef hrest (.inr ⟨hw, rfl⟩)


/-- Which of the floaters are done. -/
def bits (fl : List Nat) (listed : Array Bool) (k : Nat) : Bool := fl.contains k && listed.getD k false
def also (D : Nat → Bool) (i k : Nat) : Bool := if k = i then true else D k

structure AInv (ops : Array Oper) (w0 : World) (N m n : Nat) (fl : List Nat) (R : Nat → (Nat → Bool) → Value → World → Prop) (a0 : Act) (val : Nat → Value) (listed : Array Bool) (a : Act) (w : World) : Prop where
  sz : listed.size = ops.size
  lo : ∀ j, j < m → listed.getD j false = true
  hi : ∀ j, n ≤ j → listed.getD j false = false
  cl : ∀ j o, ops[j]? = some o → m ≤ j → listed.getD j false = true → ∀ e ∈ o.after, Region.binds .any e = true → listed.getD e.on false = true
  ext : Ext w0 w
  tsz : a.tmps.size = N
  dfs : a.defers = a0.defers
  wrd : ∀ j o d, m ≤ j → j < n → ops[j]? = some o → o.dst = some d → listed.getD j false = true → j ∉ fl → slot a d = val j
  wrf : ∀ j o d, m ≤ j → j < n → ops[j]? = some o → o.dst = some d → listed.getD j false = true → j ∈ fl → R j (bits fl listed) (slot a d) w
  un : ∀ t, (∀ j o, m ≤ j → j < n → ops[j]? = some o → listed.getD j false = true → o.dst ≠ some t) → slot a t = slot a0 t

section head
variable {w0 : World} {N m n : Nat} {fl : List Nat} {R : Nat → (Nat → Bool) → Value → World → Prop} {a0 A : Act} {val : Nat → Value}

theorem bits_same {listed : Array Bool} {i : Nat} (h : i ∉ fl) : bits fl (listed.setIfInBounds i true) = bits fl listed := by
  funext k
  unfold bits
  by_cases hk : i = k
  · subst hk
    have : fl.contains i = false := by simpa using h
    rw [this]; rfl
  · rw [getD_set_other hk]
theorem bits_also {listed : Array Bool} {i : Nat} (h : i ∈ fl) (hi : i < listed.size) : bits fl (listed.setIfInBounds i true) = also (bits fl listed) i := by
  funext k
  unfold bits also
  by_cases hk : k = i
  · subst hk
    rw [if_pos rfl, getD_set_self hi]
    simpa using h
  · rw [if_neg hk, getD_set_other (Ne.symm hk)]

/-- A slot of a floater. -/
def flSlot (ops : Array Oper) (m n : Nat) (fl : List Nat) (t : Nat) : Prop := ∃ j p, m ≤ j ∧ j < n ∧ j ∈ fl ∧ ops[j]? = some p ∧ p.dst = some t
open Classical in
noncomputable def mix (ops : Array Oper) (m n : Nat) (fl : List Nat) (A a : Act) : Act := { A with tmps := Array.ofFn (n := A.tmps.size) fun t => if flSlot ops m n fl t.val then slot a t.val else slot A t.val }
theorem mix_size (a : Act) : (mix ops m n fl A a).tmps.size = A.tmps.size := by simp [mix]
theorem mix_in {a : Act} {t : Nat} (hsz : a.tmps.size = A.tmps.size) (h : flSlot ops m n fl t) : slot (mix ops m n fl A a) t = slot a t := by
  by_cases ht : t < A.tmps.size
  · simp [slot, mix, Array.getD, ht, hsz, h]
  · simp [slot, mix, Array.getD, ht, hsz]
theorem mix_out {a : Act} {t : Nat} (h : ¬ flSlot ops m n fl t) : slot (mix ops m n fl A a) t = slot A t := by
  by_cases ht : t < A.tmps.size
  · simp [slot, mix, Array.getD, ht, h]
  · simp [slot, mix, Array.getD, ht]

/-- What a floater does, whichever of the others are done. -/
def FX (P : Program) (ops : Array Oper) (w0 : World) (N m n : Nat) (fl : List Nat) (R : Nat → (Nat → Bool) → Value → World → Prop) (A : Act) (i : Nat) (o : Oper) : Prop :=
  ∀ (D : Nat → Bool) (a : Act) (w : World), Ext w0 w → a.tmps.size = N → a.defers = A.defers → (∀ t, ¬ flSlot ops m n fl t → slot a t = slot A t) → D i = false → (∀ j, m ≤ j → j ∈ fl → waits ops i j = true → D j = true) →
    (∀ j p d, m ≤ j → j < n → j ∈ fl → D j = true → ops[j]? = some p → p.dst = some d → R j D (slot a d) w) →
    Region.wanted o (yielded ops a.tmps) = true ∧ ((∃ v w', (execOp a.eval o).run P w = .ok (.value v) w' ∧ Ext w0 w' ∧ (∀ j p d, m ≤ j → j < n → j ∈ fl → D j = true → ops[j]? = some p → p.dst = some d → R j (also D i) (slot a d) w') ∧ R i (also D i) v w') ∨
      ∃ f args, (execOp a.eval o).run P w = .ok (.enter f args) w ∧ Calls P f args w (fun e w' => ∃ v, e = .returned v ∧ Ext w0 w' ∧ (∀ j p d, m ≤ j → j < n → j ∈ fl → D j = true → ops[j]? = some p → p.dst = some d → R j (also D i) (slot a d) w') ∧ R i (also D i) v w'))

theorem AInv.agree (hok : AOk ops N m n fl) (S : HSpec P ops w0 m n fl a0 A val) {listed : Array Bool} {a : Act} {w : World} (I : AInv ops w0 N m n fl R a0 val listed a w)
    {i : Nat} {o : Oper} (hm : m ≤ i) (hn : i < n) (ho : ops[i]? = some o) (hdep : ∀ e ∈ o.after, Region.binds .any e = true → listed.getD e.on false = true) :
    ∀ t ∈ o.looksAt ops, ¬ flSlot ops m n fl t → slot A t = slot a t := by
  intro t ht hnfl
  by_cases hex : ∃ j p, m ≤ j ∧ j < n ∧ ops[j]? = some p ∧ p.dst = some t
  · obtain ⟨j, p, hj, hj', hp, hd⟩ := hex
    obtain ⟨_, hw, _⟩ := hok.look i o j p t hm hn ho hj hj' hp hd ht
    have hnf : j ∉ fl := fun h => hnfl ⟨j, p, hj, hj', h, hp, hd⟩
    obtain ⟨e, he, hb, hon⟩ := waits_spec ho hw
    have hl := hdep e he hb
    rw [hon] at hl
    rw [S.wr j p t hj hj' hp hnf hd, I.wrd j p t hj hj' hp hd hl hnf]
  · rw [S.un t fun j p hj hj' hp _ hd => hex ⟨j, p, hj, hj', hp, hd⟩, I.un t fun j p hj hj' hp _ hd => hex ⟨j, p, hj, hj', hp, hd⟩]
theorem AOk.noFl (hok : AOk ops N m n fl) {i : Nat} {o : Oper} (hm : m ≤ i) (hn : i < n) (ho : ops[i]? = some o) (hf : i ∉ fl) : ∀ t ∈ o.looksAt ops, ¬ flSlot ops m n fl t := by
  rintro t ht ⟨j, p, hj, hj', hjf, hp, hd⟩
  exact hf ((hok.look i o j p t hm hn ho hj hj' hp hd ht).2.2 hjf)

theorem AInv.next (hok : AOk ops N m n fl) {listed : Array Bool} {a : Act} {w w' : World} (I : AInv ops w0 N m n fl R a0 val listed a w)
    {i : Nat} {o : Oper} {v : Value} (hm : m ≤ i) (hn : i < n) (ho : ops[i]? = some o) (hun : listed.getD i false = false)
    (hdep : ∀ e ∈ o.after, Region.binds .any e = true → listed.getD e.on false = true) (hx : Ext w0 w') (hvd : i ∉ fl → v = val i)
    (hvf : i ∈ fl → R i (bits fl (listed.setIfInBounds i true)) v w') (hold : ∀ j p d, m ≤ j → j < n → j ∈ fl → listed.getD j false = true → ops[j]? = some p → p.dst = some d → R j (bits fl (listed.setIfInBounds i true)) (slot a d) w') :
    AInv ops w0 N m n fl R a0 val (listed.setIfInBounds i true) (a.put o.dst v) w' := by
  have hi : i < listed.size := by rw [I.sz]; exact (Array.getElem?_eq_some_iff.1 ho).1
  have hset : ∀ j, (listed.setIfInBounds i true).getD j false = true → j ≠ i → listed.getD j false = true := fun j h hne => by rwa [getD_set_other (Ne.symm hne)] at h
  have hmono : ∀ j, listed.getD j false = true → (listed.setIfInBounds i true).getD j false = true := fun j h => by
    by_cases hj : i = j
    · subst hj; exact getD_set_self hi
    · rwa [getD_set_other hj]
  have hkeep : ∀ j p d, m ≤ j → j < n → ops[j]? = some p → j ≠ i → p.dst = some d → slot (a.put o.dst v) d = slot a d := fun j p d hj hj' hp hne hd =>
    slot_put_ne v (hok.once i o j p d hm hn ho hj hj' hp hne hd)
  refine ⟨by simpa using I.sz, fun j hj => hmono j (I.lo j hj), fun j hj => ?_, fun j p hp hj hl e he hb => ?_, hx, by rw [put_size]; exact I.tsz, by rw [put_defers]; exact I.dfs, fun j p d hj hj' hp hd hl hnf => ?_, fun j p d hj hj' hp hd hl hf => ?_, fun t ht => ?_⟩
  · rw [getD_set_other (by omega)]; exact I.hi j hj
  · by_cases hji : j = i
    · subst hji
      have : p = o := Option.some.inj (hp.symm.trans ho)
      subst this
      exact hmono _ (hdep e he hb)
    · exact hmono _ (I.cl j p hp hj (hset j hl hji) e he hb)
  · by_cases hji : j = i
    · subst hji
      have : p = o := Option.some.inj (hp.symm.trans ho)
      subst this
      rw [hd, slot_put_same v (by rw [I.tsz]; exact hok.dst j p d hj hj' hp hd)]
      exact hvd hnf
    · rw [hkeep j p d hj hj' hp hji hd]
      exact I.wrd j p d hj hj' hp hd (hset j hl hji) hnf
  · by_cases hji : j = i
    · subst hji
      have : p = o := Option.some.inj (hp.symm.trans ho)
      subst this
      rw [hd, slot_put_same v (by rw [I.tsz]; exact hok.dst j p d hj hj' hp hd)]
      exact hvf hf
    · rw [hkeep j p d hj hj' hp hji hd]
      exact hold j p d hj hj' hf (hset j hl hji) hp hd
  · rw [slot_put_ne v (ht i o hm hn ho (getD_set_self hi))]
    exact I.un t fun j p hj hj' hp hl => ht j p hj hj' hp (hmono j hl)

/-- Only what lies in the head may come up while some of it has not. -/
theorem AInv.ready_lt (hok : AOk ops N m n fl) {listed : Array Bool} {a : Act} {w : World} (I : AInv ops w0 N m n fl R a0 val listed a w)
    {i : Nat} (hm : m ≤ i) (hn : i < n) (hun : listed.getD i false = false) : ∀ t ∈ Region.ready .any ops listed, m ≤ t ∧ t < n := by
  intro t ht
  obtain ⟨h1, o, ho, hall⟩ := mem_ready.1 ht
  have htl : t < ops.size := (Array.getElem?_eq_some_iff.1 ho).1
  rw [getD_true_false (by rw [I.sz]; exact htl)] at h1
  refine ⟨Nat.le_of_not_lt fun h => (by rw [I.lo t h] at h1; cases h1), Nat.lt_of_not_le fun hge => ?_⟩
  rcases Nat.lt_or_eq_of_le hge with hgt | heq
  · obtain ⟨s, hs, _, hw⟩ := hok.tail t hgt htl
    obtain ⟨e, he, hb, hon⟩ := waits_spec ho hw
    have := hall e he hb
    rw [hon, I.hi s hs] at this
    cases this
  · subst heq
    have key : ∀ k i, n - i = k → m ≤ i → i < n → listed.getD i false = false → False := by
      intro k
      induction k using Nat.strongRecOn with
      | _ k ih =>
        intro i hk hm hn hun
        obtain ⟨j, hj, hij, hw⟩ := hok.sink htl i hm hn
        rcases Nat.lt_or_eq_of_le hj with hlt | heq
        · cases hl : listed.getD j false with
          | false => exact ih (n - j) (by omega) j rfl (by omega) hlt hl
          | true =>
            cases hp : ops[j]? with
            | none => have := Array.getElem?_eq_none_iff.1 hp; omega
            | some p =>
              obtain ⟨e, he, hb, hon⟩ := waits_spec hp hw
              have := I.cl j p hp (by omega) hl e he hb
              rw [hon, hun] at this
              cases this
        · subst heq
          obtain ⟨e, he, hb, hon⟩ := waits_spec ho hw
          have := hall e he hb
          rw [hon, hun] at this
          cases this
    exact key _ i rfl hm hn hun

/-- The first of them that has not come up may come up. -/
theorem AInv.some_ready (hok : AOk ops N m n fl) {listed : Array Bool} {a : Act} {w : World} (I : AInv ops w0 N m n fl R a0 val listed a w)
    {i : Nat} (hm : m ≤ i) (hn : i < n) (hun : listed.getD i false = false) : Region.ready .any ops listed ≠ [] := by
  have key : ∀ k i, i = k → m ≤ i → i < n → listed.getD i false = false → ∃ t, t ∈ Region.ready .any ops listed := by
    intro k
    induction k using Nat.strongRecOn with
    | _ k ih =>
      intro i hk hm hn hun
      subst hk
      cases ho : ops[i]? with
      | none => have := Array.getElem?_eq_none_iff.1 ho; have := hok.ns; omega
      | some o =>
        have hil : i < listed.size := by rw [I.sz]; exact (Array.getElem?_eq_some_iff.1 ho).1
        by_cases hall : ∀ e ∈ o.after, Region.binds .any e = true → listed.getD e.on false = true
        · exact ⟨i, mem_ready.2 ⟨by rw [getD_true_false hil]; exact hun, o, ho, hall⟩⟩
        · have : ∃ e ∈ o.after, Region.binds .any e = true ∧ listed.getD e.on false ≠ true := by
            apply Classical.byContradiction
            intro hno
            exact hall fun e he hb => Classical.byContradiction fun hc => hno ⟨e, he, hb, hc⟩
          obtain ⟨e, he, hb, hc⟩ := this
          have hlt := hok.back i o hm hn ho e he hb
          have hun' : listed.getD e.on false = false := by simpa using hc
          have hme : m ≤ e.on := Nat.le_of_not_lt fun h => (by rw [I.lo _ h] at hun'; cases hun')
          exact ih e.on hlt e.on rfl hme (by omega) hun'
  obtain ⟨t, ht⟩ := key i i rfl hm hn hun
  intro h0
  rw [h0] at ht
  cases ht

theorem head_allA (hok : AOk ops N m n fl) (hR : ∀ j D v w w', R j D v w → Ext w w' → R j D v w') (S : HSpec P ops w0 m n fl a0 A val) (hsz : A.tmps.size = N)
    (hdf : A.defers = a0.defers) (hfl : ∀ i o, m ≤ i → i < n → ops[i]? = some o → i ∈ fl → FX P ops w0 N m n fl R A i o)
    (hend : ∀ a w, AInv ops w0 N m n fl R a0 val (upto ops.size n) a w → Run P ops Q n a w) :
    ∀ (k : Nat) (listed : Array Bool) (a : Act) (w : World), open_ m n listed = k → AInv ops w0 N m n fl R a0 val listed a w → wpAny P .any ops Q (k + (ops.size - n)) listed a w := by
  intro k
  induction k with
  | zero =>
    intro listed a w hk I
    have hall := open_zero hk
    have : listed = upto ops.size n := by
      apply Array.ext
      · rw [I.sz, upto_size]
      · intro j h1 h2
        have h1' : listed.getD j false = listed[j] := by simp [Array.getD, h1]
        have h2' : (upto ops.size n).getD j false = (upto ops.size n)[j] := by simp [Array.getD, h2]
        rw [← h1', ← h2', upto_getD, if_pos (by rw [← I.sz]; exact h1)]
        by_cases hjn : j < n
        · by_cases hjm : j < m
          · rw [I.lo j hjm]; simp [hjn]
          · rw [hall j (by omega) hjn]; simp [hjn]
        · rw [I.hi j (by omega)]; simp [hjn]
    subst this
    rw [Nat.zero_add]
    exact hend a w I
  | succ k ih =>
    intro listed a w hk I
    have hex : ∃ i, m ≤ i ∧ i < n ∧ listed.getD i false = false := by
      apply Classical.byContradiction
      intro hno
      have : open_ m n listed = 0 := by
        unfold open_
        rw [List.filter_eq_nil_iff.2, List.length_nil]
        intro j hj hc
        simp only [Bool.and_eq_true, decide_eq_true_eq, Bool.not_eq_true'] at hc
        exact hno ⟨j, hc.1, List.mem_range.1 hj, hc.2⟩
      omega
    obtain ⟨i0, hm0, hn0, hun0⟩ := hex
    have hsel := fun j o ho cs b => Region.noSelect_spec hok.nosel j o cs b ho
    rw [show k + 1 + (ops.size - n) = (k + (ops.size - n)) + 1 by omega]
    refine ⟨fun h0 => absurd h0 (I.some_ready hok hm0 hn0 hun0), fun i hi => ?_⟩
    obtain ⟨hm, hn⟩ := I.ready_lt hok hm0 hn0 hun0 i hi
    obtain ⟨h1, o, ho, hdep⟩ := mem_ready.1 hi
    have hil : i < listed.size := by rw [I.sz]; exact (Array.getElem?_eq_some_iff.1 ho).1
    rw [getD_true_false hil] at h1
    have hag := I.agree hok S hm hn ho hdep
    have hop : open_ m n (listed.setIfInBounds i true) = k := by
      have := open_set hm hn hil h1
      omega
    unfold wpOp
    rw [ho]
    simp only
    by_cases hf : i ∈ fl
    · have hmag : ∀ t ∈ o.looksAt ops, slot (mix ops m n fl A a) t = slot a t := fun t ht => by
        by_cases hfs : flSlot ops m n fl t
        · exact mix_in (I.tsz.trans hsz.symm) hfs
        · rw [mix_out hfs]; exact hag t ht hfs
      have hms : (mix ops m n fl A a).tmps.size = a.tmps.size := by rw [mix_size, hsz, I.tsz]
      have hsl : ∀ j p d, m ≤ j → j < n → j ∈ fl → ops[j]? = some p → p.dst = some d → slot (mix ops m n fl A a) d = slot a d := fun j p d hj hj' hjf hp hd => mix_in (I.tsz.trans hsz.symm) ⟨j, p, hj, hj', hjf, hp, hd⟩
      have hb : ∀ j, bits fl listed j = true → listed.getD j false = true := fun j h => by
        simp only [bits, Bool.and_eq_true] at h; exact h.2
      have hb' : ∀ j, j ∈ fl → listed.getD j false = true → bits fl listed j = true := fun j h h' => by
        simp only [bits, Bool.and_eq_true]; exact ⟨by simpa using h, h'⟩
      obtain ⟨hw, hres⟩ := hfl i o hm hn ho hf (bits fl listed) (mix ops m n fl A a) w I.ext (by rw [mix_size, hsz]) rfl (fun t ht => mix_out ht) (by simp only [bits, h1, Bool.and_false])
        (fun j hj hjf hw => by
          obtain ⟨e, he, hbd, hon⟩ := waits_spec ho hw
          have := hdep e he hbd
          rw [hon] at this
          exact hb' j hjf this)
        (fun j p d hj hj' hjf hD hp hd => by rw [hsl j p d hj hj' hjf hp hd]; exact I.wrf j p d hj hj' hp hd (hb j hD) hjf)
      have hcg := execOp_congr o (fun cs b => hsel i o ho cs b) (eval_same hmag)
      rw [if_pos (by rw [← wanted_same hms hmag]; exact hw)]
      refine .inl ?_
      have go : ∀ (v : Value) (w' : World), Ext w0 w' → (∀ j p d, m ≤ j → j < n → j ∈ fl → bits fl listed j = true → ops[j]? = some p → p.dst = some d → R j (also (bits fl listed) i) (slot (mix ops m n fl A a) d) w') → R i (also (bits fl listed) i) v w' →
          wpAny P .any ops Q (k + (ops.size - n)) (listed.setIfInBounds i true) (a.put o.dst v) w' := fun v w' hx hold hv =>
        ih _ _ _ hop (I.next hok hm hn ho h1 hdep hx (fun h => absurd hf h) (fun _ => by rw [bits_also hf hil]; exact hv) fun j p d hj hj' hjf hl hp hd => by
          rw [bits_also hf hil, ← hsl j p d hj hj' hjf hp hd]
          exact hold j p d hj hj' hjf (hb' j hjf hl) hp hd)
      unfold Oper.wp
      rcases hres with ⟨v, w', hr, hx, hold, hv⟩ | ⟨f, args, hr, hc⟩
      · rw [← hcg, hr]
        exact go v w' hx hold hv
      · rw [← hcg, hr]
        refine Calls.mono hc ?_
        rintro e w' ⟨v, rfl, hx, hold, hv⟩
        exact go v w' hx hold hv
    · have hag' : ∀ t ∈ o.looksAt ops, slot A t = slot a t := fun t ht => hag t ht (hok.noFl hm hn ho hf t ht)
      have hwa := wanted_same (hsz.trans I.tsz.symm) hag'
      have go : ∀ (v : Value) (w' : World), Ext w w' → v = val i →
          wpAny P .any ops Q (k + (ops.size - n)) (listed.setIfInBounds i true) (a.put o.dst v) w' := fun v w' hx hd =>
        ih _ _ _ hop (I.next hok hm hn ho h1 hdep (I.ext.trans hx) (fun _ => hd) (fun h => absurd h hf) fun j p d hj hj' hjf hl hp hd => by
          rw [bits_same hf]
          exact hR _ _ _ _ _ (I.wrf j p d hj hj' hp hd hl hjf) hx)
      rcases S.ex i o hm hn ho hf with ⟨hw, hq⟩ | ⟨hw, hq⟩
      · rw [if_pos (by rw [← hwa]; exact hw)]
        refine .inl ?_
        have := (hq.same (fun cs b => hsel i o ho cs b) hag') w I.ext
        unfold Oper.wp
        rcases this with hr | ⟨hr, hv⟩ | ⟨f, args, hr, hc⟩
        · rw [hr]
          exact go _ w (Ext.refl w) rfl
        · rw [hr]
          exact go _ w (Ext.refl w) hv.symm
        · rw [hr]
          refine Calls.mono hc ?_
          rintro e w' ⟨rfl, hx⟩
          exact go _ w' hx rfl
      · rw [if_neg (by rw [← hwa, hw]; exact Bool.false_ne_true)]
        exact go _ w (Ext.refl w) hq.symm

/-- **A HEAD**: operations m .. n-1, from the state in which the first m have come up. -/
theorem run_headA (N m n : Nat) (fl : List Nat) (R : Nat → (Nat → Bool) → Value → World → Prop) (l : List Oper) (hB : headA ops N m n fl = true) (hl : (ops.toList.drop m).take (n - m) = l) {a : Act} {w0 w : World} (hx0 : Ext w0 w) (hN : a.tmps.size = N) (hR : ∀ j D v w w', R j D v w → Ext w w' → R j D v w')
    (h : dwalk P ops w0 fl (fun A => (A.defers = a.defers → ∀ i o, m ≤ i → i < n → ops[i]? = some o → i ∈ fl → FX P ops w0 N m n fl R A i o) ∧
      ∀ a' w', Ext w0 w' → a'.tmps.size = N → a'.defers = a.defers →
        (∀ t, ¬ flSlot ops m n fl t → slot a' t = slot A t) →
        (∀ i o d, m ≤ i → i < n → ops[i]? = some o → i ∈ fl → o.dst = some d → R i (fun k => fl.contains k && decide (k < n)) (slot a' d) w') → Run P ops Q n a' w') m l a) : Run P ops Q m a w := by
  have hok := headA_spec hB
  have hlen : l.length = n - m := by rw [← hl]; have := hok.ns; simp; omega
  obtain ⟨A, val, ⟨hfl, hK⟩, S⟩ := dwalk_specA hok l m a (Nat.le_refl _) (by have := hok.mn; omega) (fun j hj => by
    rw [← hl, List.getElem?_take, if_pos (by omega), List.getElem?_drop]; simp) hN h
  have hsize : ops.size - m = (n - m) + (ops.size - n) := by have := hok.ns; have := hok.mn; omega
  unfold Run
  rw [hsize]
  refine head_allA hok hR S (by rw [S.size, hN]) S.dfs (hfl S.dfs) (fun a' w' I => ?_) _ _ _ _ ?_ ⟨upto_size _ _, fun j hj => ?_, fun j hj => ?_, fun j o ho hm hl => ?_, hx0, hN, rfl, fun j o d hm hn ho hd hl => ?_, fun j o d hm hn ho hd hl => ?_, fun _ _ => rfl⟩
  · have hall : ∀ j, j < n → (upto ops.size n).getD j false = true := fun j hj => by
      rw [upto_getD, if_pos (by have := hok.ns; omega)]; simp [hj]
    refine hK a' w' I.ext I.tsz I.dfs (fun t ht => ?_) (fun i o d hm hn ho hf hd => by
      have := I.wrf i o d hm hn ho hd (hall i hn) hf
      have hbits : bits fl (upto ops.size n) = fun k => fl.contains k && decide (k < n) := by
        funext k
        unfold bits
        rw [upto_getD]
        by_cases hk : k < ops.size
        · rw [if_pos hk]
        · rw [if_neg hk, decide_eq_false (by have := hok.ns; omega)]
      rwa [hbits] at this)
    by_cases hex : ∃ j p, m ≤ j ∧ j < n ∧ ops[j]? = some p ∧ p.dst = some t
    · obtain ⟨j, p, hj, hj', hp, hd⟩ := hex
      have hnf : j ∉ fl := fun hf => ht ⟨j, p, hj, hj', hf, hp, hd⟩
      rw [S.wr j p t hj hj' hp hnf hd, I.wrd j p t hj hj' hp hd (hall j hj') hnf]
    · rw [S.un t fun j p hj hj' hp _ hd => hex ⟨j, p, hj, hj', hp, hd⟩, I.un t fun j p hj hj' hp _ hd => hex ⟨j, p, hj, hj', hp, hd⟩]
  · unfold open_
    have : ((List.range n).filter fun j => decide (m ≤ j) && !(upto ops.size m).getD j false) = (List.range n).filter fun j => decide (m ≤ j) :=
      List.filter_congr fun j hj => by
        rw [upto_getD]
        have := hok.ns
        have := List.mem_range.1 hj
        rw [if_pos (by omega)]
        by_cases h : m ≤ j
        · simp [h, show ¬ j < m by omega]
        · simp [h]
    rw [this]
    have key : ∀ n, m ≤ n → ((List.range n).filter fun j => decide (m ≤ j)).length = n - m := by
      intro n
      induction n with
      | zero => intro _; simp
      | succ n ih =>
        intro h
        rw [List.range_succ, List.filter_append, List.length_append]
        by_cases hmn : m ≤ n
        · rw [ih hmn]; simp [hmn]; omega
        · have : m = n + 1 := by omega
          subst this
          rw [List.filter_eq_nil_iff.2 (fun j hj => by have := List.mem_range.1 hj; simp; omega)]
          simp
    exact key n hok.mn
  · rw [upto_getD, if_pos (by have := hok.ns; have := hok.mn; omega)]; simp [hj]
  · rw [upto_getD]
    split
    · have := hok.mn; simp; omega
    · rfl
  · have := (Array.getElem?_eq_some_iff.1 ho).1
    rw [upto_getD, if_pos this] at hl
    simp at hl
    omega
  · have := (Array.getElem?_eq_some_iff.1 ho).1
    rw [upto_getD, if_pos this] at hl
    simp at hl
    omega
  · have := (Array.getElem?_eq_some_iff.1 ho).1
    rw [upto_getD, if_pos this] at hl
    simp at hl
    omega
end head
end
end Go.Fw
namespace Go.Fw
open Go Go.RowKit
section
variable {P : Program} {ops : Array Oper} {Q : Exit → Act → World → Prop} {N : Nat} {a : Act} {w : World} {m : List (Nat × Value)} {o : Oper}
/-- What a floater's operation does in one frame and world. -/
def SX (P : Program) (ops : Array Oper) (o : Oper) (a : Act) (w : World) (R : Value → World → Prop) : Prop :=
  Region.wanted o (yielded ops a.tmps) = true ∧ ((∃ v w', (execOp a.eval o).run P w = .ok (.value v) w' ∧ Ext w w' ∧ R v w') ∨
    ∃ f args, (execOp a.eval o).run P w = .ok (.enter f args) w ∧ Calls P f args w (fun e w' => ∃ v, e = .returned v ∧ Ext w w' ∧ R v w'))
theorem sx_gv {R : Value → World → Prop} {v : Value} (hw : Region.wanted o (yielded ops a.tmps) = true) (hv : Gv P o a w v) (hr : R v w) : SX P ops o a w R := ⟨hw, .inl ⟨v, w, hv, Ext.refl w, hr⟩⟩
theorem sx_call {R : Value → World → Prop} {f : FuncId} {xs : List Operand} {vs : List Value} {ats : Array TypeId} (hw : Region.wanted o (yielded ops a.tmps) = true) (hf : CallOk P f)
    (ho : o.op = .call { callee := .value (.func f), args := xs.toArray, argTypes := ats }) (hx : Evs a xs vs) (hc : Calls P f vs.toArray w fun e w' => ∃ v, e = .returned v ∧ R v w' ∧ Ext w w') : SX P ops o a w R :=
  ⟨hw, .inr ⟨f, vs.toArray, run_callOp hf ho hx, hc.mono fun _ _ ⟨v, he, hr, hx⟩ => ⟨v, he, hx, hr⟩⟩⟩
abbrev Flo := List (Nat × Nat × (Value → World → Prop))
/-- The floaters' slots with what they hold. -/
def held (F : Flo) (a : Act) : List (Nat × Value) := F.map fun x => (x.2.1, slot a x.2.1)
def depsOf (ops : Array Oper) (F : Flo) (i : Nat) (a : Act) (w : World) : Prop := ∀ x ∈ F, waits ops i x.1 = true → x.2.2 (slot a x.2.1) w
theorem look_held {F : Flo} {a : Act} {m : List (Nat × Value)} {t : Nat} {v : Value} (h : look t (held F a ++ m) = some v) : (v = slot a t ∧ ∃ x ∈ F, x.2.1 = t) ∨ ((∀ x ∈ F, x.2.1 ≠ t) ∧ look t m = some v) := by
  induction F with
  | nil => exact .inr ⟨(fun _ h' => by cases h'), h⟩
  | cons x F ih =>
    simp only [held, List.map_cons, List.cons_append] at h
    by_cases ht : t = x.2.1
    · subst ht
      rw [look_cons_eq] at h
      injection h with h
      exact .inl ⟨h.symm, x, List.mem_cons_self, rfl⟩
    · rw [look_cons_ne ht] at h
      rcases ih h with ⟨h1, y, hy, h2⟩ | ⟨h1, h2⟩
      · exact .inl ⟨h1, y, List.mem_cons_of_mem _ hy, h2⟩
      · exact .inr ⟨fun y hy => by
          rcases List.mem_cons.1 hy with rfl | hy
          · exact Ne.symm ht
          · exact h1 y hy, h2⟩
theorem fr_held {F : Flo} {A b : Act} {M n : Nat} {fl : List Nat} (hfl : fl = F.map (·.1)) (hd : ∀ x ∈ F, (ops[x.1]?).bind (·.dst) = some x.2.1) (hs : b.tmps.size = N) (hdf : b.defers = a.defers) (hF : Fr N a m)
    (hsl : ∀ t, ¬ flSlot ops M n fl t → slot b t = slot A t) : ∀ mm, Fr N A mm → Fr N b (held F b ++ mm) := fun mm hm => by
  refine ⟨hs, hdf.trans hF.dfs, fun t v hv => ?_⟩
  rcases look_held hv with ⟨rfl, _⟩ | ⟨h1, h2⟩
  · rfl
  · rw [← hm.get t v h2]
    refine hsl t ?_
    rintro ⟨j, p, _, _, hjf, hp, hpd⟩
    rw [hfl] at hjf
    obtain ⟨x, hx, rfl⟩ := List.mem_map.1 hjf
    have := hd x hx
    rw [hp] at this
    have e : some x.2.1 = some t := this.symm.trans hpd
    injection e with e
    exact h1 x hx e
def nodupB : List Nat → Bool
  | [] => true
  | x :: l => !l.contains x && nodupB l
theorem nodup_inj : ∀ F : Flo, nodupB (F.map (·.1)) = true → ∀ x ∈ F, ∀ y ∈ F, x.1 = y.1 → x = y
  | [], _, _, hx, _, _, _ => by cases hx
  | z :: F, h, x, hx, y, hy, he => by
    simp only [List.map_cons, nodupB, Bool.and_eq_true, Bool.not_eq_true', List.contains_eq_mem, decide_eq_false_iff_not] at h
    rcases List.mem_cons.1 hx with rfl | hx1 <;> rcases List.mem_cons.1 hy with rfl | hy1
    · rfl
    · exact absurd (show x.1 ∈ F.map (fun x => x.1) from List.mem_map.2 ⟨y, hy1, he.symm⟩) h.1
    · exact absurd (show y.1 ∈ F.map (fun x => x.1) from List.mem_map.2 ⟨x, hx1, he⟩) h.1
    · exact nodup_inj F h.2 x hx1 y hy1 he
theorem fa_nil {α : Type} {p : α → Prop} : ∀ x ∈ ([] : List α), p x := fun _ h => by cases h
theorem fa_cons {α : Type} {p : α → Prop} {z : α} {l : List α} (h : p z) (t : ∀ x ∈ l, p x) : ∀ x ∈ z :: l, p x := fun x hx => by
  rcases List.mem_cons.1 hx with rfl | hx
  · exact h
  · exact t x hx
/-- The value itself is known. -/
def FlE (v0 : Value) : Value → World → Prop := fun v _ => v = v0
theorem FlE.lasts (v0 : Value) : Lasts (FlE v0) := fun _ _ _ h _ => h
/-- **A HEAD WITH FLOATERS THAT LOOK AT EACH OTHER**, each with a fact on its value that lasts. -/
theorem run_headS {n0 n : Nat} (l : List Oper) (F : Flo) (hF : Fr N a m) (hB : headA ops N n0 n (F.map (·.1)) = true) (hl : (ops.toList.drop n0).take (n - n0) = l) (hd : ∀ x ∈ F, (ops[x.1]?).bind (·.dst) = some x.2.1) (hR : ∀ x ∈ F, Lasts x.2.2) (hin : ∀ x ∈ F, n0 ≤ x.1 ∧ x.1 < n)
    (hu' : nodupB (F.map (·.1)) = true)
    (h : dwalk P ops w (F.map (·.1)) (fun A => (∀ x ∈ F, ∀ b w', Ext w w' → (∀ mm, Fr N A mm → Fr N b (held F b ++ mm)) → depsOf ops F x.1 b w' → ∃ o, ops[x.1]? = some o ∧ SX P ops o b w' x.2.2) ∧
      ∀ b w', Ext w w' → (∀ mm, Fr N A mm → Fr N b (held F b ++ mm)) → (∀ x ∈ F, x.2.2 (slot b x.2.1) w') → Run P ops Q n b w') n0 l a) : Run P ops Q n0 a w := by
  have hu := nodup_inj F hu'
  obtain ⟨fl, hfl⟩ : ∃ fl, fl = F.map (·.1) := ⟨_, rfl⟩
  rw [← hfl] at hB h
  have hmem : ∀ x ∈ F, x.1 ∈ fl := fun x hx => by rw [hfl]; exact List.mem_map.2 ⟨x, hx, rfl⟩
  have hback : ∀ i ∈ fl, ∃ x ∈ F, x.1 = i := fun i hi => by rw [hfl] at hi; exact List.mem_map.1 hi
  have hst : ∀ (j : Nat) (D : Nat → Bool) (v : Value) (w w' : World), (∀ x ∈ F, x.1 = j → x.2.2 v w) → Ext w w' → ∀ x ∈ F, x.1 = j → x.2.2 v w' := fun j D v w w' h hx x hxF hi => hR x hxF v w w' (h x hxF hi) hx
  refine run_headA (P := P) (ops := ops) (Q := Q) (w0 := w) (w := w) (a := a) N n0 n fl (fun i _ v w => ∀ x ∈ F, x.1 = i → x.2.2 v w) l hB hl (Ext.refl w) hF.size hst
    (dwalk_mono (fun A hA => ⟨fun hdA i o hm hn ho hf => ?_, fun b w' hx hs hdf hsl hr => ?_⟩) _ _ _ h)
  · obtain ⟨x, hxF, rfl⟩ := hback i hf
    intro D b w' hx hs hdf hsl hDi hDd hold
    have key := hA.1 x hxF b w' hx (fr_held (fl := fl) (M := n0) (n := n) hfl hd hs (hdf.trans hdA) hF hsl) (fun y hy hw => by
      have hDy := hDd y.1 (hin y hy).1 (hmem y hy) hw
      have hdy := hd y hy
      cases hp : ops[y.1]? with
      | none => rw [hp] at hdy; cases hdy
      | some p =>
        rw [hp] at hdy
        exact hold y.1 p y.2.1 (hin y hy).1 (hin y hy).2 (hmem y hy) hDy hp hdy y hy rfl)
    obtain ⟨o', ho', hw, hres⟩ := key
    have hoo : o' = o := Option.some.inj (ho'.symm.trans ho)
    subst hoo
    have mine : ∀ v w'', x.2.2 v w'' → ∀ y ∈ F, y.1 = x.1 → y.2.2 v w'' := fun v w'' hv y hy hyx => by rw [hu y hy x hxF hyx]; exact hv
    have keep : ∀ w'', Ext w' w'' → ∀ j p d, n0 ≤ j → j < n → j ∈ fl → D j = true → ops[j]? = some p → p.dst = some d → ∀ y ∈ F, y.1 = j → y.2.2 (slot b d) w'' := fun w'' hx'' j p d hj hj' hjf hD hp hd' y hy hyj =>
      hR y hy _ _ _ (hold j p d hj hj' hjf hD hp hd' y hy hyj) hx''
    refine ⟨hw, ?_⟩
    rcases hres with ⟨v, w'', hr, hx', hv⟩ | ⟨f, args, hr, hc⟩
    · exact .inl ⟨v, w'', hr, hx.trans hx', keep w'' hx', mine v w'' hv⟩
    · exact .inr ⟨f, args, hr, hc.mono fun e w'' ⟨v, he, hx', hv⟩ => ⟨v, he, hx.trans hx', keep w'' hx', mine v w'' hv⟩⟩
  · refine hA.2 b w' hx (fr_held (fl := fl) (M := n0) (n := n) hfl hd hs hdf hF hsl) fun x hxF => ?_
    have hdx := hd x hxF
    cases hp : ops[x.1]? with
    | none => rw [hp] at hdx; cases hdx
    | some p =>
      rw [hp] at hdx
      exact hr x.1 p x.2.1 (hin x hxF).1 (hin x hxF).2 hp (hmem x hxF) hdx x hxF rfl
end
end Go.Fw
namespace Go.Fw
open Go Go.RowKit
section
variable {P : Program} {N : Nat} {a : Act} {w w0 : World} {m : List (Nat × Value)} {H : List Ent} {o : Oper} {ops : Array Oper} {K : Act → World → Prop} {Q : Exit → Act → World → Prop} {t e : TypeId}
theorem stp_build3 {k : Nat} (hF : Fr N a m) (hw : Region.wanted o (yielded ops a.tmps) = true) (hd : o.dst = some k) (hN : Nat.blt k N = true) (ho : o.op = .buildSlice t 3 #[(0, .const (.int .u8 0)), (1, .const (.int .u8 0)), (2, .const (.int .u8 0))]) (ht : P.underlying t = some (.slice e)) {by_ : Nat} (hty : Ty P e (.int .u8 0) 1 by_) (hS : St w0 w H)
    (h : ∀ b a' w', Fr N a' ((k, .slice (some ⟨b, 0, none⟩) 3 3) :: m) → St w0 w' (⟨true, some b, blkB e [0, 0, 0]⟩ :: H) → K a' w') : Stp P ops Q o a w K := by
  obtain ⟨i, h1, h2, h3, h4⟩ := hty.get
  refine stp_val hF hw hd hN (w' := w.alloc (.cells [vB 0, vB 0, vB 0].toArray e)) ?_ fun a' hF' => h _ a' _ hF' (hS.alloc _)
  have := run_buildSlice (P := P) w t e 3 #[(0, vB 0), (1, vB 0), (2, vB 0)] [vB 0, vB 0, vB 0].toArray i (.int .u8 0) ht h1 h2 (by rw [h3]; decide) (by rw [h3]; decide) (by
    rw [h3, show (Array.range (3 * 1)).map (fun j => (Value.int .u8 0).cells[j % (Value.int .u8 0).cells.size]!) = #[.int .u8 0, .int .u8 0, .int .u8 0] from by rw [show Array.range (3 * 1) = #[0, 1, 2] from by decide]; simp [Value.cells]]
    refine (fill_cons (place := fun i => some (i * 1, 1)) (v := vB 0) (i := 0) (rest := [(1, vB 0), (2, vB 0)]) (zs := [.int .u8 0, .int .u8 0, .int .u8 0]) (vs := [vB 0]) (off := 0) rfl rfl (by simp)).trans ?_
    refine (fill_cons (place := fun i => some (i * 1, 1)) (v := vB 0) (i := 1) (rest := [(2, vB 0)]) (vs := [vB 0]) (off := 1) rfl rfl (by simp [splice])).trans ?_
    refine (fill_cons (place := fun i => some (i * 1, 1)) (v := vB 0) (i := 2) (rest := []) (vs := [vB 0]) (off := 2) rfl rfl (by simp [splice])).trans ?_
    rw [fill_nil]; rfl)
  simp [execOp, ho]
  show ((Instr.buildSlice t 3 #[(0, vB 0), (1, vB 0), (2, vB 0)]).run P w).andThen _ = _
  rw [this]; rfl
end
end Go.Fw
namespace Go.Fw
open Go Go.RowKit
section
variable {P : Program} {ops : Array Oper} {a : Act} {w : World} {o : Oper} {t e : TypeId} {x y : Operand}
theorem sx_sliceLo {v : Value} {l : List UInt8} {lo : Nat} (hw : Region.wanted o (yielded ops a.tmps) = true) (ho : o.op = .slice t x (some y) none none) (ht : P.underlying t = some (.slice e)) (hz : (P.info? e).map (·.size) = some 1) (hx : a.eval x = v) (hy : a.eval y = vI lo) (h : lo ≤ l.length) (hr : Rd w v (l.map vB)) : SX P ops o a w (FlR ((l.drop lo).map vB)) := by
  obtain ⟨A, c, rfl, _, _, _⟩ := hr.isB
  refine sx_gv hw (gv_sliceLo ho ht hz hx hy h) ?_
  have := hr.cutLo h
  rwa [← List.map_drop] at this
end
end Go.Fw
