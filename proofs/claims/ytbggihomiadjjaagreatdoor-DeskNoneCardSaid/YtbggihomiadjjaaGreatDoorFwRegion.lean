/- What is proved: a region that draws its order may be walked once, in the order of the text: first the operations that yield one value in every later world ('dwalk'), then those that lay new memory ('floaters', of whose value a lasting fact is known), then what waits for all of them. Over any program. -/
import Derived.WalkKit
namespace Go.Fw
open Go Go.RowKit

/-- Every block of 'w' stands in 'w'' as it stood. -/
abbrev Ext (w w' : World) : Prop := Below w.heap.size w w'
theorem Ext.refl (w : World) : Ext w w := Below.refl _ _
theorem Ext.trans {a b c : World} (h : Ext a b) (k : Ext b c) : Ext a c := Below.trans h (k.mono h.size)
theorem Ext.drew (w : World) : Ext w { w with drawn := w.drawn + 1 } := ⟨rfl, rfl, rfl, Nat.le_refl _, fun _ _ => rfl⟩
theorem Ext.alloc (w : World) (o : Obj) : Ext w (w.alloc o) := Below.alloc (Below.refl _ _) (Nat.le_refl _) o

def slot (a : Act) (t : Nat) : Value := a.tmps.getD t undef
theorem put_size (a : Act) (x : Option Tmp) (v : Value) : (a.put x v).tmps.size = a.tmps.size := by cases x <;> simp [Act.put]
theorem put_defers (a : Act) (x : Option Tmp) (v : Value) : (a.put x v).defers = a.defers := by cases x <;> simp [Act.put]
theorem slot_put_same {a : Act} {d : Nat} (v : Value) (h : d < a.tmps.size) : slot (a.put (some d) v) d = v := by
  simp [slot, Act.put, Array.getD, h]
theorem slot_put_ne {a : Act} {x : Option Tmp} (v : Value) {t : Nat} (h : x ≠ some t) : slot (a.put x v) t = slot a t := by
  cases x with
  | none => rfl
  | some d =>
    have hne : d ≠ t := fun e => h (by rw [e])
    simp [slot, Act.put, Array.getD_eq_getD_getElem?, Array.getElem?_setIfInBounds_ne hne]

section
variable {P : Program} {ops : Array Oper} {Q : Exit → Act → World → Prop}

theorem eval_same {a b : Act} {o : Oper} (h : ∀ t ∈ o.looksAt ops, slot a t = slot b t) : ∀ x ∈ o.op.operands, a.eval x = b.eval x := by
  intro x hx
  cases x with
  | tmp t =>
    refine h t (List.mem_append.2 (.inl (List.mem_filterMap.2 ⟨.tmp t, by simpa using hx, rfl⟩)))
  | _ => rfl

theorem wanted_same {a b : Act} {o : Oper} (hs : a.tmps.size = b.tmps.size) (h : ∀ t ∈ o.looksAt ops, slot a t = slot b t) :
    Region.wanted o (yielded ops a.tmps) = Region.wanted o (yielded ops b.tmps) := by
  unfold Region.wanted
  cases hg : o.guard with
  | none => rfl
  | some g =>
    obtain ⟨j, want⟩ := g
    have : yielded ops a.tmps j = yielded ops b.tmps j := by
      unfold yielded
      cases hd : (ops[j]?).bind (·.dst) with
      | none => rfl
      | some t =>
        have hm : t ∈ o.looksAt ops := List.mem_append.2 (.inr (by simp [hg, hd]))
        have he := h t hm
        have : a.tmps[t]? = b.tmps[t]? := by
          simp only [slot, Array.getD_eq_getD_getElem?] at he
          by_cases ht : t < a.tmps.size
          · have ht' : t < b.tmps.size := hs ▸ ht
            simp only [Array.getElem?_eq_getElem ht, Array.getElem?_eq_getElem ht', Option.getD_some] at he ⊢
            rw [he]
          · rw [Array.getElem?_eq_none (Nat.le_of_not_lt ht), Array.getElem?_eq_none (Nat.le_of_not_lt (hs ▸ ht))]
        simp [this]
    simp only [this]

/-- One value in every world behind 'w0'. -/
def DQ (P : Program) (w0 : World) (o : Oper) (a : Act) (v : Value) : Prop :=
  ∀ w, Ext w0 w → (execOp a.eval o).run P w = .ok (.value v) w ∨ ((execOp a.eval o).run P w = .ok .skip w ∧ v = undef) ∨
    ∃ f args, (execOp a.eval o).run P w = .ok (.enter f args) w ∧ Calls P f args w (fun e w' => e = .returned v ∧ Ext w w')

/-- A value of which 'R' is known, in every world behind 'w0'; new memory may be laid. -/
def FO (P : Program) (w0 : World) (o : Oper) (a : Act) (R : Value → World → Prop) : Prop :=
  ∀ w, Ext w0 w → (∃ v w', (execOp a.eval o).run P w = .ok (.value v) w' ∧ Ext w w' ∧ R v w') ∨
    ∃ f args, (execOp a.eval o).run P w = .ok (.enter f args) w ∧ Calls P f args w (fun e w' => ∃ v, e = .returned v ∧ Ext w w' ∧ R v w')

def Lasts (R : Value → World → Prop) : Prop := ∀ v w w', R v w → Ext w w' → R v w'

/-- The walk in the order of the text over what yields one value; floaters are passed over. -/
def dwalk (P : Program) (ops : Array Oper) (w0 : World) (fl : List Nat) (K : Act → Prop) : Nat → List Oper → Act → Prop
  | _, [], a => K a
  | i, o :: rest, a =>
    if i ∈ fl then dwalk P ops w0 fl K (i + 1) rest a
    else (Region.wanted o (yielded ops a.tmps) = true ∧ ∃ v, DQ P w0 o a v ∧ dwalk P ops w0 fl K (i + 1) rest (a.put o.dst v)) ∨
      (Region.wanted o (yielded ops a.tmps) = false ∧ dwalk P ops w0 fl K (i + 1) rest (a.put o.dst undef))

def waits (ops : Array Oper) (j i : Nat) : Bool :=
  match ops[j]? with
  | some o => o.after.any fun e => Region.binds .any e && e.on == i
  | none => false
theorem waits_spec {j i : Nat} {o : Oper} (ho : ops[j]? = some o) (h : waits ops j i = true) : ∃ e ∈ o.after, Region.binds .any e = true ∧ e.on = i := by
  unfold waits at h
  rw [ho] at h
  obtain ⟨e, he, hb⟩ := Array.any_eq_true'.1 h
  simp only [Bool.and_eq_true, beq_iff_eq] at hb
  exact ⟨e, he, hb.1, hb.2⟩

def headB (ops : Array Oper) (N m n : Nat) (fl : List Nat) : Bool :=
  Region.noSelect ops && (decide (m ≤ n) && (decide (n ≤ ops.size) &&
  (((List.range n).all fun i => decide (i < m) ||
    match ops[i]? with
    | none => false
    | some o =>
      (match o.dst with | some d => decide (d < N) | none => true) &&
      ((o.after.toList.all fun e => !Region.binds .any e || decide (e.on < i)) &&
      ((!fl.contains i || (o.guard.isNone && o.dst.isSome)) &&
      (((List.range n).all fun j => decide (j < m) ||
        match ops[j]? with
        | none => false
        | some p => match p.dst with
          | none => true
          | some d => (!(o.looksAt ops).contains d || (decide (j < i) && (waits ops i j && !fl.contains j))) && (j == i || o.dst != some d)) &&
      (n == ops.size || ((List.range (n + 1)).any fun j => decide (i < j) && waits ops j i)))))) &&
  ((List.range ops.size).all fun t => decide (t ≤ n) || ((List.range t).any fun s => decide (n ≤ s) && waits ops t s)))))

structure HOk (ops : Array Oper) (N m n : Nat) (fl : List Nat) : Prop where
  nosel : Region.noSelect ops = true
  mn : m ≤ n
  ns : n ≤ ops.size
  dst : ∀ i o d, m ≤ i → i < n → ops[i]? = some o → o.dst = some d → d < N
  back : ∀ i o, m ≤ i → i < n → ops[i]? = some o → ∀ e ∈ o.after, Region.binds .any e = true → e.on < i
  flo : ∀ i o, m ≤ i → i < n → ops[i]? = some o → i ∈ fl → o.guard = none ∧ ∃ d, o.dst = some d
  look : ∀ i o j p d, m ≤ i → i < n → ops[i]? = some o → m ≤ j → j < n → ops[j]? = some p → p.dst = some d → d ∈ o.looksAt ops → j < i ∧ waits ops i j = true ∧ j ∉ fl
  once : ∀ i o j p d, m ≤ i → i < n → ops[i]? = some o → m ≤ j → j < n → ops[j]? = some p → j ≠ i → p.dst = some d → o.dst ≠ some d
  sink : n < ops.size → ∀ i, m ≤ i → i < n → ∃ j, j ≤ n ∧ i < j ∧ waits ops j i = true
  tail : ∀ t, n < t → t < ops.size → ∃ s, n ≤ s ∧ s < t ∧ waits ops t s = true

theorem headB_spec {N m n : Nat} {fl : List Nat} (h : headB ops N m n fl = true) : HOk ops N m n fl := by
  simp only [headB, Bool.and_eq_true, decide_eq_true_eq] at h
  obtain ⟨h1, h2, h3, h4, h5⟩ := h
  have key : ∀ i o, m ≤ i → i < n → ops[i]? = some o → _ := fun i o hm hn ho => by
    have := List.all_eq_true.1 h4 i (List.mem_range.2 hn)
    rw [ho] at this
    simp only [Bool.or_eq_true, decide_eq_true_eq, Bool.and_eq_true] at this
    exact this.resolve_left (by omega)
  have pair : ∀ i o j p d, m ≤ i → i < n → ops[i]? = some o → m ≤ j → j < n → ops[j]? = some p → p.dst = some d → _ := fun i o j p d hm hn ho hm' hn' hp hd => by
    have := List.all_eq_true.1 (key i o hm hn ho).2.2.2.1 j (List.mem_range.2 hn')
    rw [hp] at this
    simp only [Bool.or_eq_true, decide_eq_true_eq] at this
    have := this.resolve_left (by omega)
    rw [hd] at this
    simp only [Bool.and_eq_true] at this
    exact this
  refine ⟨h1, h2, h3, ?_, ?_, ?_, ?_, ?_, ?_, ?_⟩
  · intro i o d hm hn ho hd
    have := (key i o hm hn ho).1
    rw [hd] at this
    simpa using this
  · intro i o hm hn ho e he hb
    have := List.all_eq_true.1 (key i o hm hn ho).2.1 e (by simpa using he)
    simpa [hb] using this
  · intro i o hm hn ho hf
    have := (key i o hm hn ho).2.2.1
    simp only [Bool.not_eq_true', List.contains_eq_mem, decide_eq_false_iff_not] at this
    have := this.resolve_left (fun h => h hf)
    exact ⟨by simpa using this.1, Option.isSome_iff_exists.1 this.2⟩
  · intro i o j p d hm hn ho hm' hn' hp hd hl
    have := (pair i o j p d hm hn ho hm' hn' hp hd).1
    simp only [Bool.or_eq_true, Bool.not_eq_true', List.contains_eq_mem, decide_eq_false_iff_not, Bool.and_eq_true, decide_eq_true_eq] at this
    have := this.resolve_left (fun h => h hl)
    exact this
  · intro i o j p d hm hn ho hm' hn' hp hne hd
    have := (pair i o j p d hm hn ho hm' hn' hp hd).2
    simp only [Bool.or_eq_true, beq_iff_eq, bne_iff_ne] at this
    exact this.resolve_left hne
  · intro hlt i hm hn
    cases ho : ops[i]? with
    | none => have := Array.getElem?_eq_none_iff.1 ho; omega
    | some o =>
      have := (key i o hm hn ho).2.2.2.2
      simp only [beq_iff_eq] at this
      have := this.resolve_left (by omega)
      obtain ⟨j, hj, hj'⟩ := List.any_eq_true.1 this
      simp only [Bool.and_eq_true, decide_eq_true_eq] at hj'
      have := List.mem_range.1 hj
      exact ⟨j, by omega, hj'.1, hj'.2⟩
  · intro t hn hs
    have := List.all_eq_true.1 h5 t (List.mem_range.2 hs)
    simp only [Bool.or_eq_true, decide_eq_true_eq] at this
    obtain ⟨s, hs, hs'⟩ := List.any_eq_true.1 (this.resolve_left (by omega))
    simp only [Bool.and_eq_true, decide_eq_true_eq] at hs'
    exact ⟨s, hs'.1, List.mem_range.1 hs, hs'.2⟩

/-- What the walk in the order of the text has shown. -/
structure HSpec (P : Program) (ops : Array Oper) (w0 : World) (m n : Nat) (fl : List Nat) (a0 A : Act) (val : Nat → Value) : Prop where
  size : A.tmps.size = a0.tmps.size
  dfs : A.defers = a0.defers
  un : ∀ t, (∀ j o, m ≤ j → j < n → ops[j]? = some o → j ∉ fl → o.dst ≠ some t) → slot A t = slot a0 t
  wr : ∀ j o d, m ≤ j → j < n → ops[j]? = some o → j ∉ fl → o.dst = some d → slot A d = val j
  ex : ∀ j o, m ≤ j → j < n → ops[j]? = some o → j ∉ fl →
    (Region.wanted o (yielded ops A.tmps) = true ∧ DQ P w0 o A (val j)) ∨ (Region.wanted o (yielded ops A.tmps) = false ∧ val j = undef)

theorem DQ.same {w0 : World} {o : Oper} {a b : Act} {v : Value} (hs : ∀ cs b, o.op ≠ .select cs b) (h : DQ P w0 o a v) (he : ∀ t ∈ o.looksAt ops, slot a t = slot b t) : DQ P w0 o b v := by
  intro w hw
  have := h w hw
  rwa [execOp_congr o hs (eval_same he)] at this
theorem FO.same {w0 : World} {o : Oper} {a b : Act} {R : Value → World → Prop} (hs : ∀ cs b, o.op ≠ .select cs b) (h : FO P w0 o a R) (he : ∀ t ∈ o.looksAt ops, slot a t = slot b t) : FO P w0 o b R := by
  intro w hw
  have := h w hw
  rwa [execOp_congr o hs (eval_same he)] at this

theorem dwalk_spec {w0 : World} {N m n : Nat} {fl : List Nat} (hok : HOk ops N m n fl) {K : Act → Prop} :
    ∀ (l : List Oper) (i : Nat) (a : Act), m ≤ i → i + l.length = n → (∀ j, j < l.length → l[j]? = ops[i + j]?) → a.tmps.size = N →
      dwalk P ops w0 fl K i l a → ∃ A val, K A ∧ HSpec P ops w0 i n fl a A val := by
  intro l
  induction l with
  | nil =>
    intro i a hm hl _ _ h
    simp only [List.length_nil] at hl
    exact ⟨a, fun _ => undef, h, ⟨rfl, rfl, fun _ _ => rfl, fun j o d h1 h2 => by omega, fun j o h1 h2 => by omega⟩⟩
  | cons o l ih =>
    intro i a hm hl hat hN h
    simp only [List.length_cons] at hl
    have ho : ops[i]? = some o := by have := hat 0 (by simp); simpa using this.symm
    have hat' : ∀ j, j < l.length → l[j]? = ops[i + 1 + j]? := fun j hj => by
      have := hat (j + 1) (by simp only [List.length_cons]; omega)
      simpa [Nat.add_assoc, Nat.add_comm 1 j] using this
    unfold dwalk at h
    by_cases hf : i ∈ fl
    · rw [if_pos hf] at h
      obtain ⟨A, val, hK, S⟩ := ih (i + 1) a (by omega) (by omega) hat' hN h
      refine ⟨A, val, hK, ⟨S.size, S.dfs, fun t ht => S.un t fun j p hj hj' hp hnf => ht j p (by omega) hj' hp hnf, fun j p d hj hj' hp hnf hd => ?_, fun j p hj hj' hp hnf => ?_⟩⟩
      · exact S.wr j p d (by have : j ≠ i := fun e => hnf (e ▸ hf); omega) hj' hp hnf hd
      · exact S.ex j p (by have : j ≠ i := fun e => hnf (e ▸ hf); omega) hj' hp hnf
    · rw [if_neg hf] at h
      have step : ∀ v, dwalk P ops w0 fl K (i + 1) l (a.put o.dst v) →
          ((Region.wanted o (yielded ops a.tmps) = true ∧ DQ P w0 o a v) ∨ (Region.wanted o (yielded ops a.tmps) = false ∧ v = undef)) → ∃ A val, K A ∧ HSpec P ops w0 i n fl a A val := by
        intro v hrest hex
        obtain ⟨A, val, hK, S⟩ := ih (i + 1) (a.put o.dst v) (by omega) (by omega) hat' (by rw [put_size]; exact hN) hrest
        have hsame : ∀ t ∈ o.looksAt ops, slot a t = slot A t := fun t ht => by
          rw [S.un t fun j p hj hj' hp hnf hd => by
            have := hok.look i o j p t hm (by omega) ho (by omega) hj' hp hd ht
            omega]
          refine (slot_put_ne v fun hd => ?_).symm
          have := hok.look i o i o t hm (by omega) ho hm (by omega) ho hd ht
          omega
        have hsz : a.tmps.size = A.tmps.size := by rw [S.size, put_size]
        refine ⟨A, fun j => if j = i then v else val j, hK, ⟨by rw [S.size, put_size], by rw [S.dfs, put_defers], fun t ht => ?_, fun j p d hj hj' hp hnf hd => ?_, fun j p hj hj' hp hnf => ?_⟩⟩
        · rw [S.un t fun j p hj hj' hp hnf => ht j p (by omega) hj' hp hnf]
          exact slot_put_ne v (ht i o (Nat.le_refl _) (by omega) ho hf)
        · by_cases hji : j = i
          · subst hji
            have : p = o := Option.some.inj (hp.symm.trans ho)
            subst this
            simp only [if_true]
            rw [S.un d fun k q hk hk' hq hnf' hd' => by
              have := hok.once j p k q d hm hj' hp (by omega) hk' hq (by omega) hd'
              exact this hd]
            rw [hd]
            exact slot_put_same v (by rw [hN]; exact hok.dst j p d hm hj' hp hd)
          · simp only [hji, if_false]
            exact S.wr j p d (by omega) hj' hp hnf hd
        · by_cases hji : j = i
          · subst hji
            have : p = o := Option.some.inj (hp.symm.trans ho)
            subst this
            simp only [if_true]
            rw [← wanted_same hsz hsame]
            rcases hex with ⟨h1, h2⟩ | h2
            · exact .inl ⟨h1, h2.same (fun cs b => Region.noSelect_spec hok.nosel j p cs b hp) hsame⟩
            · exact .inr h2
          · simp only [hji, if_false]
            exact S.ex j p (by omega) hj' hp hnf
      rcases h with ⟨hw, v, hv, hrest⟩ | ⟨hw, hrest⟩
      · exact step v hrest (.inl ⟨hw, hv⟩)
      · exact step undef hrest (.inr ⟨hw, rfl⟩)

/-- The state of the run through a head: which have come up, the frame, the world. -/
structure HInv (ops : Array Oper) (w0 : World) (N m n : Nat) (fl : List Nat) (R : Nat → Value → World → Prop) (a0 : Act) (val : Nat → Value) (listed : Array Bool) (a : Act) (w : World) : Prop where
  sz : listed.size = ops.size
  lo : ∀ j, j < m → listed.getD j false = true
  hi : ∀ j, n ≤ j → listed.getD j false = false
  cl : ∀ j o, ops[j]? = some o → m ≤ j → listed.getD j false = true → ∀ e ∈ o.after, Region.binds .any e = true → listed.getD e.on false = true
  ext : Ext w0 w
  tsz : a.tmps.size = N
  dfs : a.defers = a0.defers
  wrd : ∀ j o d, m ≤ j → j < n → ops[j]? = some o → o.dst = some d → listed.getD j false = true → j ∉ fl → slot a d = val j
  wrf : ∀ j o d, m ≤ j → j < n → ops[j]? = some o → o.dst = some d → listed.getD j false = true → j ∈ fl → R j (slot a d) w
  un : ∀ t, (∀ j o, m ≤ j → j < n → ops[j]? = some o → listed.getD j false = true → o.dst ≠ some t) → slot a t = slot a0 t

theorem getD_true_false {listed : Array Bool} {i : Nat} (h : i < listed.size) : listed.getD i true = listed.getD i false := by simp [Array.getD, h]
theorem getD_set_self {listed : Array Bool} {i : Nat} (h : i < listed.size) : (listed.setIfInBounds i true).getD i false = true := by simp [Array.getD, h]
theorem getD_set_other {listed : Array Bool} {i j : Nat} (h : i ≠ j) : (listed.setIfInBounds i true).getD j false = listed.getD j false := by
  simp [Array.getD_eq_getD_getElem?, Array.getElem?_setIfInBounds_ne h]

def upto (s m : Nat) : Array Bool := Array.ofFn (fun i : Fin s => decide (i.val < m))
theorem upto_size (s m : Nat) : (upto s m).size = s := by simp [upto]
theorem upto_getD (s m j : Nat) (d : Bool) : (upto s m).getD j d = if j < s then decide (j < m) else d := by
  by_cases h : j < s
  · simp [upto, Array.getD, h]
  · simp [upto, Array.getD, h]
theorem upto_zero (s : Nat) : upto s 0 = Array.replicate s false := by
  apply Array.ext
  · simp [upto]
  · intro i h1 h2
    simp [upto]
theorem upto_set (s m : Nat) : (upto s m).setIfInBounds m true = upto s (m + 1) := by
  apply Array.ext
  · simp [upto]
  · intro i h1 h2
    have h3 : i < s := by simpa [upto] using h2
    by_cases h : m = i
    · subst h
      simp [upto]
    · rw [Array.getElem_setIfInBounds_ne (h := h) (by simpa [upto] using h3)]
      simp only [upto, Array.getElem_ofFn]
      exact decide_eq_decide.2 ⟨fun _ => by omega, fun _ => by omega⟩

/-- The first 'm' operations have come up. -/
def Run (P : Program) (ops : Array Oper) (Q : Exit → Act → World → Prop) (m : Nat) (a : Act) (w : World) : Prop :=
  wpAny P .any ops Q (ops.size - m) (upto ops.size m) a w

theorem run_done {m : Nat} {a : Act} {w : World} (hm : ops.size ≤ m) (h : Q .normal a w) : Run P ops Q m a w := by
  unfold Run
  rw [Nat.sub_eq_zero_of_le hm]
  refine ⟨?_, h⟩
  apply List.eq_nil_iff_forall_not_mem.2
  intro j hj
  obtain ⟨h1, o, ho, _⟩ := mem_ready.1 hj
  have hlt : j < ops.size := (Array.getElem?_eq_some_iff.1 ho).1
  rw [upto_getD, if_pos hlt] at h1
  simp at h1
  omega

theorem run_seq {m : Nat} {a : Act} {w : World} (hr : Region.ready .any ops (upto ops.size m) = [m]) (h : wpOp P ops Q m (Run P ops Q (m + 1)) a w) : Run P ops Q m a w := by
  have hm : m ∈ Region.ready .any ops (upto ops.size m) := by rw [hr]; simp
  obtain ⟨_, o, ho, _⟩ := mem_ready.1 hm
  have hlt : m < ops.size := (Array.getElem?_eq_some_iff.1 ho).1
  unfold Run
  rw [show ops.size - m = (ops.size - (m + 1)) + 1 by omega]
  refine ⟨fun h0 => absurd (hr ▸ h0) (by simp), fun i hi => ?_⟩
  rw [hr] at hi
  have : i = m := by simpa using hi
  subst this
  rw [upto_set]
  exact h

theorem wp_region_run {id : Nat} {a : Act} {w : World} {l : List Oper} (hm : P.follows .mixedOrders = true) (h : Run P l.toArray Q 0 a { w with drawn := w.drawn + 1 }) : (Code.region id l.toArray true).wp P Q a w := by
  refine wp_region_any hm ?_
  have h' := h
  unfold Run at h'
  rw [upto_zero, Nat.sub_zero] at h'
  exact h'

section head
variable {w0 : World} {N m n : Nat} {fl : List Nat} {R : Nat → Value → World → Prop} {a0 A : Act} {val : Nat → Value}

theorem HInv.agree (hok : HOk ops N m n fl) (S : HSpec P ops w0 m n fl a0 A val) {listed : Array Bool} {a : Act} {w : World} (I : HInv ops w0 N m n fl R a0 val listed a w)
    {i : Nat} {o : Oper} (hm : m ≤ i) (hn : i < n) (ho : ops[i]? = some o) (hdep : ∀ e ∈ o.after, Region.binds .any e = true → listed.getD e.on false = true) :
    ∀ t ∈ o.looksAt ops, slot A t = slot a t := by
  intro t ht
  by_cases hex : ∃ j p, m ≤ j ∧ j < n ∧ ops[j]? = some p ∧ p.dst = some t
  · obtain ⟨j, p, hj, hj', hp, hd⟩ := hex
    obtain ⟨_, hw, hnf⟩ := hok.look i o j p t hm hn ho hj hj' hp hd ht
    obtain ⟨e, he, hb, hon⟩ := waits_spec ho hw
    have hl := hdep e he hb
    rw [hon] at hl
    rw [S.wr j p t hj hj' hp hnf hd, I.wrd j p t hj hj' hp hd hl hnf]
  · rw [S.un t fun j p hj hj' hp _ hd => hex ⟨j, p, hj, hj', hp, hd⟩, I.un t fun j p hj hj' hp _ hd => hex ⟨j, p, hj, hj', hp, hd⟩]

theorem HInv.next (hok : HOk ops N m n fl) (hR : ∀ j, Lasts (R j)) {listed : Array Bool} {a : Act} {w w' : World} (I : HInv ops w0 N m n fl R a0 val listed a w)
    {i : Nat} {o : Oper} {v : Value} (hm : m ≤ i) (hn : i < n) (ho : ops[i]? = some o) (hun : listed.getD i false = false)
    (hdep : ∀ e ∈ o.after, Region.binds .any e = true → listed.getD e.on false = true) (hx : Ext w w') (hvd : i ∉ fl → v = val i) (hvf : i ∈ fl → R i v w') :
    HInv ops w0 N m n fl R a0 val (listed.setIfInBounds i true) (a.put o.dst v) w' := by
  have hi : i < listed.size := by rw [I.sz]; exact (Array.getElem?_eq_some_iff.1 ho).1
  have hset : ∀ j, (listed.setIfInBounds i true).getD j false = true → j ≠ i → listed.getD j false = true := fun j h hne => by rwa [getD_set_other (Ne.symm hne)] at h
  have hmono : ∀ j, listed.getD j false = true → (listed.setIfInBounds i true).getD j false = true := fun j h => by
    by_cases hj : i = j
    · subst hj; exact getD_set_self hi
    · rwa [getD_set_other hj]
  have hkeep : ∀ j p d, m ≤ j → j < n → ops[j]? = some p → j ≠ i → p.dst = some d → slot (a.put o.dst v) d = slot a d := fun j p d hj hj' hp hne hd =>
    slot_put_ne v (hok.once i o j p d hm hn ho hj hj' hp hne hd)
  refine ⟨by simpa using I.sz, fun j hj => hmono j (I.lo j hj), fun j hj => ?_, fun j p hp hj hl e he hb => ?_, I.ext.trans hx, by rw [put_size]; exact I.tsz, by rw [put_defers]; exact I.dfs, fun j p d hj hj' hp hd hl hnf => ?_, fun j p d hj hj' hp hd hl hf => ?_, fun t ht => ?_⟩
  · rw [getD_set_other (by omega)]; exact I.hi j hj
  · by_cases hji : j = i
    · subst hji
      have : p = o := Option.some.inj (hp.symm.trans ho)
      subst this
      exact hmono _ (hdep e he hb)
    · exact hmono _ (I.cl j p hp hj (hset j hl hji) e he hb)
  · by_cases hji : j = i
    · subst hji
      have : p = o := Option.some.inj (hp.symm.trans ho)
      subst this
      rw [hd, slot_put_same v (by rw [I.tsz]; exact hok.dst j p d hj hj' hp hd)]
      exact hvd hnf
    · rw [hkeep j p d hj hj' hp hji hd]
      exact I.wrd j p d hj hj' hp hd (hset j hl hji) hnf
  · by_cases hji : j = i
    · subst hji
      have : p = o := Option.some.inj (hp.symm.trans ho)
      subst this
      rw [hd, slot_put_same v (by rw [I.tsz]; exact hok.dst j p d hj hj' hp hd)]
      exact hvf hf
    · rw [hkeep j p d hj hj' hp hji hd]
      exact hR j _ _ _ (I.wrf j p d hj hj' hp hd (hset j hl hji) hf) hx
  · rw [slot_put_ne v (ht i o hm hn ho (getD_set_self hi))]
    exact I.un t fun j p hj hj' hp hl => ht j p hj hj' hp (hmono j hl)

/-- Only what lies in the head may come up while some of it has not. -/
theorem HInv.ready_lt (hok : HOk ops N m n fl) {listed : Array Bool} {a : Act} {w : World} (I : HInv ops w0 N m n fl R a0 val listed a w)
    {i : Nat} (hm : m ≤ i) (hn : i < n) (hun : listed.getD i false = false) : ∀ t ∈ Region.ready .any ops listed, m ≤ t ∧ t < n := by
  intro t ht
  obtain ⟨h1, o, ho, hall⟩ := mem_ready.1 ht
  have htl : t < ops.size := (Array.getElem?_eq_some_iff.1 ho).1
  rw [getD_true_false (by rw [I.sz]; exact htl)] at h1
  refine ⟨Nat.le_of_not_lt fun h => (by rw [I.lo t h] at h1; cases h1), Nat.lt_of_not_le fun hge => ?_⟩
  rcases Nat.lt_or_eq_of_le hge with hgt | heq
  · obtain ⟨s, hs, _, hw⟩ := hok.tail t hgt htl
    obtain ⟨e, he, hb, hon⟩ := waits_spec ho hw
    have := hall e he hb
    rw [hon, I.hi s hs] at this
    cases this
  · subst heq
    have key : ∀ k i, n - i = k → m ≤ i → i < n → listed.getD i false = false → False := by
      intro k
      induction k using Nat.strongRecOn with
      | _ k ih =>
        intro i hk hm hn hun
        obtain ⟨j, hj, hij, hw⟩ := hok.sink htl i hm hn
        rcases Nat.lt_or_eq_of_le hj with hlt | heq
        · cases hl : listed.getD j false with
          | false => exact ih (n - j) (by omega) j rfl (by omega) hlt hl
          | true =>
            cases hp : ops[j]? with
            | none => have := Array.getElem?_eq_none_iff.1 hp; omega
            | some p =>
              obtain ⟨e, he, hb, hon⟩ := waits_spec hp hw
              have := I.cl j p hp (by omega) hl e he hb
              rw [hon, hun] at this
              cases this
        · subst heq
          obtain ⟨e, he, hb, hon⟩ := waits_spec ho hw
          have := hall e he hb
          rw [hon, hun] at this
          cases this
    exact key _ i rfl hm hn hun

/-- The first of them that has not come up may come up. -/
theorem HInv.some_ready (hok : HOk ops N m n fl) {listed : Array Bool} {a : Act} {w : World} (I : HInv ops w0 N m n fl R a0 val listed a w)
    {i : Nat} (hm : m ≤ i) (hn : i < n) (hun : listed.getD i false = false) : Region.ready .any ops listed ≠ [] := by
  have key : ∀ k i, i = k → m ≤ i → i < n → listed.getD i false = false → ∃ t, t ∈ Region.ready .any ops listed := by
    intro k
    induction k using Nat.strongRecOn with
    | _ k ih =>
      intro i hk hm hn hun
      subst hk
      cases ho : ops[i]? with
      | none => have := Array.getElem?_eq_none_iff.1 ho; have := hok.ns; omega
      | some o =>
        have hil : i < listed.size := by rw [I.sz]; exact (Array.getElem?_eq_some_iff.1 ho).1
        by_cases hall : ∀ e ∈ o.after, Region.binds .any e = true → listed.getD e.on false = true
        · exact ⟨i, mem_ready.2 ⟨by rw [getD_true_false hil]; exact hun, o, ho, hall⟩⟩
        · have : ∃ e ∈ o.after, Region.binds .any e = true ∧ listed.getD e.on false ≠ true := by
            apply Classical.byContradiction
            intro hno
            exact hall fun e he hb => Classical.byContradiction fun hc => hno ⟨e, he, hb, hc⟩
          obtain ⟨e, he, hb, hc⟩ := this
          have hlt := hok.back i o hm hn ho e he hb
          have hun' : listed.getD e.on false = false := by simpa using hc
          have hme : m ≤ e.on := Nat.le_of_not_lt fun h => (by rw [I.lo _ h] at hun'; cases hun')
          exact ih e.on hlt e.on rfl hme (by omega) hun'
  obtain ⟨t, ht⟩ := key i i rfl hm hn hun
  intro h0
  rw [h0] at ht
  cases ht

/-- How many of the head have not come up. -/
def open_ (m n : Nat) (listed : Array Bool) : Nat := ((List.range n).filter fun j => decide (m ≤ j) && !listed.getD j false).length
theorem open_set {listed : Array Bool} {i : Nat} (hm : m ≤ i) (hn : i < n) (hi : i < listed.size) (hun : listed.getD i false = false) : open_ m n listed = open_ m n (listed.setIfInBounds i true) + 1 := by
  unfold open_
  have key : ∀ l : List Nat, l.Nodup → i ∈ l → (l.filter fun j => decide (m ≤ j) && !listed.getD j false).length = (l.filter fun j => decide (m ≤ j) && !(listed.setIfInBounds i true).getD j false).length + 1 := by
    intro l
    induction l with
    | nil => intro _ h; cases h
    | cons x l ih =>
      intro hnd hmem
      obtain ⟨hx, hnd'⟩ := List.nodup_cons.1 hnd
      by_cases hxi : x = i
      · subst hxi
        have hrest : l.filter (fun j => decide (m ≤ j) && !listed.getD j false) = l.filter (fun j => decide (m ≤ j) && !(listed.setIfInBounds x true).getD j false) :=
          List.filter_congr fun j hj => by rw [getD_set_other (fun e => hx (by rw [e]; exact hj))]
        rw [List.filter_cons_of_pos (by simp [hm, hun]), List.filter_cons_of_neg (by simp [hi]), hrest]
        rfl
      · have hmem' : i ∈ l := (List.mem_cons.1 hmem).resolve_left (Ne.symm hxi)
        have hsame : (listed.setIfInBounds i true).getD x false = listed.getD x false := getD_set_other (Ne.symm hxi)
        have := ih hnd' hmem'
        rw [List.filter_cons, List.filter_cons, hsame]
        by_cases hp : (decide (m ≤ x) && !listed.getD x false) = true
        · rw [if_pos hp, if_pos hp, List.length_cons, List.length_cons, this]
        · rw [if_neg hp, if_neg hp, this]
  exact key _ List.nodup_range (List.mem_range.2 hn)
theorem open_zero {listed : Array Bool} (h : open_ m n listed = 0) : ∀ j, m ≤ j → j < n → listed.getD j false = true := by
  intro j hj hj'
  unfold open_ at h
  have := List.eq_nil_of_length_eq_zero h
  have hno := List.filter_eq_nil_iff.1 this j (List.mem_range.2 hj')
  simp [hj] at hno
  simpa [Array.getD_eq_getD_getElem?] using hno

theorem head_all (hok : HOk ops N m n fl) (hR : ∀ j, Lasts (R j)) (S : HSpec P ops w0 m n fl a0 A val) (hsz : A.tmps.size = N)
    (hfl : ∀ i o, m ≤ i → i < n → ops[i]? = some o → i ∈ fl → FO P w0 o A (R i))
    (hend : ∀ a w, HInv ops w0 N m n fl R a0 val (upto ops.size n) a w → Run P ops Q n a w) :
    ∀ (k : Nat) (listed : Array Bool) (a : Act) (w : World), open_ m n listed = k → HInv ops w0 N m n fl R a0 val listed a w → wpAny P .any ops Q (k + (ops.size - n)) listed a w := by
  intro k
  induction k with
  | zero =>
    intro listed a w hk I
    have hall := open_zero hk
    have : listed = upto ops.size n := by
      apply Array.ext
      · rw [I.sz, upto_size]
      · intro j h1 h2
        have h1' : listed.getD j false = listed[j] := by simp [Array.getD, h1]
        have h2' : (upto ops.size n).getD j false = (upto ops.size n)[j] := by simp [Array.getD, h2]
        rw [← h1', ← h2', upto_getD, if_pos (by rw [← I.sz]; exact h1)]
        by_cases hjn : j < n
        · by_cases hjm : j < m
          · rw [I.lo j hjm]; simp [hjn]
          · rw [hall j (by omega) hjn]; simp [hjn]
        · rw [I.hi j (by omega)]; simp [hjn]
    subst this
    rw [Nat.zero_add]
    exact hend a w I
  | succ k ih =>
    intro listed a w hk I
    have hex : ∃ i, m ≤ i ∧ i < n ∧ listed.getD i false = false := by
      apply Classical.byContradiction
      intro hno
      have : open_ m n listed = 0 := by
        unfold open_
        rw [List.filter_eq_nil_iff.2, List.length_nil]
        intro j hj hc
        simp only [Bool.and_eq_true, decide_eq_true_eq, Bool.not_eq_true'] at hc
        exact hno ⟨j, hc.1, List.mem_range.1 hj, hc.2⟩
      omega
    obtain ⟨i0, hm0, hn0, hun0⟩ := hex
    have hsel := fun j o ho cs b => Region.noSelect_spec hok.nosel j o cs b ho
    rw [show k + 1 + (ops.size - n) = (k + (ops.size - n)) + 1 by omega]
    refine ⟨fun h0 => absurd h0 (I.some_ready hok hm0 hn0 hun0), fun i hi => ?_⟩
    obtain ⟨hm, hn⟩ := I.ready_lt hok hm0 hn0 hun0 i hi
    obtain ⟨h1, o, ho, hdep⟩ := mem_ready.1 hi
    have hil : i < listed.size := by rw [I.sz]; exact (Array.getElem?_eq_some_iff.1 ho).1
    rw [getD_true_false hil] at h1
    have hag := I.agree hok S hm hn ho hdep
    have hop : open_ m n (listed.setIfInBounds i true) = k := by
      have := open_set hm hn hil h1
      omega
    have hwa := wanted_same (hsz.trans I.tsz.symm) hag
    have go : ∀ (v : Value) (w' : World), Ext w w' → (i ∉ fl → v = val i) → (i ∈ fl → R i v w') →
        wpAny P .any ops Q (k + (ops.size - n)) (listed.setIfInBounds i true) (a.put o.dst v) w' := fun v w' hx hd hf =>
      ih _ _ _ hop (I.next hok hR hm hn ho h1 hdep hx hd hf)
    unfold wpOp
    rw [ho]
    simp only
    by_cases hf : i ∈ fl
    · obtain ⟨hg, _⟩ := hok.flo i o hm hn ho hf
      rw [if_pos (by simp [Region.wanted, hg])]
      refine .inl ?_
      have := ((hfl i o hm hn ho hf).same (fun cs b => hsel i o ho cs b) hag) w I.ext
      unfold Oper.wp
      rcases this with ⟨v, w', hr, hx, hv⟩ | ⟨f, args, hr, hc⟩
      · rw [hr]
        exact go v w' hx (fun h => absurd hf h) fun _ => hv
      · rw [hr]
        refine Calls.mono hc ?_
        rintro e w' ⟨v, rfl, hx, hv⟩
        exact go v w' hx (fun h => absurd hf h) fun _ => hv
    · rcases S.ex i o hm hn ho hf with ⟨hw, hq⟩ | ⟨hw, hq⟩
      · rw [if_pos (by rw [← hwa]; exact hw)]
        refine .inl ?_
        have := (hq.same (fun cs b => hsel i o ho cs b) hag) w I.ext
        unfold Oper.wp
        rcases this with hr | ⟨hr, hv⟩ | ⟨f, args, hr, hc⟩
        · rw [hr]
          exact go _ w (Ext.refl w) (fun _ => rfl) fun h => absurd h hf
        · rw [hr]
          exact go _ w (Ext.refl w) (fun _ => hv.symm) fun h => absurd h hf
        · rw [hr]
          refine Calls.mono hc ?_
          rintro e w' ⟨rfl, hx⟩
          exact go _ w' hx (fun _ => rfl) fun h => absurd h hf
      · rw [if_neg (by rw [← hwa, hw]; exact Bool.false_ne_true)]
        exact go _ w (Ext.refl w) (fun _ => hq.symm) fun h => absurd h hf

/-- **A HEAD**: operations m .. n-1, from the state in which the first m have come up. -/
theorem run_head (N m n : Nat) (fl : List Nat) (R : Nat → Value → World → Prop) (l : List Oper) (hB : headB ops N m n fl = true) (hl : (ops.toList.drop m).take (n - m) = l) {a : Act} {w : World} (hN : a.tmps.size = N) (hR : ∀ j, Lasts (R j))
    (h : dwalk P ops w fl (fun A => (∀ i o, m ≤ i → i < n → ops[i]? = some o → i ∈ fl → FO P w o A (R i)) ∧
      ∀ a' w', Ext w w' → a'.tmps.size = N → a'.defers = a.defers →
        (∀ t, (∀ i o, m ≤ i → i < n → ops[i]? = some o → i ∈ fl → o.dst ≠ some t) → slot a' t = slot A t) →
        (∀ i o d, m ≤ i → i < n → ops[i]? = some o → i ∈ fl → o.dst = some d → R i (slot a' d) w') → Run P ops Q n a' w') m l a) : Run P ops Q m a w := by
  have hok := headB_spec hB
  have hlen : l.length = n - m := by rw [← hl]; have := hok.ns; simp; omega
  obtain ⟨A, val, ⟨hfl, hK⟩, S⟩ := dwalk_spec hok l m a (Nat.le_refl _) (by have := hok.mn; omega) (fun j hj => by
    rw [← hl, List.getElem?_take, if_pos (by omega), List.getElem?_drop]; simp) hN h
  have hsize : ops.size - m = (n - m) + (ops.size - n) := by have := hok.ns; have := hok.mn; omega
  unfold Run
  rw [hsize]
  refine head_all hok hR S (by rw [S.size, hN]) hfl (fun a' w' I => ?_) _ _ _ _ ?_ ⟨upto_size _ _, fun j hj => ?_, fun j hj => ?_, fun j o ho hm hl => ?_, Ext.refl w, hN, rfl, fun j o d hm hn ho hd hl => ?_, fun j o d hm hn ho hd hl => ?_, fun _ _ => rfl⟩
  · have hall : ∀ j, j < n → (upto ops.size n).getD j false = true := fun j hj => by
      rw [upto_getD, if_pos (by have := hok.ns; omega)]; simp [hj]
    refine hK a' w' I.ext I.tsz I.dfs (fun t ht => ?_) (fun i o d hm hn ho hf hd => I.wrf i o d hm hn ho hd (hall i hn) hf)
    by_cases hex : ∃ j p, m ≤ j ∧ j < n ∧ ops[j]? = some p ∧ p.dst = some t
    · obtain ⟨j, p, hj, hj', hp, hd⟩ := hex
      have hnf : j ∉ fl := fun hf => ht j p hj hj' hp hf hd
      rw [S.wr j p t hj hj' hp hnf hd, I.wrd j p t hj hj' hp hd (hall j hj') hnf]
    · rw [S.un t fun j p hj hj' hp _ hd => hex ⟨j, p, hj, hj', hp, hd⟩, I.un t fun j p hj hj' hp _ hd => hex ⟨j, p, hj, hj', hp, hd⟩]
  · unfold open_
    have : ((List.range n).filter fun j => decide (m ≤ j) && !(upto ops.size m).getD j false) = (List.range n).filter fun j => decide (m ≤ j) :=
      List.filter_congr fun j hj => by
        rw [upto_getD]
        have := hok.ns
        have := List.mem_range.1 hj
        rw [if_pos (by omega)]
        by_cases h : m ≤ j
        · simp [h, show ¬ j < m by omega]
        · simp [h]
    rw [this]
    have key : ∀ n, m ≤ n → ((List.range n).filter fun j => decide (m ≤ j)).length = n - m := by
      intro n
      induction n with
      | zero => intro _; simp
      | succ n ih =>
        intro h
        rw [List.range_succ, List.filter_append, List.length_append]
        by_cases hmn : m ≤ n
        · rw [ih hmn]; simp [hmn]; omega
        · have : m = n + 1 := by omega
          subst this
          rw [List.filter_eq_nil_iff.2 (fun j hj => by have := List.mem_range.1 hj; simp; omega)]
          simp
    exact key n hok.mn
  · rw [upto_getD, if_pos (by have := hok.ns; have := hok.mn; omega)]; simp [hj]
  · rw [upto_getD]
    split
    · have := hok.mn; simp; omega
    · rfl
  · have := (Array.getElem?_eq_some_iff.1 ho).1
    rw [upto_getD, if_pos this] at hl
    simp at hl
    omega
  · have := (Array.getElem?_eq_some_iff.1 ho).1
    rw [upto_getD, if_pos this] at hl
    simp at hl
    omega
  · have := (Array.getElem?_eq_some_iff.1 ho).1
    rw [upto_getD, if_pos this] at hl
    simp at hl
    omega
end head
end
end Go.Fw
