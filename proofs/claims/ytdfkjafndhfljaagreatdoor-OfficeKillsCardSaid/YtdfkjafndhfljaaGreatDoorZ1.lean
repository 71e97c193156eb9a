/- What is proved: a region that draws its order may be walked once, in the order of the text: first the operations that yield one value in every later world ('dwalk'), then those that lay new memory ('floaters', of whose value a lasting fact is known), then what waits for all of them. Over any program. And what follows from it: one lemma for each kind of operation of the model: what it yields, frames being lists of pairs ('Fr') and the world a list of known blocks ('St'). Over any program. what each kind of operation yields ('Gv'), and the steps of a walk over a list of operations ('sq_..': in the order of the text; 'dw_..': in a region that draws its order). Over any program. the steps of a walk: over code, over a list of operations in the order of the text, over the head of a region that draws its order; loads, stores, new memory, append, calls, loops, returns. Over any program. the steps over code: a cut, a test, a loop, a return; blocks of bytes, words and ints. Over any program. lists of known blocks joined, moved about; slices that are read through such a list; slicing. Over any program. how the arguments of a row come in: bytes, arrays of bytes. how a slice of slices of bytes comes in. how an array of two slices of bytes comes in. ints that are bytes; operations under a guard whose test is not known. operations on strings made of bytes, on arrays of bytes, slices that are built. a table of words of 64 bits that a row lists, cell by cell. -/
import Derived.WalkKit
import Derived.Maps.AppendAt
import Derived.ProofKit
import Derived.OpenShut
import Derived.ShutString
import Derived.ChangeOld
import Derived.Below
import Derived.Deep.Slices
import Derived.SizedLaws
import Derived.Laws.BytesArg
import Derived.Great.BuildSlice
import Derived.Stop.BytesEq
import Derived.LaidMore
import Derived.Stop.Joined
namespace Go.Fw
open Go Go.RowKit

/-- Every block of 'w' stands in 'w'' as it stood. -/
abbrev Ext (w w' : World) : Prop := Below w.heap.size w w'
theorem Ext.refl (w : World) : Ext w w := Below.refl _ _
theorem Ext.trans {a b c : World} (h : Ext a b) (k : Ext b c) : Ext a c := Below.trans h (k.mono h.size)
theorem Ext.drew (w : World) : Ext w { w with drawn := w.drawn + 1 } := ⟨rfl, rfl, rfl, Nat.le_refl _, fun _ _ => rfl⟩
theorem Ext.alloc (w : World) (o : Obj) : Ext w (w.alloc o) := Below.alloc (Below.refl _ _) (Nat.le_refl _) o

def slot (a : Act) (t : Nat) : Value := a.tmps.getD t undef
theorem put_size (a : Act) (x : Option Tmp) (v : Value) : (a.put x v).tmps.size = a.tmps.size := by cases x <;> simp [Act.put]
theorem put_defers (a : Act) (x : Option Tmp) (v : Value) : (a.put x v).defers = a.defers := by cases x <;> simp [Act.put]
theorem slot_put_same {a : Act} {d : Nat} (v : Value) (h : d < a.tmps.size) : slot (a.put (some d) v) d = v := by
  simp [slot, Act.put, Array.getD, h]
theorem slot_put_ne {a : Act} {x : Option Tmp} (v : Value) {t : Nat} (h : x ≠ some t) : slot (a.put x v) t = slot a t := by
  cases x with
  | none => rfl
  | some d =>
    have hne : d ≠ t := fun e => h (by rw [e])
    simp [slot, Act.put, Array.getD_eq_getD_getElem?, Array.getElem?_setIfInBounds_ne hne]

section
variable {P : Program} {ops : Array Oper} {Q : Exit → Act → World → Prop}

theorem eval_same {a b : Act} {o : Oper} (h : ∀ t ∈ o.looksAt ops, slot a t = slot b t) : ∀ x ∈ o.op.operands, a.eval x = b.eval x := by
  intro x hx
  cases x with
  | tmp t =>
    refine h t (List.mem_append.2 (.inl (List.mem_filterMap.2 ⟨.tmp t, by simpa using hx, rfl⟩)))
  | _ => rfl

theorem wanted_same {a b : Act} {o : Oper} (hs : a.tmps.size = b.tmps.size) (h : ∀ t ∈ o.looksAt ops, slot a t = slot b t) :
    Region.wanted o (yielded ops a.tmps) = Region.wanted o (yielded ops b.tmps) := by
  unfold Region.wanted
  cases hg : o.guard with
  | none => rfl
  | some g =>
    obtain ⟨j, want⟩ := g
    have : yielded ops a.tmps j = yielded ops b.tmps j := by
      unfold yielded
      cases hd : (ops[j]?).bind (·.dst) with
      | none => rfl
      | some t =>
        have hm : t ∈ o.looksAt ops := List.mem_append.2 (.inr (by simp [hg, hd]))
        have he := h t hm
        have : a.tmps[t]? = b.tmps[t]? := by
          simp only [slot, Array.getD_eq_getD_getElem?] at he
          by_cases ht : t < a.tmps.size
          · have ht' : t < b.tmps.size := hs ▸ ht
            simp only [Array.getElem?_eq_getElem ht, Array.getElem?_eq_getElem ht', Option.getD_some] at he ⊢
            rw [he]
          · rw [Array.getElem?_eq_none (Nat.le_of_not_lt ht), Array.getElem?_eq_none (Nat.le_of_not_lt (hs ▸ ht))]
        simp [this]
    simp only [this]

/-- One value in every world behind 'w0'. -/
def DQ (P : Program) (w0 : World) (o : Oper) (a : Act) (v : Value) : Prop :=
  ∀ w, Ext w0 w → (execOp a.eval o).run P w = .ok (.value v) w ∨ ((execOp a.eval o).run P w = .ok .skip w ∧ v = undef) ∨
    ∃ f args, (execOp a.eval o).run P w = .ok (.enter f args) w ∧ Calls P f args w (fun e w' => e = .returned v ∧ Ext w w')

/-- A value of which 'R' is known, in every world behind 'w0'; new memory may be laid. -/
def FO (P : Program) (w0 : World) (o : Oper) (a : Act) (R : Value → World → Prop) : Prop :=
  ∀ w, Ext w0 w → (∃ v w', (execOp a.eval o).run P w = .ok (.value v) w' ∧ Ext w w' ∧ R v w') ∨
    ∃ f args, (execOp a.eval o).run P w = .ok (.enter f args) w ∧ Calls P f args w (fun e w' => ∃ v, e = .returned v ∧ Ext w w' ∧ R v w')

def Lasts (R : Value → World → Prop) : Prop := ∀ v w w', R v w → Ext w w' → R v w'

/-- The walk in the order of the text over what yields one value; floaters are passed over. -/
def dwalk (P : Program) (ops : Array Oper) (w0 : World) (fl : List Nat) (K : Act → Prop) : Nat → List Oper → Act → Prop
  | _, [], a => K a
  | i, o :: rest, a =>
    if i ∈ fl then dwalk P ops w0 fl K (i + 1) rest a
    else (Region.wanted o (yielded ops a.tmps) = true ∧ ∃ v, DQ P w0 o a v ∧ dwalk P ops w0 fl K (i + 1) rest (a.put o.dst v)) ∨
      (Region.wanted o (yielded ops a.tmps) = false ∧ dwalk P ops w0 fl K (i + 1) rest (a.put o.dst undef))

def waits (ops : Array Oper) (j i : Nat) : Bool :=
  match ops[j]? with
  | some o => o.after.any fun e => Region.binds .any e && e.on == i
  | none => false
theorem waits_spec {j i : Nat} {o : Oper} (ho : ops[j]? = some o) (h : waits ops j i = true) : ∃ e ∈ o.after, Region.binds .any e = true ∧ e.on = i := by
  unfold waits at h
  rw [ho] at h
  obtain ⟨e, he, hb⟩ := Array.any_eq_true'.1 h
  simp only [Bool.and_eq_true, beq_iff_eq] at hb
  exact ⟨e, he, hb.1, hb.2⟩

def headB (ops : Array Oper) (N m n : Nat) (fl : List Nat) : Bool :=
  Region.noSelect ops && (decide (m ≤ n) && (decide (n ≤ ops.size) &&
  (((List.range n).all fun i => decide (i < m) ||
    match ops[i]? with
    | none => false
    | some o =>
      (match o.dst with | some d => decide (d < N) | none => true) &&
      ((o.after.toList.all fun e => !Region.binds .any e || decide (e.on < i)) &&
      ((!fl.contains i || (o.guard.isNone && o.dst.isSome)) &&
      (((List.range n).all fun j => decide (j < m) ||
        match ops[j]? with
        | none => false
        | some p => match p.dst with
          | none => true
          | some d => (!(o.looksAt ops).contains d || (decide (j < i) && (waits ops i j && !fl.contains j))) && (j == i || o.dst != some d)) &&
      (n == ops.size || ((List.range (n + 1)).any fun j => decide (i < j) && waits ops j i)))))) &&
  ((List.range ops.size).all fun t => decide (t ≤ n) || ((List.range t).any fun s => decide (n ≤ s) && waits ops t s)))))

structure HOk (ops : Array Oper) (N m n : Nat) (fl : List Nat) : Prop where
  nosel : Region.noSelect ops = true
  mn : m ≤ n
  ns : n ≤ ops.size
  dst : ∀ i o d, m ≤ i → i < n → ops[i]? = some o → o.dst = some d → d < N
  back : ∀ i o, m ≤ i → i < n → ops[i]? = some o → ∀ e ∈ o.after, Region.binds .any e = true → e.on < i
  flo : ∀ i o, m ≤ i → i < n → ops[i]? = some o → i ∈ fl → o.guard = none ∧ ∃ d, o.dst = some d
  look : ∀ i o j p d, m ≤ i → i < n → ops[i]? = some o → m ≤ j → j < n → ops[j]? = some p → p.dst = some d → d ∈ o.looksAt ops → j < i ∧ waits ops i j = true ∧ j ∉ fl
  once : ∀ i o j p d, m ≤ i → i < n → ops[i]? = some o → m ≤ j → j < n → ops[j]? = some p → j ≠ i → p.dst = some d → o.dst ≠ some d
  sink : n < ops.size → ∀ i, m ≤ i → i < n → ∃ j, j ≤ n ∧ i < j ∧ waits ops j i = true
  tail : ∀ t, n < t → t < ops.size → ∃ s, n ≤ s ∧ s < t ∧ waits ops t s = true

theorem headB_spec {N m n : Nat} {fl : List Nat} (h : headB ops N m n fl = true) : HOk ops N m n fl := by
  simp only [headB, Bool.and_eq_true, decide_eq_true_eq] at h
  obtain ⟨h1, h2, h3, h4, h5⟩ := h
  have key : ∀ i o, m ≤ i → i < n → ops[i]? = some o → _ := fun i o hm hn ho => by
    have := List.all_eq_true.1 h4 i (List.mem_range.2 hn)
    rw [ho] at this
    simp only [Bool.or_eq_true, decide_eq_true_eq, Bool.and_eq_true] at this
    exact this.resolve_left (by omega)
  have pair : ∀ i o j p d, m ≤ i → i < n → ops[i]? = some o → m ≤ j → j < n → ops[j]? = some p → p.dst = some d → _ := fun i o j p d hm hn ho hm' hn' hp hd => by
    have := List.all_eq_true.1 (key i o hm hn ho).2.2.2.1 j (List.mem_range.2 hn')
    rw [hp] at this
    simp only [Bool.or_eq_true, decide_eq_true_eq] at this
    have := this.resolve_left (by omega)
    rw [hd] at this
    simp only [Bool.and_eq_true] at this
    exact this
  refine ⟨h1, h2, h3, ?_, ?_, ?_, ?_, ?_, ?_, ?_⟩
  · intro i o d hm hn ho hd
    have := (key i o hm hn ho).1
    rw [hd] at this
    simpa using this
  · intro i o hm hn ho e he hb
    have := List.all_eq_true.1 (key i o hm hn ho).2.1 e (by simpa using he)
    simpa [hb] using this
  · intro i o hm hn ho hf
    have := (key i o hm hn ho).2.2.1
    simp only [Bool.not_eq_true', List.contains_eq_mem, decide_eq_false_iff_not] at this
    have := this.resolve_left (fun h => h hf)
    exact ⟨by simpa using this.1, Option.isSome_iff_exists.1 this.2⟩
  · intro i o j p d hm hn ho hm' hn' hp hd hl
    have := (pair i o j p d hm hn ho hm' hn' hp hd).1
    simp only [Bool.or_eq_true, Bool.not_eq_true', List.contains_eq_mem, decide_eq_false_iff_not, Bool.and_eq_true, decide_eq_true_eq] at this
    have := this.resolve_left (fun h => h hl)
    exact this
  · intro i o j p d hm hn ho hm' hn' hp hne hd
    have := (pair i o j p d hm hn ho hm' hn' hp hd).2
    simp only [Bool.or_eq_true, beq_iff_eq, bne_iff_ne] at this
    exact this.resolve_left hne
  · intro hlt i hm hn
    cases ho : ops[i]? with
    | none => have := Array.getElem?_eq_none_iff.1 ho; omega
    | some o =>
      have := (key i o hm hn ho).2.2.2.2
      simp only [beq_iff_eq] at this
      have := this.resolve_left (by omega)
      obtain ⟨j, hj, hj'⟩ := List.any_eq_true.1 this
      simp only [Bool.and_eq_true, decide_eq_true_eq] at hj'
      have := List.mem_range.1 hj
      exact ⟨j, by omega, hj'.1, hj'.2⟩
  · intro t hn hs
    have := List.all_eq_true.1 h5 t (List.mem_range.2 hs)
    simp only [Bool.or_eq_true, decide_eq_true_eq] at this
    obtain ⟨s, hs, hs'⟩ := List.any_eq_true.1 (this.resolve_left (by omega))
    simp only [Bool.and_eq_true, decide_eq_true_eq] at hs'
    exact ⟨s, hs'.1, List.mem_range.1 hs, hs'.2⟩

/-- What the walk in the order of the text has shown. -/
structure HSpec (P : Program) (ops : Array Oper) (w0 : World) (m n : Nat) (fl : List Nat) (a0 A : Act) (val : Nat → Value) : Prop where
  size : A.tmps.size = a0.tmps.size
  dfs : A.defers = a0.defers
  un : ∀ t, (∀ j o, m ≤ j → j < n → ops[j]? = some o → j ∉ fl → o.dst ≠ some t) → slot A t = slot a0 t
  wr : ∀ j o d, m ≤ j → j < n → ops[j]? = some o → j ∉ fl → o.dst = some d → slot A d = val j
  ex : ∀ j o, m ≤ j → j < n → ops[j]? = some o → j ∉ fl →
    (Region.wanted o (yielded ops A.tmps) = true ∧ DQ P w0 o A (val j)) ∨ (Region.wanted o (yielded ops A.tmps) = false ∧ val j = undef)

theorem DQ.same {w0 : World} {o : Oper} {a b : Act} {v : Value} (hs : ∀ cs b, o.op ≠ .select cs b) (h : DQ P w0 o a v) (he : ∀ t ∈ o.looksAt ops, slot a t = slot b t) : DQ P w0 o b v := by
  intro w hw
  have := h w hw
  rwa [execOp_congr o hs (eval_same he)] at this
theorem FO.same {w0 : World} {o : Oper} {a b : Act} {R : Value → World → Prop} (hs : ∀ cs b, o.op ≠ .select cs b) (h : FO P w0 o a R) (he : ∀ t ∈ o.looksAt ops, slot a t = slot b t) : FO P w0 o b R := by
  intro w hw
  have := h w hw
  rwa [execOp_congr o hs (eval_same he)] at this

theorem dwalk_spec {w0 : World} {N m n : Nat} {fl : List Nat} (hok : HOk ops N m n fl) {K : Act → Prop} :
    ∀ (l : List Oper) (i : Nat) (a : Act), m ≤ i → i + l.length = n → (∀ j, j < l.length → l[j]? = ops[i + j]?) → a.tmps.size = N →
      dwalk P ops w0 fl K i l a → ∃ A val, K A ∧ HSpec P ops w0 i n fl a A val := by
  intro l
  induction l with
  | nil =>
    intro i a hm hl _ _ h
    simp only [List.length_nil] at hl
    exact ⟨a, fun _ => undef, h, ⟨rfl, rfl, fun _ _ => rfl, fun j o d h1 h2 => by omega, fun j o h1 h2 => by omega⟩⟩
  | cons o l ih =>
    intro i a hm hl hat hN h
    simp only [List.length_cons] at hl
    have ho : ops[i]? = some o := by have := hat 0 (by simp); simpa using this.symm
    have hat' : ∀ j, j < l.length → l[j]? = ops[i + 1 + j]? := fun j hj => by
      have := hat (j + 1) (by simp only [List.length_cons]; omega)
      simpa [Nat.add_assoc, Nat.add_comm 1 j] using this
    unfold dwalk at h
    by_cases hf : i ∈ fl
    · rw [if_pos hf] at h
      obtain ⟨A, val, hK, S⟩ := ih (i + 1) a (by omega) (by omega) hat' hN h
      refine ⟨A, val, hK, ⟨S.size, S.dfs, fun t ht => S.un t fun j p hj hj' hp hnf => ht j p (by omega) hj' hp hnf, fun j p d hj hj' hp hnf hd => ?_, fun j p hj hj' hp hnf => ?_⟩⟩
      · exact S.wr j p d (by have : j ≠ i := fun e => hnf (e ▸ hf); omega) hj' hp hnf hd
      · exact S.ex j p (by have : j ≠ i := fun e => hnf (e ▸ hf); omega) hj' hp hnf
    · rw [if_neg hf] at h
      have step : ∀ v, dwalk P ops w0 fl K (i + 1) l (a.put o.dst v) →
          ((Region.wanted o (yielded ops a.tmps) = true ∧ DQ P w0 o a v) ∨ (Region.wanted o (yielded ops a.tmps) = false ∧ v = undef)) → ∃ A val, K A ∧ HSpec P ops w0 i n fl a A val := by
        intro v hrest hex
        obtain ⟨A, val, hK, S⟩ := ih (i + 1) (a.put o.dst v) (by omega) (by omega) hat' (by rw [put_size]; exact hN) hrest
        have hsame : ∀ t ∈ o.looksAt ops, slot a t = slot A t := fun t ht => by
          rw [S.un t fun j p hj hj' hp hnf hd => by
            have := hok.look i o j p t hm (by omega) ho (by omega) hj' hp hd ht
            omega]
          refine (slot_put_ne v fun hd => ?_).symm
          have := hok.look i o i o t hm (by omega) ho hm (by omega) ho hd ht
          omega
        have hsz : a.tmps.size = A.tmps.size := by rw [S.size, put_size]
        refine ⟨A, fun j => if j = i then v else val j, hK, ⟨by rw [S.size, put_size], by rw [S.dfs, put_defers], fun t ht => ?_, fun j p d hj hj' hp hnf hd => ?_, fun j p hj hj' hp hnf => ?_⟩⟩
        · rw [S.un t fun j p hj hj' hp hnf => ht j p (by omega) hj' hp hnf]
          exact slot_put_ne v (ht i o (Nat.le_refl _) (by omega) ho hf)
        · by_cases hji : j = i
          · subst hji
            have : p = o := Option.some.inj (hp.symm.trans ho)
            subst this
            simp only [if_true]
            rw [S.un d fun k q hk hk' hq hnf' hd' => by
              have := hok.once j p k q d hm hj' hp (by omega) hk' hq (by omega) hd'
              exact this hd]
            rw [hd]
            exact slot_put_same v (by rw [hN]; exact hok.dst j p d hm hj' hp hd)
          · simp only [hji, if_false]
            exact S.wr j p d (by omega) hj' hp hnf hd
        · by_cases hji : j = i
          · subst hji
            have : p = o := Option.some.inj (hp.symm.trans ho)
            subst this
            simp only [if_true]
            rw [← wanted_same hsz hsame]
            rcases hex with ⟨h1, h2⟩ | h2
            · exact .inl ⟨h1, h2.same (fun cs b => Region.noSelect_spec hok.nosel j p cs b hp) hsame⟩
            · exact .inr h2
          · simp only [hji, if_false]
            exact S.ex j p (by omega) hj' hp hnf
      rcases h with ⟨hw, v, hv, hrest⟩ | ⟨hw, hrest⟩
      · exact step v hrest (.inl ⟨hw, hv⟩)
      · exact step undef hrest (.inr ⟨hw, rfl⟩)

/-- The state of the run through a head: which have come up, the frame, the world. -/
structure HInv (ops : Array Oper) (w0 : World) (N m n : Nat) (fl : List Nat) (R : Nat → Value → World → Prop) (a0 : Act) (val : Nat → Value) (listed : Array Bool) (a : Act) (w : World) : Prop where
  sz : listed.size = ops.size
  lo : ∀ j, j < m → listed.getD j false = true
  hi : ∀ j, n ≤ j → listed.getD j false = false
  cl : ∀ j o, ops[j]? = some o → m ≤ j → listed.getD j false = true → ∀ e ∈ o.after, Region.binds .any e = true → listed.getD e.on false = true
  ext : Ext w0 w
  tsz : a.tmps.size = N
  dfs : a.defers = a0.defers
  wrd : ∀ j o d, m ≤ j → j < n → ops[j]? = some o → o.dst = some d → listed.getD j false = true → j ∉ fl → slot a d = val j
  wrf : ∀ j o d, m ≤ j → j < n → ops[j]? = some o → o.dst = some d → listed.getD j false = true → j ∈ fl → R j (slot a d) w
  un : ∀ t, (∀ j o, m ≤ j → j < n → ops[j]? = some o → listed.getD j false = true → o.dst ≠ some t) → slot a t = slot a0 t

theorem getD_true_false {listed : Array Bool} {i : Nat} (h : i < listed.size) : listed.getD i true = listed.getD i false := by simp [Array.getD, h]
theorem getD_set_self {listed : Array Bool} {i : Nat} (h : i < listed.size) : (listed.setIfInBounds i true).getD i false = true := by simp [Array.getD, h]
theorem getD_set_other {listed : Array Bool} {i j : Nat} (h : i ≠ j) : (listed.setIfInBounds i true).getD j false = listed.getD j false := by
  simp [Array.getD_eq_getD_getElem?, Array.getElem?_setIfInBounds_ne h]

def upto (s m : Nat) : Array Bool := Array.ofFn (fun i : Fin s => decide (i.val < m))
theorem upto_size (s m : Nat) : (upto s m).size = s := by simp [upto]
theorem upto_getD (s m j : Nat) (d : Bool) : (upto s m).getD j d = if j < s then decide (j < m) else d := by
  by_cases h : j < s
  · simp [upto, Array.getD, h]
  · simp [upto, Array.getD, h]
theorem upto_zero (s : Nat) : upto s 0 = Array.replicate s false := by
  apply Array.ext
  · simp [upto]
  · intro i h1 h2
    simp [upto]
theorem upto_set (s m : Nat) : (upto s m).setIfInBounds m true = upto s (m + 1) := by
  apply Array.ext
  · simp [upto]
  · intro i h1 h2
    have h3 : i < s := by simpa [upto] using h2
    by_cases h : m = i
    · subst h
      simp [upto]
    · rw [Array.getElem_setIfInBounds_ne (h := h) (by simpa [upto] using h3)]
      simp only [upto, Array.getElem_ofFn]
      exact decide_eq_decide.2 ⟨fun _ => by omega, fun _ => by omega⟩

/-- The first 'm' operations have come up. -/
def Run (P : Program) (ops : Array Oper) (Q : Exit → Act → World → Prop) (m : Nat) (a : Act) (w : World) : Prop :=
  wpAny P .any ops Q (ops.size - m) (upto ops.size m) a w

theorem run_done {m : Nat} {a : Act} {w : World} (hm : ops.size ≤ m) (h : Q .normal a w) : Run P ops Q m a w := by
  unfold Run
  rw [Nat.sub_eq_zero_of_le hm]
  refine ⟨?_, h⟩
  apply List.eq_nil_iff_forall_not_mem.2
  intro j hj
  obtain ⟨h1, o, ho, _⟩ := mem_ready.1 hj
  have hlt : j < ops.size := (Array.getElem?_eq_some_iff.1 ho).1
  rw [upto_getD, if_pos hlt] at h1
  simp at h1
  omega

theorem run_seq {m : Nat} {a : Act} {w : World} (hr : Region.ready .any ops (upto ops.size m) = [m]) (h : wpOp P ops Q m (Run P ops Q (m + 1)) a w) : Run P ops Q m a w := by
  have hm : m ∈ Region.ready .any ops (upto ops.size m) := by rw [hr]; simp
  obtain ⟨_, o, ho, _⟩ := mem_ready.1 hm
  have hlt : m < ops.size := (Array.getElem?_eq_some_iff.1 ho).1
  unfold Run
  rw [show ops.size - m = (ops.size - (m + 1)) + 1 by omega]
  refine ⟨fun h0 => absurd (hr ▸ h0) (by simp), fun i hi => ?_⟩
  rw [hr] at hi
  have : i = m := by simpa using hi
  subst this
  rw [upto_set]
  exact h

theorem wp_region_run {id : Nat} {a : Act} {w : World} {l : List Oper} (hm : P.follows .mixedOrders = true) (h : Run P l.toArray Q 0 a { w with drawn := w.drawn + 1 }) : (Code.region id l.toArray true).wp P Q a w := by
  refine wp_region_any hm ?_
  have h' := h
  unfold Run at h'
  rw [upto_zero, Nat.sub_zero] at h'
  exact h'

section head
variable {w0 : World} {N m n : Nat} {fl : List Nat} {R : Nat → Value → World → Prop} {a0 A : Act} {val : Nat → Value}

theorem HInv.agree (hok : HOk ops N m n fl) (S : HSpec P ops w0 m n fl a0 A val) {listed : Array Bool} {a : Act} {w : World} (I : HInv ops w0 N m n fl R a0 val listed a w)
    {i : Nat} {o : Oper} (hm : m ≤ i) (hn : i < n) (ho : ops[i]? = some o) (hdep : ∀ e ∈ o.after, Region.binds .any e = true → listed.getD e.on false = true) :
    ∀ t ∈ o.looksAt ops, slot A t = slot a t := by
  intro t ht
  by_cases hex : ∃ j p, m ≤ j ∧ j < n ∧ ops[j]? = some p ∧ p.dst = some t
  · obtain ⟨j, p, hj, hj', hp, hd⟩ := hex
    obtain ⟨_, hw, hnf⟩ := hok.look i o j p t hm hn ho hj hj' hp hd ht
    obtain ⟨e, he, hb, hon⟩ := waits_spec ho hw
    have hl := hdep e he hb
    rw [hon] at hl
    rw [S.wr j p t hj hj' hp hnf hd, I.wrd j p t hj hj' hp hd hl hnf]
  · rw [S.un t fun j p hj hj' hp _ hd => hex ⟨j, p, hj, hj', hp, hd⟩, I.un t fun j p hj hj' hp _ hd => hex ⟨j, p, hj, hj', hp, hd⟩]

theorem HInv.next (hok : HOk ops N m n fl) (hR : ∀ j, Lasts (R j)) {listed : Array Bool} {a : Act} {w w' : World} (I : HInv ops w0 N m n fl R a0 val listed a w)
    {i : Nat} {o : Oper} {v : Value} (hm : m ≤ i) (hn : i < n) (ho : ops[i]? = some o) (hun : listed.getD i false = false)
    (hdep : ∀ e ∈ o.after, Region.binds .any e = true → listed.getD e.on false = true) (hx : Ext w w') (hvd : i ∉ fl → v = val i) (hvf : i ∈ fl → R i v w') :
    HInv ops w0 N m n fl R a0 val (listed.setIfInBounds i true) (a.put o.dst v) w' := by
  have hi : i < listed.size := by rw [I.sz]; exact (Array.getElem?_eq_some_iff.1 ho).1
  have hset : ∀ j, (listed.setIfInBounds i true).getD j false = true → j ≠ i → listed.getD j false = true := fun j h hne => by rwa [getD_set_other (Ne.symm hne)] at h
  have hmono : ∀ j, listed.getD j false = true → (listed.setIfInBounds i true).getD j false = true := fun j h => by
    by_cases hj : i = j
    · subst hj; exact getD_set_self hi
    · rwa [getD_set_other hj]
  have hkeep : ∀ j p d, m ≤ j → j < n → ops[j]? = some p → j ≠ i → p.dst = some d → slot (a.put o.dst v) d = slot a d := fun j p d hj hj' hp hne hd =>
    slot_put_ne v (hok.once i o j p d hm hn ho hj hj' hp hne hd)
  refine ⟨by simpa using I.sz, fun j hj => hmono j (I.lo j hj), fun j hj => ?_, fun j p hp hj hl e he hb => ?_, I.ext.trans hx, by rw [put_size]; exact I.tsz, by rw [put_defers]; exact I.dfs, fun j p d hj hj' hp hd hl hnf => ?_, fun j p d hj hj' hp hd hl hf => ?_, fun t ht => ?_⟩
  · rw [getD_set_other (by omega)]; exact I.hi j hj
  · by_cases hji : j = i
    · subst hji
      have : p = o := Option.some.inj (hp.symm.trans ho)
      subst this
      exact hmono _ (hdep e he hb)
    · exact hmono _ (I.cl j p hp hj (hset j hl hji) e he hb)
  · by_cases hji : j = i
    · subst hji
      have : p = o := Option.some.inj (hp.symm.trans ho)
      subst this
      rw [hd, slot_put_same v (by rw [I.tsz]; exact hok.dst j p d hj hj' hp hd)]
      exact hvd hnf
    · rw [hkeep j p d hj hj' hp hji hd]
      exact I.wrd j p d hj hj' hp hd (hset j hl hji) hnf
  · by_cases hji : j = i
    · subst hji
      have : p = o := Option.some.inj (hp.symm.trans ho)
      subst this
      rw [hd, slot_put_same v (by rw [I.tsz]; exact hok.dst j p d hj hj' hp hd)]
      exact hvf hf
    · rw [hkeep j p d hj hj' hp hji hd]
      exact hR j _ _ _ (I.wrf j p d hj hj' hp hd (hset j hl hji) hf) hx
  · rw [slot_put_ne v (ht i o hm hn ho (getD_set_self hi))]
    exact I.un t fun j p hj hj' hp hl => ht j p hj hj' hp (hmono j hl)

/-- Only what lies in the head may come up while some of it has not. -/
theorem HInv.ready_lt (hok : HOk ops N m n fl) {listed : Array Bool} {a : Act} {w : World} (I : HInv ops w0 N m n fl R a0 val listed a w)
    {i : Nat} (hm : m ≤ i) (hn : i < n) (hun : listed.getD i false = false) : ∀ t ∈ Region.ready .any ops listed, m ≤ t ∧ t < n := by
  intro t ht
  obtain ⟨h1, o, ho, hall⟩ := mem_ready.1 ht
  have htl : t < ops.size := (Array.getElem?_eq_some_iff.1 ho).1
  rw [getD_true_false (by rw [I.sz]; exact htl)] at h1
  refine ⟨Nat.le_of_not_lt fun h => (by rw [I.lo t h] at h1; cases h1), Nat.lt_of_not_le fun hge => ?_⟩
  rcases Nat.lt_or_eq_of_le hge with hgt | heq
  · obtain ⟨s, hs, _, hw⟩ := hok.tail t hgt htl
    obtain ⟨e, he, hb, hon⟩ := waits_spec ho hw
    have := hall e he hb
    rw [hon, I.hi s hs] at this
    cases this
  · subst heq
    have key : ∀ k i, n - i = k → m ≤ i → i < n → listed.getD i false = false → False := by
      intro k
      induction k using Nat.strongRecOn with
      | _ k ih =>
        intro i hk hm hn hun
        obtain ⟨j, hj, hij, hw⟩ := hok.sink htl i hm hn
        rcases Nat.lt_or_eq_of_le hj with hlt | heq
        · cases hl : listed.getD j false with
          | false => exact ih (n - j) (by omega) j rfl (by omega) hlt hl
          | true =>
            cases hp : ops[j]? with
            | none => have := Array.getElem?_eq_none_iff.1 hp; omega
            | some p =>
              obtain ⟨e, he, hb, hon⟩ := waits_spec hp hw
              have := I.cl j p hp (by omega) hl e he hb
              rw [hon, hun] at this
              cases this
        · subst heq
          obtain ⟨e, he, hb, hon⟩ := waits_spec ho hw
          have := hall e he hb
          rw [hon, hun] at this
          cases this
    exact key _ i rfl hm hn hun

/-- The first of them that has not come up may come up. -/
theorem HInv.some_ready (hok : HOk ops N m n fl) {listed : Array Bool} {a : Act} {w : World} (I : HInv ops w0 N m n fl R a0 val listed a w)
    {i : Nat} (hm : m ≤ i) (hn : i < n) (hun : listed.getD i false = false) : Region.ready .any ops listed ≠ [] := by
  have key : ∀ k i, i = k → m ≤ i → i < n → listed.getD i false = false → ∃ t, t ∈ Region.ready .any ops listed := by
    intro k
    induction k using Nat.strongRecOn with
    | _ k ih =>
      intro i hk hm hn hun
      subst hk
      cases ho : ops[i]? with
      | none => have := Array.getElem?_eq_none_iff.1 ho; have := hok.ns; omega
      | some o =>
        have hil : i < listed.size := by rw [I.sz]; exact (Array.getElem?_eq_some_iff.1 ho).1
        by_cases hall : ∀ e ∈ o.after, Region.binds .any e = true → listed.getD e.on false = true
        · exact ⟨i, mem_ready.2 ⟨by rw [getD_true_false hil]; exact hun, o, ho, hall⟩⟩
        · have : ∃ e ∈ o.after, Region.binds .any e = true ∧ listed.getD e.on false ≠ true := by
            apply Classical.byContradiction
            intro hno
            exact hall fun e he hb => Classical.byContradiction fun hc => hno ⟨e, he, hb, hc⟩
          obtain ⟨e, he, hb, hc⟩ := this
          have hlt := hok.back i o hm hn ho e he hb
          have hun' : listed.getD e.on false = false := by simpa using hc
          have hme : m ≤ e.on := Nat.le_of_not_lt fun h => (by rw [I.lo _ h] at hun'; cases hun')
          exact ih e.on hlt e.on rfl hme (by omega) hun'
  obtain ⟨t, ht⟩ := key i i rfl hm hn hun
  intro h0
  rw [h0] at ht
  cases ht

/-- How many of the head have not come up. -/
def open_ (m n : Nat) (listed : Array Bool) : Nat := ((List.range n).filter fun j => decide (m ≤ j) && !listed.getD j false).length
theorem open_set {listed : Array Bool} {i : Nat} (hm : m ≤ i) (hn : i < n) (hi : i < listed.size) (hun : listed.getD i false = false) : open_ m n listed = open_ m n (listed.setIfInBounds i true) + 1 := by
  unfold open_
  have key : ∀ l : List Nat, l.Nodup → i ∈ l → (l.filter fun j => decide (m ≤ j) && !listed.getD j false).length = (l.filter fun j => decide (m ≤ j) && !(listed.setIfInBounds i true).getD j false).length + 1 := by
    intro l
    induction l with
    | nil => intro _ h; cases h
    | cons x l ih =>
      intro hnd hmem
      obtain ⟨hx, hnd'⟩ := List.nodup_cons.1 hnd
      by_cases hxi : x = i
      · subst hxi
        have hrest : l.filter (fun j => decide (m ≤ j) && !listed.getD j false) = l.filter (fun j => decide (m ≤ j) && !(listed.setIfInBounds x true).getD j false) :=
          List.filter_congr fun j hj => by rw [getD_set_other (fun e => hx (by rw [e]; exact hj))]
        rw [List.filter_cons_of_pos (by simp [hm, hun]), List.filter_cons_of_neg (by simp [hi]), hrest]
        rfl
      · have hmem' : i ∈ l := (List.mem_cons.1 hmem).resolve_left (Ne.symm hxi)
        have hsame : (listed.setIfInBounds i true).getD x false = listed.getD x false := getD_set_other (Ne.symm hxi)
        have := ih hnd' hmem'
        rw [List.filter_cons, List.filter_cons, hsame]
        by_cases hp : (decide (m ≤ x) && !listed.getD x false) = true
        · rw [if_pos hp, if_pos hp, List.length_cons, List.length_cons, this]
        · rw [if_neg hp, if_neg hp, this]
  exact key _ List.nodup_range (List.mem_range.2 hn)
theorem open_zero {listed : Array Bool} (h : open_ m n listed = 0) : ∀ j, m ≤ j → j < n → listed.getD j false = true := by
  intro j hj hj'
  unfold open_ at h
  have := List.eq_nil_of_length_eq_zero h
  have hno := List.filter_eq_nil_iff.1 this j (List.mem_range.2 hj')
  simp [hj] at hno
  simpa [Array.getD_eq_getD_getElem?] using hno

theorem head_all (hok : HOk ops N m n fl) (hR : ∀ j, Lasts (R j)) (S : HSpec P ops w0 m n fl a0 A val) (hsz : A.tmps.size = N)
    (hfl : ∀ i o, m ≤ i → i < n → ops[i]? = some o → i ∈ fl → FO P w0 o A (R i))
    (hend : ∀ a w, HInv ops w0 N m n fl R a0 val (upto ops.size n) a w → Run P ops Q n a w) :
    ∀ (k : Nat) (listed : Array Bool) (a : Act) (w : World), open_ m n listed = k → HInv ops w0 N m n fl R a0 val listed a w → wpAny P .any ops Q (k + (ops.size - n)) listed a w := by
  intro k
  induction k with
  | zero =>
    intro listed a w hk I
    have hall := open_zero hk
    have : listed = upto ops.size n := by
      apply Array.ext
      · rw [I.sz, upto_size]
      · intro j h1 h2
        have h1' : listed.getD j false = listed[j] := by simp [Array.getD, h1]
        have h2' : (upto ops.size n).getD j false = (upto ops.size n)[j] := by simp [Array.getD, h2]
        rw [← h1', ← h2', upto_getD, if_pos (by rw [← I.sz]; exact h1)]
        by_cases hjn : j < n
        · by_cases hjm : j < m
          · rw [I.lo j hjm]; simp [hjn]
          · rw [hall j (by omega) hjn]; simp [hjn]
        · rw [I.hi j (by omega)]; simp [hjn]
    subst this
    rw [Nat.zero_add]
    exact hend a w I
  | succ k ih =>
    intro listed a w hk I
    have hex : ∃ i, m ≤ i ∧ i < n ∧ listed.getD i false = false := by
      apply Classical.byContradiction
      intro hno
      have : open_ m n listed = 0 := by
        unfold open_
        rw [List.filter_eq_nil_iff.2, List.length_nil]
        intro j hj hc
        simp only [Bool.and_eq_true, decide_eq_true_eq, Bool.not_eq_true'] at hc
        exact hno ⟨j, hc.1, List.mem_range.1 hj, hc.2⟩
      omega
    obtain ⟨i0, hm0, hn0, hun0⟩ := hex
    have hsel := fun j o ho cs b => Region.noSelect_spec hok.nosel j o cs b ho
    rw [show k + 1 + (ops.size - n) = (k + (ops.size - n)) + 1 by omega]
    refine ⟨fun h0 => absurd h0 (I.some_ready hok hm0 hn0 hun0), fun i hi => ?_⟩
    obtain ⟨hm, hn⟩ := I.ready_lt hok hm0 hn0 hun0 i hi
    obtain ⟨h1, o, ho, hdep⟩ := mem_ready.1 hi
    have hil : i < listed.size := by rw [I.sz]; exact (Array.getElem?_eq_some_iff.1 ho).1
    rw [getD_true_false hil] at h1
    have hag := I.agree hok S hm hn ho hdep
    have hop : open_ m n (listed.setIfInBounds i true) = k := by
      have := open_set hm hn hil h1
      omega
    have hwa := wanted_same (hsz.trans I.tsz.symm) hag
    have go : ∀ (v : Value) (w' : World), Ext w w' → (i ∉ fl → v = val i) → (i ∈ fl → R i v w') →
        wpAny P .any ops Q (k + (ops.size - n)) (listed.setIfInBounds i true) (a.put o.dst v) w' := fun v w' hx hd hf =>
      ih _ _ _ hop (I.next hok hR hm hn ho h1 hdep hx hd hf)
    unfold wpOp
    rw [ho]
    simp only
    by_cases hf : i ∈ fl
    · obtain ⟨hg, _⟩ := hok.flo i o hm hn ho hf
      rw [if_pos (by simp [Region.wanted, hg])]
      refine .inl ?_
      have := ((hfl i o hm hn ho hf).same (fun cs b => hsel i o ho cs b) hag) w I.ext
      unfold Oper.wp
      rcases this with ⟨v, w', hr, hx, hv⟩ | ⟨f, args, hr, hc⟩
      · rw [hr]
        exact go v w' hx (fun h => absurd hf h) fun _ => hv
      · rw [hr]
        refine Calls.mono hc ?_
        rintro e w' ⟨v, rfl, hx, hv⟩
        exact go v w' hx (fun h => absurd hf h) fun _ => hv
    · rcases S.ex i o hm hn ho hf with ⟨hw, hq⟩ | ⟨hw, hq⟩
      · rw [if_pos (by rw [← hwa]; exact hw)]
        refine .inl ?_
        have := (hq.same (fun cs b => hsel i o ho cs b) hag) w I.ext
        unfold Oper.wp
        rcases this with hr | ⟨hr, hv⟩ | ⟨f, args, hr, hc⟩
        · rw [hr]
          exact go _ w (Ext.refl w) (fun _ => rfl) fun h => absurd h hf
        · rw [hr]
          exact go _ w (Ext.refl w) (fun _ => hv.symm) fun h => absurd h hf
        · rw [hr]
          refine Calls.mono hc ?_
          rintro e w' ⟨rfl, hx⟩
          exact go _ w' hx (fun _ => rfl) fun h => absurd h hf
      · rw [if_neg (by rw [← hwa, hw]; exact Bool.false_ne_true)]
        exact go _ w (Ext.refl w) (fun _ => hq.symm) fun h => absurd h hf

/-- **A HEAD**: operations m .. n-1, from the state in which the first m have come up. -/
theorem run_head (N m n : Nat) (fl : List Nat) (R : Nat → Value → World → Prop) (l : List Oper) (hB : headB ops N m n fl = true) (hl : (ops.toList.drop m).take (n - m) = l) {a : Act} {w : World} (hN : a.tmps.size = N) (hR : ∀ j, Lasts (R j))
    (h : dwalk P ops w fl (fun A => (∀ i o, m ≤ i → i < n → ops[i]? = some o → i ∈ fl → FO P w o A (R i)) ∧
      ∀ a' w', Ext w w' → a'.tmps.size = N → a'.defers = a.defers →
        (∀ t, (∀ i o, m ≤ i → i < n → ops[i]? = some o → i ∈ fl → o.dst ≠ some t) → slot a' t = slot A t) →
        (∀ i o d, m ≤ i → i < n → ops[i]? = some o → i ∈ fl → o.dst = some d → R i (slot a' d) w') → Run P ops Q n a' w') m l a) : Run P ops Q m a w := by
  have hok := headB_spec hB
  have hlen : l.length = n - m := by rw [← hl]; have := hok.ns; simp; omega
  obtain ⟨A, val, ⟨hfl, hK⟩, S⟩ := dwalk_spec hok l m a (Nat.le_refl _) (by have := hok.mn; omega) (fun j hj => by
    rw [← hl, List.getElem?_take, if_pos (by omega), List.getElem?_drop]; simp) hN h
  have hsize : ops.size - m = (n - m) + (ops.size - n) := by have := hok.ns; have := hok.mn; omega
  unfold Run
  rw [hsize]
  refine head_all hok hR S (by rw [S.size, hN]) hfl (fun a' w' I => ?_) _ _ _ _ ?_ ⟨upto_size _ _, fun j hj => ?_, fun j hj => ?_, fun j o ho hm hl => ?_, Ext.refl w, hN, rfl, fun j o d hm hn ho hd hl => ?_, fun j o d hm hn ho hd hl => ?_, fun _ _ => rfl⟩
  · have hall : ∀ j, j < n → (upto ops.size n).getD j false = true := fun j hj => by
      rw [upto_getD, if_pos (by have := hok.ns; omega)]; simp [hj]
    refine hK a' w' I.ext I.tsz I.dfs (fun t ht => ?_) (fun i o d hm hn ho hf hd => I.wrf i o d hm hn ho hd (hall i hn) hf)
    by_cases hex : ∃ j p, m ≤ j ∧ j < n ∧ ops[j]? = some p ∧ p.dst = some t
    · obtain ⟨j, p, hj, hj', hp, hd⟩ := hex
      have hnf : j ∉ fl := fun hf => ht j p hj hj' hp hf hd
      rw [S.wr j p t hj hj' hp hnf hd, I.wrd j p t hj hj' hp hd (hall j hj') hnf]
    · rw [S.un t fun j p hj hj' hp _ hd => hex ⟨j, p, hj, hj', hp, hd⟩, I.un t fun j p hj hj' hp _ hd => hex ⟨j, p, hj, hj', hp, hd⟩]
  · unfold open_
    have : ((List.range n).filter fun j => decide (m ≤ j) && !(upto ops.size m).getD j false) = (List.range n).filter fun j => decide (m ≤ j) :=
      List.filter_congr fun j hj => by
        rw [upto_getD]
        have := hok.ns
        have := List.mem_range.1 hj
        rw [if_pos (by omega)]
        by_cases h : m ≤ j
        · simp [h, show ¬ j < m by omega]
        · simp [h]
    rw [this]
    have key : ∀ n, m ≤ n → ((List.range n).filter fun j => decide (m ≤ j)).length = n - m := by
      intro n
      induction n with
      | zero => intro _; simp
      | succ n ih =>
        intro h
        rw [List.range_succ, List.filter_append, List.length_append]
        by_cases hmn : m ≤ n
        · rw [ih hmn]; simp [hmn]; omega
        · have : m = n + 1 := by omega
          subst this
          rw [List.filter_eq_nil_iff.2 (fun j hj => by have := List.mem_range.1 hj; simp; omega)]
          simp
    exact key n hok.mn
  · rw [upto_getD, if_pos (by have := hok.ns; have := hok.mn; omega)]; simp [hj]
  · rw [upto_getD]
    split
    · have := hok.mn; simp; omega
    · rfl
  · have := (Array.getElem?_eq_some_iff.1 ho).1
    rw [upto_getD, if_pos this] at hl
    simp at hl
    omega
  · have := (Array.getElem?_eq_some_iff.1 ho).1
    rw [upto_getD, if_pos this] at hl
    simp at hl
    omega
  · have := (Array.getElem?_eq_some_iff.1 ho).1
    rw [upto_getD, if_pos this] at hl
    simp at hl
    omega
end head
end
end Go.Fw
set_option linter.unusedVariables false
set_option linter.unusedSimpArgs false
namespace Go.Fw
open Go Go.RowKit

/-! ### Frames -/
def look (t : Nat) : List (Nat × Value) → Option Value
  | [] => none
  | (k, v) :: l => bif Nat.beq t k then some v else look t l

structure Fr (N : Nat) (a : Act) (m : List (Nat × Value)) : Prop where
  size : a.tmps.size = N
  dfs : a.defers = []
  get : ∀ t v, look t m = some v → slot a t = v

theorem look_cons_ne {t d : Nat} {v : Value} {m : List (Nat × Value)} (h : t ≠ d) : look t ((d, v) :: m) = look t m := by
  have : Nat.beq t d = false := by
    cases hb : Nat.beq t d with
    | false => rfl
    | true => exact absurd (Nat.eq_of_beq_eq_true hb) h
  simp [look, this]
theorem look_cons_eq {d : Nat} {v : Value} {m : List (Nat × Value)} : look d ((d, v) :: m) = some v := by
  simp [look]

section
variable {N : Nat} {a : Act} {m : List (Nat × Value)}
theorem Fr.put (h : Fr N a m) {d : Nat} (v : Value) (hd : Nat.blt d N = true) : Fr N (a.put (some d) v) ((d, v) :: m) := by
  refine ⟨by rw [put_size]; exact h.size, by rw [put_defers]; exact h.dfs, fun t u ht => ?_⟩
  by_cases htd : t = d
  · subst htd
    rw [look_cons_eq] at ht
    injection ht with ht
    rw [slot_put_same v (by rw [h.size]; simpa using hd), ht]
  · rw [look_cons_ne htd] at ht
    rw [slot_put_ne v (by simp only [ne_eq, Option.some.injEq]; exact fun e => htd e.symm)]
    exact h.get t u ht
theorem ev_const (a : Act) (v : Value) : a.eval (.const v) = v := rfl
theorem Fr.t (h : Fr N a m) {t : Nat} {v : Value} (hl : look t m = some v) : a.eval (.tmp t) = v := h.get t v hl
/-- What is asked of a frame: pairs, each of which the other one holds. -/
def Sub : List (Nat × Value) → List (Nat × Value) → Prop
  | [], _ => True
  | (k, v) :: l, m => look k m = some v ∧ Sub l m
theorem Fr.sub (h : Fr N a m) {m' : List (Nat × Value)} (hs : Sub m' m) : Fr N a m' := by
  refine ⟨h.size, h.dfs, fun t v ht => ?_⟩
  induction m' with
  | nil => cases ht
  | cons p l ih =>
    obtain ⟨h1, h2⟩ := hs
    obtain ⟨d, u⟩ := p
    by_cases htd : t = d
    · subst htd
      rw [look_cons_eq] at ht
      injection ht with ht
      subst ht
      exact h.get t u h1
    · rw [look_cons_ne htd] at ht
      exact ih h2 ht
def pars : Nat → List Value → List (Nat × Value)
  | _, [] => []
  | i, v :: l => (i, v) :: pars (i + 1) l
theorem look_pars : ∀ (l : List Value) (i t : Nat) (v : Value), look t (pars i l) = some v → i ≤ t ∧ l[t - i]? = some v
  | [], _, _, _, h => by cases h
  | u :: l, i, t, v, h => by
    by_cases hti : t = i
    · subst hti
      rw [pars, look_cons_eq] at h
      injection h with h
      subst h
      simp
    · rw [pars, look_cons_ne hti] at h
      obtain ⟨h1, h2⟩ := look_pars l (i + 1) t v h
      refine ⟨by omega, ?_⟩
      rw [show t - i = (t - (i + 1)) + 1 by omega]
      simpa using h2
end

section
variable {P : Program}
theorem calls_start {f : FuncId} {fn : Func} {c : Code} {args : List Value} {w : World} {R : Ending → World → Prop} (N : Nat) (hf : P.funcs[f]? = some fn) (hb : fn.body = some c) (hN : fn.ntmps = N)
    (hl : Nat.ble args.length N = true) (h : ∀ a, Fr N a (pars 0 args) → c.wp P (bodyPost P fn R) a w) : Calls P f args.toArray w R := by
  refine calls_of_wp hf hb (h _ ⟨?_, rfl, fun t v ht => ?_⟩)
  · have : args.length ≤ N := by simpa using hl
    simp [hN]; omega
  · obtain ⟨_, h2⟩ := look_pars args 0 t v ht
    simp only [Nat.sub_zero] at h2
    have hlt : t < args.length := (List.getElem?_eq_some_iff.1 h2).1
    simp only [slot, Array.getD_eq_getD_getElem?]
    rw [Array.getElem?_append_left (by simpa using hlt)]
    simp [h2]

/-! ### Worlds -/
/-- A block that is known: new (laid by the call) or old; its number, if it has one; what it holds. -/
structure Ent where
  nw : Bool
  ob : Option Nat
  o : Obj

structure St (w0 w : World) (H : List Ent) : Prop where
  os : w.os = w0.os
  tape : w.tape = w0.tape
  output : w.output = w0.output
  size : w0.heap.size ≤ w.heap.size
  old : ∀ b, b < w0.heap.size → (∀ e ∈ H, e.nw = false → e.ob ≠ some b) → w.heap[b]? = w0.heap[b]?
  has : ∀ e ∈ H, ∀ b, e.ob = some b → w.heap[b]? = some e.o
  new : ∀ e ∈ H, e.nw = true → ∀ b, e.ob = some b → w0.heap.size ≤ b
  once : ∀ (i j : Nat) (ei ej : Ent) (b : Nat), H[i]? = some ei → H[j]? = some ej → ei.ob = some b → ej.ob = some b → i = j

theorem St.refl (w : World) : St w w [] :=
  ⟨rfl, rfl, rfl, Nat.le_refl _, fun _ _ _ => rfl, fun _ h => (by cases h), fun _ h => (by cases h), fun i _ _ _ _ h => (by simp at h)⟩
theorem heap_lt {w : World} {b : Nat} {o : Obj} (h : w.heap[b]? = some o) : b < w.heap.size := (Array.getElem?_eq_some_iff.1 h).1
theorem St.lt {w0 w : World} {H : List Ent} (h : St w0 w H) {e : Ent} (he : e ∈ H) {b : Nat} (hb : e.ob = some b) : b < w.heap.size := heap_lt (h.has e he b hb)
theorem St.ext {w0 w w' : World} {H : List Ent} (h : St w0 w H) (hx : Ext w w') : St w0 w' H :=
  ⟨hx.os.trans h.os, hx.tape.trans h.tape, hx.output.trans h.output, Nat.le_trans h.size hx.size,
    fun b hb hn => (hx.block b (Nat.lt_of_lt_of_le hb h.size)).trans (h.old b hb hn),
    fun e he b hb => (hx.block b (h.lt he hb)).trans (h.has e he b hb), h.new, h.once⟩
theorem St.toExt {w0 w : World} {H : List Ent} (h : St w0 w H) (hn : ∀ e ∈ H, e.nw = true) : Ext w0 w :=
  ⟨h.os, h.tape, h.output, h.size, fun b hb => h.old b hb fun e he hf => (by rw [hn e he] at hf; cases hf)⟩
theorem St.nil {w0 w : World} (h : Ext w0 w) : St w0 w [] := (St.refl w0).ext h
/-- A new block of a later world, into the list. -/
theorem St.attach {w0 w w' : World} {H : List Ent} (h : St w0 w' H) (hlt : ∀ e ∈ H, ∀ b, e.ob = some b → b < w.heap.size) (hw : w0.heap.size ≤ w.heap.size) (ob : Option Nat) (o : Obj)
    (hb : ∀ b, ob = some b → w.heap.size ≤ b ∧ w'.heap[b]? = some o) : St w0 w' (⟨true, ob, o⟩ :: H) := by
  refine ⟨h.os, h.tape, h.output, h.size, fun b hb' hn => h.old b hb' fun e he => hn e (List.mem_cons_of_mem _ he), fun e he b hbe => ?_, fun e he hn b hbe => ?_, fun i j ei ej b hi hj hbi hbj => ?_⟩
  · rcases List.mem_cons.1 he with rfl | he
    · exact (hb b hbe).2
    · exact h.has e he b hbe
  · rcases List.mem_cons.1 he with rfl | he
    · have := (hb b hbe).1; omega
    · exact h.new e he hn b hbe
  · have fresh : ∀ e ∈ H, ∀ b, e.ob = some b → ob ≠ some b := fun e he b hbe ho => by
      have := hlt e he b hbe
      have := (hb b ho).1
      omega
    cases i with
    | zero =>
      cases j with
      | zero => rfl
      | succ j =>
        simp only [List.getElem?_cons_zero, Option.some.injEq, List.getElem?_cons_succ] at hi hj
        subst hi
        exact absurd hbi (fresh ej (List.mem_of_getElem? hj) b hbj)
    | succ i =>
      cases j with
      | zero =>
        simp only [List.getElem?_cons_zero, Option.some.injEq, List.getElem?_cons_succ] at hi hj
        subst hj
        exact absurd hbj (fresh ei (List.mem_of_getElem? hi) b hbi)
      | succ j =>
        simp only [List.getElem?_cons_succ] at hi hj
        rw [h.once i j ei ej b hi hj hbi hbj]
theorem St.lts {w0 w : World} {H : List Ent} (h : St w0 w H) : ∀ e ∈ H, ∀ b, e.ob = some b → b < w.heap.size := fun _ he _ hb => h.lt he hb
theorem St.alloc {w0 w : World} {H : List Ent} (h : St w0 w H) (o : Obj) : St w0 (w.alloc o) (⟨true, some w.heap.size, o⟩ :: H) :=
  (h.ext (Ext.alloc w o)).attach h.lts h.size _ _ fun b hb => by
    injection hb with hb
    subst hb
    exact ⟨Nat.le_refl _, heap_alloc_new w o⟩
/-- An old block, into the list. -/
theorem St.know {w0 w : World} {H : List Ent} (h : St w0 w H) {b : Nat} {o : Obj} (hb : w.heap[b]? = some o) (hlt : b < w0.heap.size) (hne : ∀ e ∈ H, e.ob ≠ some b) : St w0 w (⟨false, some b, o⟩ :: H) := by
  refine ⟨h.os, h.tape, h.output, h.size, fun c hc hn => h.old c hc fun e he => hn e (List.mem_cons_of_mem _ he), fun e he c hbe => ?_, fun e he hn c hbe => ?_, fun i j ei ej c hi hj hbi hbj => ?_⟩
  · rcases List.mem_cons.1 he with rfl | he
    · injection hbe with hbe; subst hbe; exact hb
    · exact h.has e he c hbe
  · rcases List.mem_cons.1 he with rfl | he
    · cases hn
    · exact h.new e he hn c hbe
  · cases i with
    | zero =>
      cases j with
      | zero => rfl
      | succ j =>
        simp only [List.getElem?_cons_zero, Option.some.injEq, List.getElem?_cons_succ] at hi hj
        subst hi
        exact absurd (hbj.trans hbi.symm) (hne ej (List.mem_of_getElem? hj))
    | succ i =>
      cases j with
      | zero =>
        simp only [List.getElem?_cons_zero, Option.some.injEq, List.getElem?_cons_succ] at hi hj
        subst hj
        exact absurd (hbi.trans hbj.symm) (hne ei (List.mem_of_getElem? hi))
      | succ j =>
        simp only [List.getElem?_cons_succ] at hi hj
        rw [h.once i j ei ej c hi hj hbi hbj]
theorem St.first {w : World} {b : Nat} {o : Obj} (hb : w.heap[b]? = some o) : St w w [⟨false, some b, o⟩] := (St.refl w).know hb (heap_lt hb) fun _ h => (by cases h)
/-- One block of the list has turned, and nothing else. -/
theorem St.turn {w0 w w' : World} {H : List Ent} (h : St w0 w H) {k : Nat} {nw : Bool} {b : Nat} {o o' : Obj} (hk : H[k]? = some ⟨nw, some b, o⟩)
    (hos : w'.os = w.os) (htape : w'.tape = w.tape) (hout : w'.output = w.output) (hsize : w.heap.size ≤ w'.heap.size) (hb : w'.heap[b]? = some o') (hx : ∀ c, c < w.heap.size → c ≠ b → w'.heap[c]? = w.heap[c]?) :
    St w0 w' (H.set k ⟨nw, some b, o'⟩) := by
  have hkl : k < H.length := (List.getElem?_eq_some_iff.1 hk).1
  have hat : ∀ i e, (H.set k ⟨nw, some b, o'⟩)[i]? = some e → (i = k ∧ e = ⟨nw, some b, o'⟩) ∨ (i ≠ k ∧ H[i]? = some e) := fun i e hi => by
    rw [List.getElem?_set] at hi
    by_cases hik : k = i
    · subst hik
      rw [if_pos rfl, if_pos hkl] at hi
      injection hi with hi
      exact .inl ⟨rfl, hi.symm⟩
    · rw [if_neg hik] at hi
      exact .inr ⟨fun e => hik e.symm, hi⟩
  have hmem : ∀ e ∈ H.set k ⟨nw, some b, o'⟩, ∃ i, (H.set k ⟨nw, some b, o'⟩)[i]? = some e := fun e he => List.getElem?_of_mem he
  refine ⟨hos.trans h.os, htape.trans h.tape, hout.trans h.output, Nat.le_trans h.size hsize, fun c hc hn => ?_, fun e he c hbe => ?_, fun e he hn c hbe => ?_, fun i j ei ej c hi hj hbi hbj => ?_⟩
  · have hme : (⟨nw, some b, o'⟩ : Ent) ∈ H.set k ⟨nw, some b, o'⟩ := List.mem_of_getElem? (by rw [List.getElem?_set, if_pos rfl, if_pos hkl])
    have hcb : c ≠ b := by
      rintro rfl
      cases nw with
      | false => exact hn _ hme rfl rfl
      | true => have := h.new _ (List.mem_of_getElem? hk) rfl c rfl; omega
    rw [hx c (Nat.lt_of_lt_of_le hc h.size) hcb]
    refine h.old c hc fun e he hnf hec => ?_
    obtain ⟨i, hi⟩ := List.getElem?_of_mem he
    by_cases hik : i = k
    · subst hik
      rw [hk] at hi
      injection hi with hi
      subst hi
      injection hec with hec
      exact hcb hec.symm
    · exact hn e (List.mem_of_getElem? (i := i) (by rw [List.getElem?_set, if_neg (fun e => hik e.symm)]; exact hi)) hnf hec
  · obtain ⟨i, hi⟩ := hmem e he
    rcases hat i e hi with ⟨rfl, rfl⟩ | ⟨hik, hi'⟩
    · injection hbe with hbe; subst hbe; exact hb
    · have hcb : c ≠ b := fun hcb => hik (h.once i k e _ c hi' hk hbe (by rw [hcb]))
      rw [hx c (h.lt (List.mem_of_getElem? hi') hbe) hcb]
      exact h.has e (List.mem_of_getElem? hi') c hbe
  · obtain ⟨i, hi⟩ := hmem e he
    rcases hat i e hi with ⟨rfl, rfl⟩ | ⟨_, hi'⟩
    · exact h.new _ (List.mem_of_getElem? hk) hn c hbe
    · exact h.new e (List.mem_of_getElem? hi') hn c hbe
  · have back : ∀ (i : Nat) (e : Ent), (H.set k ⟨nw, some b, o'⟩)[i]? = some e → ∃ e' : Ent, H[i]? = some e' ∧ e'.ob = e.ob := fun i e hi => by
      rcases hat i e hi with ⟨rfl, rfl⟩ | ⟨_, hi'⟩
      · exact ⟨_, hk, rfl⟩
      · exact ⟨e, hi', rfl⟩
    obtain ⟨ei', hi', he1⟩ := back i ei hi
    obtain ⟨ej', hj', he2⟩ := back j ej hj
    exact h.once i j ei' ej' c hi' hj' (he1.trans hbi) (he2.trans hbj)
/-- New blocks of the list may be forgotten. -/
theorem St.drop {w0 w : World} {e : Ent} {H : List Ent} (h : St w0 w (e :: H)) (hn : e.nw = true) : St w0 w H :=
  ⟨h.os, h.tape, h.output, h.size, fun b hb hne => h.old b hb fun d hd hf => by
      rcases List.mem_cons.1 hd with rfl | hd
      · rw [hn] at hf; cases hf
      · exact hne d hd hf,
    fun d hd => h.has d (List.mem_cons_of_mem _ hd), fun d hd => h.new d (List.mem_cons_of_mem _ hd),
    fun i j ei ej b hi hj => by
      intro h1 h2
      have := h.once (i + 1) (j + 1) ei ej b (by simpa using hi) (by simpa using hj) h1 h2
      omega⟩
theorem St.drop2 {w0 w : World} {d e : Ent} {H : List Ent} (h : St w0 w (d :: e :: H)) (hn : e.nw = true) : St w0 w (d :: H) := by
  refine ⟨h.os, h.tape, h.output, h.size, fun b hb hne => h.old b hb fun c hc hf => ?_, fun c hc => h.has c ?_, fun c hc => h.new c ?_, fun i j ei ej b hi hj h1 h2 => ?_⟩
  · rcases List.mem_cons.1 hc with rfl | hc
    · exact hne c (List.mem_cons_self) hf
    · rcases List.mem_cons.1 hc with rfl | hc
      · rw [hn] at hf; cases hf
      · exact hne c (List.mem_cons_of_mem _ hc) hf
  · rcases List.mem_cons.1 hc with rfl | hc
    · exact List.mem_cons_self
    · exact List.mem_cons_of_mem _ (List.mem_cons_of_mem _ hc)
  · rcases List.mem_cons.1 hc with rfl | hc
    · exact List.mem_cons_self
    · exact List.mem_cons_of_mem _ (List.mem_cons_of_mem _ hc)
  · have up : ∀ i x, (d :: H)[i]? = some x → (d :: e :: H)[if i = 0 then 0 else i + 1]? = some x := fun i x hx => by
      cases i with
      | zero => simpa using hx
      | succ i => simpa using hx
    have := h.once _ _ ei ej b (up i ei hi) (up j ej hj) h1 h2
    split at this <;> split at this <;> omega
/-- An old block of the list that holds what it held may be forgotten. -/
theorem St.forget {w0 w : World} {b : Nat} {o : Obj} {H : List Ent} (h : St w0 w (⟨false, some b, o⟩ :: H)) (hb : w0.heap[b]? = some o) : St w0 w H :=
  ⟨h.os, h.tape, h.output, h.size, fun c hc hne => by
      by_cases hcb : c = b
      · subst hcb; rw [hb]; exact h.has _ List.mem_cons_self c rfl
      · refine h.old c hc fun d hd hf => ?_
        rcases List.mem_cons.1 hd with rfl | hd
        · intro he; injection he with he; exact hcb he.symm
        · exact hne d hd hf,
    fun d hd => h.has d (List.mem_cons_of_mem _ hd), fun d hd => h.new d (List.mem_cons_of_mem _ hd),
    fun i j ei ej b hi hj => by
      intro h1 h2
      have := h.once (i + 1) (j + 1) ei ej b (by simpa using hi) (by simpa using hj) h1 h2
      omega⟩
/-- A call that has turned nothing but new memory; one that has turned block k of the list. -/
theorem St.call0 {w0 w w' : World} {H H' : List Ent} (h : St w0 w H) (hc : St w w' H') (hn : ∀ e ∈ H', e.nw = true) : St w0 w' H := h.ext (hc.toExt hn)
theorem St.call1 {w0 w w' : World} {H H' : List Ent} (h : St w0 w H) {k : Nat} {nw : Bool} {b : Nat} {o o' : Obj} (hk : H[k]? = some ⟨nw, some b, o⟩) (hc : St w w' (⟨false, some b, o'⟩ :: H')) (hn : ∀ e ∈ H', e.nw = true) :
    St w0 w' (H.set k ⟨nw, some b, o'⟩) :=
  h.turn hk hc.os hc.tape hc.output hc.size (hc.has _ List.mem_cons_self b rfl) fun c hlt hne => hc.old c hlt fun e he hf => by
    rcases List.mem_cons.1 he with rfl | he
    · intro h; injection h with h; exact hne h.symm
    · rw [hn e he] at hf; cases hf
/-- .. and a new block that it hands back. -/
theorem St.newOf {w0 w w' : World} {H H' : List Ent} (hw : St w0 w H) {H1 : List Ent} (h : St w0 w' H1) (hH : H1.map (·.ob) = H.map (·.ob)) (hc : St w w' H') {e : Ent} (he : e ∈ H') (hn : e.nw = true) : St w0 w' (⟨true, e.ob, e.o⟩ :: H1) :=
  h.attach (w := w) (fun d hd b hb => by
    have : d.ob ∈ H1.map (·.ob) := List.mem_map.2 ⟨d, hd, rfl⟩
    rw [hH] at this
    obtain ⟨c, hc, hcd⟩ := List.mem_map.1 this
    exact hw.lt hc (hcd.trans hb)) hw.size _ _ fun b hb => ⟨hc.new e he hn b hb, hc.has e he b hb⟩

/-! ### What is read -/
/-- A row of cells. -/
def blk (t : TypeId) (cs : List Value) : Obj := .cells cs.toArray t (0, 0)
theorem cell_blk {w : World} {b i : Nat} {t : TypeId} {cs : List Value} {fr : Nat × Nat} (h : w.heap[b]? = some (.cells cs.toArray t fr)) : w.cell? ⟨b, i, none⟩ = cs[i]? := by
  simp [World.cell?, h]
theorem St.cell {w0 w : World} {H : List Ent} (h : St w0 w H) {k i : Nat} {nw : Bool} {b : Nat} {t : TypeId} {cs : List Value} {v : Value} (hk : H[k]? = some ⟨nw, some b, blk t cs⟩) (hv : cs[i]? = some v) : w.cell? ⟨b, i, none⟩ = some v :=
  (cell_blk (h.has _ (List.mem_of_getElem? hk) b rfl)).trans hv
/-- A slice value that reads as these values, one cell each. -/
structure Rd (w : World) (v : Value) (xs : List Value) : Prop where
  is : ∃ A c, v = .slice A xs.length c ∧ xs.length ≤ c ∧ c ≤ 9223372036854775807 ∧ (0 < xs.length → ∃ b o, A = some ⟨b, o, none⟩ ∧ ∀ i u, xs[i]? = some u → w.cell? ⟨b, o + i, none⟩ = some u)
def Value.at? : Value → Option Nat
  | .slice (some a) _ _ => some a.block
  | _ => none
theorem Rd.nil (w : World) : Rd w (.slice none 0 0) [] := ⟨none, 0, rfl, Nat.le_refl _, by omega, fun h => absurd h (by simp)⟩
theorem cell_lt {w : World} {b i : Nat} {u : Value} (h : w.cell? ⟨b, i, none⟩ = some u) : b < w.heap.size := by
  rcases Nat.lt_or_ge b w.heap.size with hlt | hge
  · exact hlt
  · simp [World.cell?, Array.getElem?_eq_none hge] at h
theorem cell_same {w w' : World} {b i : Nat} (h : w'.heap[b]? = w.heap[b]?) : w'.cell? ⟨b, i, none⟩ = w.cell? ⟨b, i, none⟩ := by simp [World.cell?, h]
theorem Rd.keep {w w' : World} {v : Value} {xs : List Value} (h : Rd w v xs) (hk : ∀ b, Value.at? v = some b → b < w.heap.size → w'.heap[b]? = w.heap[b]?) : Rd w' v xs := by
  obtain ⟨A, c, rfl, h1, h1', h2⟩ := h.is
  refine ⟨A, c, rfl, h1, h1', fun hp => ?_⟩
  obtain ⟨b, o, rfl, hc⟩ := h2 hp
  refine ⟨b, o, rfl, fun i u hu => ?_⟩
  have := hc i u hu
  rw [cell_same (hk b rfl (cell_lt this))]
  exact this
theorem Rd.ext {w w' : World} {v : Value} {xs : List Value} (h : Rd w v xs) (hx : Ext w w') : Rd w' v xs := h.keep fun b _ hb => hx.block b hb
/-- What was read in the first world is read in a later one, if its block isn't one that is written. -/
theorem St.rd {w0 w : World} {H : List Ent} (h : St w0 w H) {v : Value} {xs : List Value} (hr : Rd w0 v xs) (hne : ∀ e ∈ H, e.nw = false → e.ob ≠ none → e.ob ≠ Value.at? v) : Rd w v xs :=
  hr.keep fun b hb hlt => h.old b hlt fun e he hf heb => hne e he hf (by rw [heb]; simp) (heb.trans hb.symm)
theorem St.rdNew {w0 w : World} {H : List Ent} (h : St w0 w H) {v : Value} {xs : List Value} (hr : Rd w0 v xs) (hne : ∀ e ∈ H, e.nw = true) : Rd w v xs := hr.ext (h.toExt hne)
/-- A slice over a block of the list. -/
theorem St.rdOf {w0 w : World} {H : List Ent} (h : St w0 w H) {k : Nat} {nw : Bool} {b : Nat} {t : TypeId} {cs : List Value} (hk : H[k]? = some ⟨nw, some b, blk t cs⟩) (o n c : Nat) (hn : o + n ≤ cs.length) (hc : n ≤ c) (hc' : c ≤ 9223372036854775807) :
    Rd w (.slice (some ⟨b, o, none⟩) n c) ((cs.drop o).take n) := by
  have hl : ((cs.drop o).take n).length = n := by simp; omega
  refine ⟨some ⟨b, o, none⟩, c, by rw [hl], by rw [hl]; exact hc, hc', fun _ => ⟨b, o, rfl, fun i u hu => ?_⟩⟩
  refine h.cell hk ?_
  rw [List.getElem?_take] at hu
  split at hu
  · rw [List.getElem?_drop] at hu; exact hu
  · cases hu
end
end Go.Fw
set_option linter.unusedVariables false
set_option linter.unusedSimpArgs false
namespace Go.Fw
open Go Go.RowKit

/-! ### Bytes and words -/
def vB (x : UInt8) : Value := .int .u8 (x.toNat : Int)
def vW (x : UInt32) : Value := .int .u32 (x.toNat : Int)
def vD (x : UInt64) : Value := .int .u64 (x.toNat : Int)
/-- An int that isn't below 0. -/
def vI (n : Nat) : Value := .int .i64 (n : Int)

section
variable {P : Program} {a : Act} {o : Oper} {w : World}

/-- The operation yields v and leaves the world. -/
def Gv (P : Program) (o : Oper) (a : Act) (w : World) (v : Value) : Prop := (execOp a.eval o).run P w = .ok (.value v) w

theorem run_sizeOf {e : TypeId} {n : Nat} (h : (P.info? e).map (·.size) = some n) (w : World) : (sizeOf e).run P w = .ok n w := by
  cases hi : P.info? e with
  | none => rw [hi] at h; cases h
  | some i => rw [hi] at h; injection h with h; simp [sizeOf, typeInfo, hi, h]
theorem run_zeroValue {e : TypeId} {z : Value} (h : (P.info? e).map (·.zero) = some (some z)) (w : World) : (zeroValue e).run P w = .ok z w := by
  cases hi : P.info? e with
  | none => rw [hi] at h; cases h
  | some i => rw [hi] at h; injection h with h; simp [zeroValue, typeInfo, hi, h]
theorem run_und {t : TypeId} {d : TypeDesc} (h : P.underlying t = some d) (w : World) : (underlying t).run P w = .ok d w := by
  simp [underlying, h]
theorem add_lit (b o n : Nat) : (⟨b, o, none⟩ : Addr).add n = ⟨b, o + n, none⟩ := by
  unfold Addr.add; split <;> simp_all

theorem gv_move {x : Operand} {v : Value} (ho : o.op = .move x) (hx : a.eval x = v) : Gv P o a w v := by
  unfold Gv execOp; rw [ho]; simp [hx]
theorem gv_assign {x : Operand} {v : Value} (ho : o.op = .assign x) (hx : a.eval x = v) : Gv P o a w v := by
  unfold Gv execOp; rw [ho]; simp [hx]
theorem gv_pick {c x y : Operand} {b : Bool} {v : Value} (ho : o.op = .pick c x y) (hc : a.eval c = .bool b) (hv : (if b then a.eval x else a.eval y) = v) : Gv P o a w v := by
  unfold Gv execOp; rw [ho]; simp [hc, asBool, hv]
theorem gv_not {t : TypeId} {x : Operand} {b : Bool} (ho : o.op = .unOp .not t x) (hx : a.eval x = .bool b) : Gv P o a w (.bool !b) := by
  unfold Gv execOp; rw [ho]; simp [hx, Op.unary]
theorem gv_nilCheck {x : Operand} {ad : Addr} (ho : o.op = .nilCheck x) (hx : a.eval x = .pointer (some ad)) : Gv P o a w (.pointer (some ad)) := by
  unfold Gv execOp; rw [ho]; simp [hx]
theorem gv_extract {x : Operand} {vs : Array Value} {i : Nat} {v : Value} (ho : o.op = .extract x i) (hx : a.eval x = .tuple vs) (hi : vs[i]? = some v) : Gv P o a w v := by
  unfold Gv execOp; rw [ho]; simp [hx, Instr.extract, hi]

theorem eqGuard_int (op : BinOp) (t : TypeId) (x y : Operand) (k k' : IntKind) (p q : Int) (w : World) : (eqGuard op t x y (.int k p) (.int k' q)).run P w = .ok () w := by
  unfold eqGuard; split <;> rfl

section arith
variable {op : BinOp} {t t' : TypeId} {x y : Operand} {k : IntKind} {p q : Int}
theorem gv_int (ho : o.op = .binOp op t x y t') (hx : a.eval x = .int k p) (hy : a.eval y = .int k q) {v : Value} (hr : (binOp op t (.int k p) (.int k q)).run P w = .ok v w) : Gv P o a w v := by
  unfold Gv execOp; rw [ho]; simp [hx, hy, eqGuard_int, hr]
theorem wrap_i64_id {n : Int} (h1 : -9223372036854775808 ≤ n) (h2 : n ≤ 9223372036854775807) : IntKind.i64.wrap n = n := by
  rw [IntKind.wrap_i64]; omega
theorem gv_add (ho : o.op = .binOp .add t x y t') (hx : a.eval x = .int .i64 p) (hy : a.eval y = .int .i64 q) (h1 : -9223372036854775808 ≤ p + q) (h2 : p + q ≤ 9223372036854775807) : Gv P o a w (.int .i64 (p + q)) :=
  gv_int ho hx hy (by simp [binOp, Op.intArith, wrap_i64_id h1 h2])
theorem gv_sub (ho : o.op = .binOp .sub t x y t') (hx : a.eval x = .int .i64 p) (hy : a.eval y = .int .i64 q) (h1 : -9223372036854775808 ≤ p - q) (h2 : p - q ≤ 9223372036854775807) : Gv P o a w (.int .i64 (p - q)) :=
  gv_int ho hx hy (by simp [binOp, Op.intArith, wrap_i64_id h1 h2])
theorem gv_mul (ho : o.op = .binOp .mul t x y t') (hx : a.eval x = .int .i64 p) (hy : a.eval y = .int .i64 q) (h1 : -9223372036854775808 ≤ p * q) (h2 : p * q ≤ 9223372036854775807) : Gv P o a w (.int .i64 (p * q)) :=
  gv_int ho hx hy (by simp [binOp, Op.intArith, wrap_i64_id h1 h2])
/-- Ints that aren't below 0. -/
theorem gv_nadd {m n : Nat} (ho : o.op = .binOp .add t x y t') (hx : a.eval x = vI m) (hy : a.eval y = vI n) (h : m + n ≤ 9223372036854775807) : Gv P o a w (vI (m + n)) := by
  have := gv_add (P := P) (w := w) ho hx hy (by omega) (by omega)
  rwa [← Int.natCast_add] at this
theorem gv_nsub {m n : Nat} (ho : o.op = .binOp .sub t x y t') (hx : a.eval x = vI m) (hy : a.eval y = vI n) (h : n ≤ m) (h2 : m ≤ 9223372036854775807) : Gv P o a w (vI (m - n)) := by
  have := gv_sub (P := P) (w := w) ho hx hy (by omega) (by omega)
  rwa [← Int.ofNat_sub h] at this
theorem gv_nmul {m n : Nat} (ho : o.op = .binOp .mul t x y t') (hx : a.eval x = vI m) (hy : a.eval y = vI n) (h : m * n ≤ 9223372036854775807) : Gv P o a w (vI (m * n)) := by
  have hc : ((m : Int) * (n : Int)) = ((m * n : Nat) : Int) := (Int.natCast_mul m n).symm
  have := gv_mul (P := P) (w := w) ho hx hy (by rw [hc]; omega) (by rw [hc]; omega)
  rwa [hc] at this
theorem gv_nquo {m n : Nat} (ho : o.op = .binOp .quo t x y t') (hx : a.eval x = vI m) (hy : a.eval y = vI n) (h0 : 0 < n) (h : m ≤ 9223372036854775807) : Gv P o a w (vI (m / n)) := by
  have hd : (m : Int).tdiv (n : Int) = ((m / n : Nat) : Int) := by
    rw [Int.tdiv_eq_ediv_of_nonneg (by omega)]; rfl
  have hl : m / n ≤ m := Nat.div_le_self m n
  refine gv_int ho hx hy ?_
  have hn : ¬ ((n : Int) = 0) := by omega
  simp only [binOp, Op.intDiv, hn, if_false, ne_eq, not_true_eq_false, hd]
  rw [wrap_i64_id (by generalize m / n = r at *; omega) (by generalize m / n = r at *; omega)]
  rfl
theorem gv_nrem {m n : Nat} (ho : o.op = .binOp .rem t x y t') (hx : a.eval x = vI m) (hy : a.eval y = vI n) (h0 : 0 < n) : Gv P o a w (vI (m % n)) := by
  have hd : (m : Int).tmod (n : Int) = ((m % n : Nat) : Int) := by
    rw [Int.tmod_eq_emod_of_nonneg (by omega)]; rfl
  refine gv_int ho hx hy ?_
  have hn : ¬ ((n : Int) = 0) := by omega
  simp only [binOp, Op.intDiv, hn, if_false, ne_eq, not_true_eq_false, hd]
  rfl
theorem gv_quo (ho : o.op = .binOp .quo t x y t') (hx : a.eval x = .int .i64 p) (hy : a.eval y = .int .i64 q) (h0 : q ≠ 0) (h1 : -9223372036854775808 ≤ p.tdiv q) (h2 : p.tdiv q ≤ 9223372036854775807) : Gv P o a w (.int .i64 (p.tdiv q)) := by
  refine gv_int ho hx hy ?_
  simp only [binOp, Op.intDiv, h0, if_false, ne_eq, not_true_eq_false]
  rw [wrap_i64_id h1 h2]; rfl
theorem gv_rem (ho : o.op = .binOp .rem t x y t') (hx : a.eval x = .int .i64 p) (hy : a.eval y = .int .i64 q) (h0 : q ≠ 0) : Gv P o a w (.int .i64 (p.tmod q)) := by
  refine gv_int ho hx hy ?_
  simp only [binOp, Op.intDiv, h0, if_false, ne_eq, not_true_eq_false]
  rfl
theorem beq_dec (p q : Int) : (p == q) = decide (p = q) := rfl
theorem gv_lss (ho : o.op = .binOp .lss t x y t') (hx : a.eval x = .int k p) (hy : a.eval y = .int k q) : Gv P o a w (.bool (decide (p < q))) := gv_int ho hx hy (by simp [binOp, Op.intCmp])
theorem gv_leq (ho : o.op = .binOp .leq t x y t') (hx : a.eval x = .int k p) (hy : a.eval y = .int k q) : Gv P o a w (.bool (decide (p ≤ q))) := gv_int ho hx hy (by simp [binOp, Op.intCmp])
theorem gv_gtr (ho : o.op = .binOp .gtr t x y t') (hx : a.eval x = .int k p) (hy : a.eval y = .int k q) : Gv P o a w (.bool (decide (q < p))) := gv_int ho hx hy (by simp [binOp, Op.intCmp])
theorem gv_geq (ho : o.op = .binOp .geq t x y t') (hx : a.eval x = .int k p) (hy : a.eval y = .int k q) : Gv P o a w (.bool (decide (q ≤ p))) := gv_int ho hx hy (by simp [binOp, Op.intCmp])
theorem gv_eql (ho : o.op = .binOp .eql t x y t') (hx : a.eval x = .int k p) (hy : a.eval y = .int k q) : Gv P o a w (.bool (decide (p = q))) := gv_int ho hx hy (by simp only [binOp, ne_eq, not_true_eq_false, if_false, Op.intCmp, Sem.run_pure, beq_dec])
theorem gv_neq (ho : o.op = .binOp .neq t x y t') (hx : a.eval x = .int k p) (hy : a.eval y = .int k q) : Gv P o a w (.bool (decide (p ≠ q))) := gv_int ho hx hy (by simp only [binOp, ne_eq, not_true_eq_false, if_false, Op.intCmp, Sem.run_pure, bne, beq_dec, decide_not])
theorem gv_lssT (ho : o.op = .binOp .lss t x y t') (hx : a.eval x = .int k p) (hy : a.eval y = .int k q) (h : p < q) : Gv P o a w (.bool true) := by have := gv_lss (P := P) (w := w) ho hx hy; rwa [decide_eq_true h] at this
theorem gv_lssF (ho : o.op = .binOp .lss t x y t') (hx : a.eval x = .int k p) (hy : a.eval y = .int k q) (h : ¬ (p < q)) : Gv P o a w (.bool false) := by have := gv_lss (P := P) (w := w) ho hx hy; rwa [decide_eq_false h] at this
theorem gv_leqT (ho : o.op = .binOp .leq t x y t') (hx : a.eval x = .int k p) (hy : a.eval y = .int k q) (h : p ≤ q) : Gv P o a w (.bool true) := by have := gv_leq (P := P) (w := w) ho hx hy; rwa [decide_eq_true h] at this
theorem gv_leqF (ho : o.op = .binOp .leq t x y t') (hx : a.eval x = .int k p) (hy : a.eval y = .int k q) (h : ¬ (p ≤ q)) : Gv P o a w (.bool false) := by have := gv_leq (P := P) (w := w) ho hx hy; rwa [decide_eq_false h] at this
theorem gv_gtrT (ho : o.op = .binOp .gtr t x y t') (hx : a.eval x = .int k p) (hy : a.eval y = .int k q) (h : q < p) : Gv P o a w (.bool true) := by have := gv_gtr (P := P) (w := w) ho hx hy; rwa [decide_eq_true h] at this
theorem gv_gtrF (ho : o.op = .binOp .gtr t x y t') (hx : a.eval x = .int k p) (hy : a.eval y = .int k q) (h : ¬ (q < p)) : Gv P o a w (.bool false) := by have := gv_gtr (P := P) (w := w) ho hx hy; rwa [decide_eq_false h] at this
theorem gv_geqT (ho : o.op = .binOp .geq t x y t') (hx : a.eval x = .int k p) (hy : a.eval y = .int k q) (h : q ≤ p) : Gv P o a w (.bool true) := by have := gv_geq (P := P) (w := w) ho hx hy; rwa [decide_eq_true h] at this
theorem gv_geqF (ho : o.op = .binOp .geq t x y t') (hx : a.eval x = .int k p) (hy : a.eval y = .int k q) (h : ¬ (q ≤ p)) : Gv P o a w (.bool false) := by have := gv_geq (P := P) (w := w) ho hx hy; rwa [decide_eq_false h] at this
theorem gv_eqlT (ho : o.op = .binOp .eql t x y t') (hx : a.eval x = .int k p) (hy : a.eval y = .int k q) (h : p = q) : Gv P o a w (.bool true) := by have := gv_eql (P := P) (w := w) ho hx hy; rwa [decide_eq_true h] at this
theorem gv_eqlF (ho : o.op = .binOp .eql t x y t') (hx : a.eval x = .int k p) (hy : a.eval y = .int k q) (h : ¬ (p = q)) : Gv P o a w (.bool false) := by have := gv_eql (P := P) (w := w) ho hx hy; rwa [decide_eq_false h] at this
theorem gv_neqT (ho : o.op = .binOp .neq t x y t') (hx : a.eval x = .int k p) (hy : a.eval y = .int k q) (h : p ≠ q) : Gv P o a w (.bool true) := by have := gv_neq (P := P) (w := w) ho hx hy; rwa [decide_eq_true h] at this
theorem gv_neqF (ho : o.op = .binOp .neq t x y t') (hx : a.eval x = .int k p) (hy : a.eval y = .int k q) (h : ¬ (p ≠ q)) : Gv P o a w (.bool false) := by have := gv_neq (P := P) (w := w) ho hx hy; rwa [decide_eq_false h] at this
end arith

section bytes
variable {op : BinOp} {t t' : TypeId} {x y : Operand}
theorem u8_wrap (n : Nat) : IntKind.u8.wrap (n : Int) = ((n % 256 : Nat) : Int) := by
  simp [IntKind.wrap, IntKind.bits, IntKind.signed]
theorem u32_wrap (n : Nat) : IntKind.u32.wrap (n : Int) = ((n % 4294967296 : Nat) : Int) := by
  simp [IntKind.wrap, IntKind.bits, IntKind.signed]
theorem u64_wrap (n : Nat) : IntKind.u64.wrap (n : Int) = ((n % 18446744073709551616 : Nat) : Int) := by
  simp [IntKind.wrap, IntKind.bits, IntKind.signed]
theorem bv_of (n k : Nat) (h : k < 2 ^ n) : (BitVec.ofInt n (k : Int)).toNat = k := by
  rw [BitVec.ofInt_natCast, BitVec.toNat_ofNat]; exact Nat.mod_eq_of_lt h

theorem gv_b_and {m n : UInt8} (ho : o.op = .binOp .and t x y t') (hx : a.eval x = vB m) (hy : a.eval y = vB n) : Gv P o a w (vB (m &&& n)) := by
  refine gv_int ho hx hy ?_
  have h1 := bv_of 8 m.toNat m.toNat_lt
  have h2 := bv_of 8 n.toNat n.toNat_lt
  have h3 : m.toNat &&& n.toNat < 2 ^ 8 := Nat.and_lt_two_pow _ n.toNat_lt
  show Result.ok (Value.int .u8 (IntKind.u8.wrap ((BitVec.ofInt 8 (m.toNat : Int) &&& BitVec.ofInt 8 (n.toNat : Int)).toNat : Int))) w = _
  rw [BitVec.toNat_and, h1, h2, u8_wrap, Nat.mod_eq_of_lt h3, vB, UInt8.toNat_and]
theorem gv_b_or {m n : UInt8} (ho : o.op = .binOp .or t x y t') (hx : a.eval x = vB m) (hy : a.eval y = vB n) : Gv P o a w (vB (m ||| n)) := by
  refine gv_int ho hx hy ?_
  have h1 := bv_of 8 m.toNat m.toNat_lt
  have h2 := bv_of 8 n.toNat n.toNat_lt
  have h3 : m.toNat ||| n.toNat < 2 ^ 8 := Nat.or_lt_two_pow m.toNat_lt n.toNat_lt
  show Result.ok (Value.int .u8 (IntKind.u8.wrap ((BitVec.ofInt 8 (m.toNat : Int) ||| BitVec.ofInt 8 (n.toNat : Int)).toNat : Int))) w = _
  rw [BitVec.toNat_or, h1, h2, u8_wrap, Nat.mod_eq_of_lt h3, vB, UInt8.toNat_or]
theorem gv_b_xor {m n : UInt8} (ho : o.op = .binOp .xor t x y t') (hx : a.eval x = vB m) (hy : a.eval y = vB n) : Gv P o a w (vB (m ^^^ n)) := by
  refine gv_int ho hx hy ?_
  have h1 := bv_of 8 m.toNat m.toNat_lt
  have h2 := bv_of 8 n.toNat n.toNat_lt
  have h3 : m.toNat ^^^ n.toNat < 2 ^ 8 := Nat.xor_lt_two_pow m.toNat_lt n.toNat_lt
  show Result.ok (Value.int .u8 (IntKind.u8.wrap ((BitVec.ofInt 8 (m.toNat : Int) ^^^ BitVec.ofInt 8 (n.toNat : Int)).toNat : Int))) w = _
  rw [BitVec.toNat_xor, h1, h2, u8_wrap, Nat.mod_eq_of_lt h3, vB, UInt8.toNat_xor]
theorem gv_b_add {m n : UInt8} (ho : o.op = .binOp .add t x y t') (hx : a.eval x = vB m) (hy : a.eval y = vB n) : Gv P o a w (vB (m + n)) := by
  refine gv_int ho hx hy ?_
  simp only [binOp, Op.intArith, ne_eq, not_true_eq_false, if_false, ← Int.natCast_add, u8_wrap, vB, UInt8.toNat_add]
  rfl
theorem gv_b_sub {m n : UInt8} (ho : o.op = .binOp .sub t x y t') (hx : a.eval x = vB m) (hy : a.eval y = vB n) : Gv P o a w (vB (m - n)) := by
  refine gv_int ho hx hy ?_
  have hm := m.toNat_lt
  have hn := n.toNat_lt
  have : IntKind.u8.wrap ((m.toNat : Int) - (n.toNat : Int)) = (((m - n).toNat : Nat) : Int) := by
    rw [UInt8.toNat_sub]
    simp only [IntKind.wrap, IntKind.bits, IntKind.signed]
    simp
    omega
  simp only [binOp, Op.intArith, ne_eq, not_true_eq_false, if_false, this, vB]
  rfl
/-- A shift by a count that is known. -/
theorem gv_shift (ho : o.op = .binOp op t x y t') (hop : op = .shl ∨ op = .shr) {k k' : IntKind} {p q : Int} (hx : a.eval x = .int k p) (hy : a.eval y = .int k' q) {v : Value} (hr : (Op.shift op k p k' q).run P w = .ok v w) : Gv P o a w v := by
  unfold Gv execOp; rw [ho]
  rcases hop with rfl | rfl <;> simp [hx, hy, eqGuard_int, binOp, hr]
theorem gv_b_shl {m : UInt8} {k' : IntKind} {n : Nat} (ho : o.op = .binOp .shl t x y t') (hx : a.eval x = vB m) (hy : a.eval y = .int k' (n : Int)) (hn : n < 8) : Gv P o a w (vB (m <<< (UInt8.ofNat n))) := by
  refine gv_shift ho (.inl rfl) hx hy ?_
  have h0 : ¬ ((n : Int) < 0) := by omega
  have h8 : min n 8 = n := by omega
  have hc : ((m.toNat : Int) * 2 ^ n) = ((m.toNat * 2 ^ n : Nat) : Int) := by simp
  simp only [Op.shift, h0, if_false, Int.toNat_natCast, IntKind.bits, h8, hc, u8_wrap, vB]
  rw [UInt8.toNat_shiftLeft]
  have : (UInt8.ofNat n).toNat % 8 = n := by simp; omega
  rw [this, Nat.shiftLeft_eq]
  rfl
theorem gv_b_shr {m : UInt8} {k' : IntKind} {n : Nat} (ho : o.op = .binOp .shr t x y t') (hx : a.eval x = vB m) (hy : a.eval y = .int k' (n : Int)) (hn : n < 8) : Gv P o a w (vB (m >>> (UInt8.ofNat n))) := by
  refine gv_shift ho (.inr rfl) hx hy ?_
  have h0 : ¬ ((n : Int) < 0) := by omega
  have h8 : min n 8 = n := by omega
  have hc : ((m.toNat : Int).fdiv (2 ^ n)) = ((m.toNat / 2 ^ n : Nat) : Int) := by
    rw [Int.fdiv_eq_ediv_of_nonneg _ (by exact_mod_cast Nat.zero_le (2 ^ n))]; norm_cast
  simp only [Op.shift, h0, if_false, Int.toNat_natCast, IntKind.bits, h8, hc, vB]
  rw [UInt8.toNat_shiftRight]
  have : (UInt8.ofNat n).toNat % 8 = n := by simp; omega
  rw [this, Nat.shiftRight_eq_div_pow]
  rfl
/-- Bits of ints that aren't below 0. -/
theorem gv_n_xor {m n : Nat} (ho : o.op = .binOp .xor t x y t') (hx : a.eval x = vI m) (hy : a.eval y = vI n) (h1 : m < 9223372036854775808) (h2 : n < 9223372036854775808) : Gv P o a w (vI (m ^^^ n)) := by
  refine gv_int ho hx hy ?_
  have h3 : m ^^^ n < 2 ^ 63 := Nat.xor_lt_two_pow (by omega) (by omega)
  show Result.ok (Value.int .i64 (IntKind.i64.wrap ((BitVec.ofInt 64 (m : Int) ^^^ BitVec.ofInt 64 (n : Int)).toNat : Int))) w = _
  rw [BitVec.toNat_xor, bv_of 64 m (by omega), bv_of 64 n (by omega), wrap_i64_id (by omega) (by omega)]; rfl
theorem gv_n_and {m n : Nat} (ho : o.op = .binOp .and t x y t') (hx : a.eval x = vI m) (hy : a.eval y = vI n) (h1 : m < 9223372036854775808) (h2 : n < 9223372036854775808) : Gv P o a w (vI (m &&& n)) := by
  refine gv_int ho hx hy ?_
  have h3 : m &&& n < 2 ^ 63 := Nat.and_lt_two_pow _ (by omega)
  show Result.ok (Value.int .i64 (IntKind.i64.wrap ((BitVec.ofInt 64 (m : Int) &&& BitVec.ofInt 64 (n : Int)).toNat : Int))) w = _
  rw [BitVec.toNat_and, bv_of 64 m (by omega), bv_of 64 n (by omega), wrap_i64_id (by omega) (by omega)]; rfl
theorem gv_n_or {m n : Nat} (ho : o.op = .binOp .or t x y t') (hx : a.eval x = vI m) (hy : a.eval y = vI n) (h1 : m < 9223372036854775808) (h2 : n < 9223372036854775808) : Gv P o a w (vI (m ||| n)) := by
  refine gv_int ho hx hy ?_
  have h3 : m ||| n < 2 ^ 63 := Nat.or_lt_two_pow (by omega) (by omega)
  show Result.ok (Value.int .i64 (IntKind.i64.wrap ((BitVec.ofInt 64 (m : Int) ||| BitVec.ofInt 64 (n : Int)).toNat : Int))) w = _
  rw [BitVec.toNat_or, bv_of 64 m (by omega), bv_of 64 n (by omega), wrap_i64_id (by omega) (by omega)]; rfl
theorem gv_n_shl {m n : Nat} {k' : IntKind} (ho : o.op = .binOp .shl t x y t') (hx : a.eval x = vI m) (hy : a.eval y = .int k' (n : Int)) (hn : n < 64) (h : m * 2 ^ n ≤ 9223372036854775807) : Gv P o a w (vI (m * 2 ^ n)) := by
  refine gv_shift ho (.inl rfl) hx hy ?_
  have h0 : ¬ ((n : Int) < 0) := by omega
  have h8 : min n 64 = n := by omega
  have hc : ((m : Int) * 2 ^ n) = ((m * 2 ^ n : Nat) : Int) := by simp
  simp only [Op.shift, h0, if_false, Int.toNat_natCast, IntKind.bits, h8, hc]
  rw [wrap_i64_id (by omega) (by omega)]; rfl
theorem gv_n_shr {m n : Nat} {k' : IntKind} (ho : o.op = .binOp .shr t x y t') (hx : a.eval x = vI m) (hy : a.eval y = .int k' (n : Int)) (hn : n < 64) : Gv P o a w (vI (m / 2 ^ n)) := by
  refine gv_shift ho (.inr rfl) hx hy ?_
  have h0 : ¬ ((n : Int) < 0) := by omega
  have h8 : min n 64 = n := by omega
  have hc : ((m : Int).fdiv (2 ^ n)) = ((m / 2 ^ n : Nat) : Int) := by
    rw [Int.fdiv_eq_ediv_of_nonneg _ (by exact_mod_cast Nat.zero_le (2 ^ n))]; norm_cast
  simp only [Op.shift, h0, if_false, Int.toNat_natCast, IntKind.bits, h8, hc]
  rfl
end bytes

/-! ### Conversions -/
section conv
variable {s d : TypeId} {x : Operand}
theorem gv_conv {k k' : IntKind} {n : Int} (ho : o.op = .convert s d x) (hs : P.underlying s = some (.int k)) (hd : P.underlying d = some (.int k')) (hx : a.eval x = .int k n) : Gv P o a w (.int k' (k'.wrap n)) := by
  unfold Gv execOp; rw [ho]; simp [hx, convert, run_und hs, run_und hd, Conv.intToInt]
/-- int(a byte). -/
theorem gv_conv_b_i {m : UInt8} (ho : o.op = .convert s d x) (hs : P.underlying s = some (.int .u8)) (hd : P.underlying d = some (.int .i64)) (hx : a.eval x = vB m) : Gv P o a w (vI m.toNat) := by
  have := gv_conv (w := w) ho hs hd hx
  rwa [wrap_i64_id (by omega) (by have := m.toNat_lt; omega)] at this
theorem gv_conv_i_b {n : Nat} (ho : o.op = .convert s d x) (hs : P.underlying s = some (.int .i64)) (hd : P.underlying d = some (.int .u8)) (hx : a.eval x = vI n) : Gv P o a w (vB (UInt8.ofNat n)) := by
  have := gv_conv (w := w) ho hs hd hx
  rw [u8_wrap] at this
  have e : (UInt8.ofNat n).toNat = n % 256 := by simp
  unfold vB
  rw [e]
  exact this
end conv

/-! ### Addresses -/
section addr
variable {t e : TypeId} {x i : Operand} {n sz : Nat} {b off : Nat} {q : Nat}
theorem gv_indexArr (ho : o.op = .indexAddr t x i) (ht : P.underlying t = some (.array n e)) (hz : (P.info? e).map (·.size) = some sz) (hx : a.eval x = .pointer (some ⟨b, off, none⟩)) (hi : a.eval i = vI q) (h : q < n) :
    Gv P o a w (.pointer (some ⟨b, off + q * sz, none⟩)) := by
  unfold Gv execOp; rw [ho]
  have h1 : (0 : Int) ≤ (q : Int) ∧ (q : Int) < (n : Int) := ⟨by omega, by omega⟩
  have h2 := Nat.not_le.2 h
  simp [h2, hx, hi, vI, Instr.indexAt, asIntOf, run_und ht, Instr.sureAddr, run_sizeOf hz, h1, add_lit]
theorem gv_indexSl {len c : Nat} (ho : o.op = .indexAddr t x i) (ht : P.underlying t = some (.slice e)) (hz : (P.info? e).map (·.size) = some sz) (hx : a.eval x = .slice (some ⟨b, off, none⟩) len c) (hi : a.eval i = vI q) (h : q < len) :
    Gv P o a w (.pointer (some ⟨b, off + q * sz, none⟩)) := by
  unfold Gv execOp; rw [ho]
  have h1 : (0 : Int) ≤ (q : Int) ∧ (q : Int) < (len : Int) := ⟨by omega, by omega⟩
  have h2 := Nat.not_le.2 h
  simp [h2, hx, hi, vI, Instr.indexAt, asIntOf, run_und ht, Instr.sureAddr, run_sizeOf hz, h1, add_lit]
theorem gv_field {s : TypeId} {fs : Array Field} {f : Field} {j r : Nat} (ho : o.op = .fieldAddr s x j) (hs : P.underlying s = some (.struct fs)) (hf : fs[j]? = some f) (hr : f.offset = r) (hz : (P.info? f.type).map (·.size) = some sz) (h0 : sz ≠ 0) (hx : a.eval x = .pointer (some ⟨b, off, none⟩)) :
    Gv P o a w (.pointer (some ⟨b, off + r, none⟩)) := by
  subst hr
  unfold Gv execOp; rw [ho]
  simp [hx, Instr.fieldAt, run_und hs, hf, Instr.sureAddr, fieldPlace, run_sizeOf hz, h0, add_lit]
end addr

/-! ### Loads -/
theorem run_isAgg_false {t : TypeId} {d : TypeDesc} (ht : P.underlying t = some d) (hd : (match d with | .struct _ | .array _ _ => true | _ => false) = false) (w : World) : (isAgg t).run P w = .ok false w := by
  simp only [isAgg, Sem.run_bind, run_und ht, Result.andThen_ok]
  split <;> simp_all
theorem run_isAgg_true {t : TypeId} {d : TypeDesc} (ht : P.underlying t = some d) (hd : (match d with | .struct _ | .array _ _ => true | _ => false) = true) (w : World) : (isAgg t).run P w = .ok true w := by
  simp only [isAgg, Sem.run_bind, run_und ht, Result.andThen_ok]
  split <;> simp_all
theorem gv_load {t : TypeId} {d : TypeDesc} {x : Operand} {b i : Nat} {v : Value} (ho : o.op = .load t x) (ht : P.underlying t = some d) (hd : (match d with | .struct _ | .array _ _ => true | _ => false) = false) (hx : a.eval x = .pointer (some ⟨b, i, none⟩)) (hc : w.cell? ⟨b, i, none⟩ = some v) : Gv P o a w v := by
  unfold Gv execOp; rw [ho]
  simp [hx, Instr.loadAt, Instr.sureAddr, loadVar, run_isAgg_false ht hd, load, Sem.run, hc]
theorem gv_loadAgg {t : TypeId} {d : TypeDesc} {x : Operand} {b i : Nat} {vs : List Value} (ho : o.op = .load t x) (ht : P.underlying t = some d) (hd : (match d with | .struct _ | .array _ _ => true | _ => false) = true) (hz : (P.info? t).map (·.size) = some vs.length) (hx : a.eval x = .pointer (some ⟨b, i, none⟩))
    (hc : ∀ j u, vs[j]? = some u → w.cell? ⟨b, i + j, none⟩ = some u) : Gv P o a w (.agg vs.toArray) := by
  unfold Gv execOp; rw [ho]
  have hl := run_loadCells_list (P := P) w ⟨b, i, none⟩ vs (fun j u hu => by rw [add_lit]; exact hc j u hu)
  simp [hx, Instr.loadAt, Instr.sureAddr, loadVar, run_isAgg_true ht hd, run_sizeOf hz, hl]

/-! ### Parts of values -/
theorem gv_indexAgg {t e : TypeId} {d : TypeDesc} {x i : Operand} {n q : Nat} {cs : Array Value} {v : Value} (ho : o.op = .index t x i) (ht : P.underlying t = some (.array n e)) (he : P.underlying e = some d) (hd : (match d with | .struct _ | .array _ _ => true | _ => false) = false) (hz : (P.info? e).map (·.size) = some 1)
    (hx : a.eval x = .agg cs) (hi : a.eval i = vI q) (h : q < n) (hv : cs[q]? = some v) : Gv P o a w v := by
  unfold Gv execOp; rw [ho]
  have h1 : (0 : Int) ≤ (q : Int) ∧ (q : Int) < (n : Int) := ⟨by omega, by omega⟩
  have h2 := Nat.not_le.2 h
  simp [h2, hx, hi, vI, Instr.index, asIntOf, run_und ht, h1, run_sizeOf hz, part, run_isAgg_false he hd, hv]
/-- The same, the index a byte. -/
theorem gv_indexAggB {t e : TypeId} {d : TypeDesc} {x i : Operand} {n : Nat} {q : UInt8} {cs : Array Value} {v : Value} (ho : o.op = .index t x i) (ht : P.underlying t = some (.array n e)) (he : P.underlying e = some d) (hd : (match d with | .struct _ | .array _ _ => true | _ => false) = false) (hz : (P.info? e).map (·.size) = some 1)
    (hx : a.eval x = .agg cs) (hi : a.eval i = vB q) (h : q.toNat < n) (hv : cs[q.toNat]? = some v) : Gv P o a w v := by
  unfold Gv execOp; rw [ho]
  have h1 : (0 : Int) ≤ (q.toNat : Int) ∧ (q.toNat : Int) < (n : Int) := ⟨by omega, by omega⟩
  have h2 := Nat.not_le.2 h
  simp [h2, hx, hi, vB, Instr.index, asIntOf, run_und ht, h1, run_sizeOf hz, part, run_isAgg_false he hd, hv]
/-- len of a slice, of a string. -/
theorem gv_len {t e : TypeId} {A : Option Addr} {n c : Nat} {x : Operand} (ho : o.op = .call { callee := .builtin .len, args := #[x], argTypes := #[t] }) (ht : P.underlying t = some (.slice e)) (hx : a.eval x = .slice A n c) : Gv P o a w (vI n) := by
  unfold Gv execOp; rw [ho]
  simp [hx, resolve, invoke, builtin, Builtin.len_, run_und ht, goInt, vI]
theorem gv_lenStr {t : TypeId} {s : ByteArray} {x : Operand} (ho : o.op = .call { callee := .builtin .len, args := #[x], argTypes := #[t] }) (ht : P.underlying t = some .string) (hx : a.eval x = .string s) : Gv P o a w (vI s.size) := by
  unfold Gv execOp; rw [ho]
  simp [hx, resolve, invoke, builtin, Builtin.len_, run_und ht, goInt, vI]
/-- A pointer against nil. -/
theorem eqGuard_ptr (op : BinOp) (t : TypeId) (x y : Operand) (p q : Option Addr) (w : World) : (eqGuard op t x y (.pointer p) (.pointer q)).run P w = .ok () w := by
  unfold eqGuard; split <;> rfl
theorem gv_eqlNil {t t' e : TypeId} {x y : Operand} {p : Option Addr} (ho : o.op = .binOp .eql t x y t') (ht : P.underlying t = some (.pointer e)) (hx : a.eval x = .pointer p) (hy : a.eval y = .pointer none) : Gv P o a w (.bool p.isNone) := by
  have he : (Op.equal t (.pointer p) (.pointer none)).run P w = .ok p.isNone w := by
    show (Op.equalIn (9999 + 1) t (.pointer p) (.pointer none)).run P w = _
    unfold Op.equalIn
    cases p <;> simp [run_und ht]
  unfold Gv execOp; rw [ho]
  simp only [hx, hy, binOp, Sem.run_bind, eqGuard_ptr, Result.andThen_ok, he, Sem.run_pure]
theorem gv_neqNil {t t' e : TypeId} {x y : Operand} {p : Option Addr} (ho : o.op = .binOp .neq t x y t') (ht : P.underlying t = some (.pointer e)) (hx : a.eval x = .pointer p) (hy : a.eval y = .pointer none) : Gv P o a w (.bool p.isSome) := by
  have he : (Op.equal t (.pointer p) (.pointer none)).run P w = .ok p.isNone w := by
    show (Op.equalIn (9999 + 1) t (.pointer p) (.pointer none)).run P w = _
    unfold Op.equalIn
    cases p <;> simp [run_und ht]
  unfold Gv execOp; rw [ho]
  simp only [hx, hy, binOp, Sem.run_bind, eqGuard_ptr, Result.andThen_ok, he, Sem.run_pure]
  cases p <;> rfl
end
end Go.Fw
set_option linter.unusedVariables false
set_option linter.unusedSimpArgs false
namespace Go.Fw
open Go Go.RowKit

section
variable {P : Program} {ops : Array Oper} {Q : Exit → Act → World → Prop} {N : Nat} {a : Act} {m : List (Nat × Value)} {o : Oper} {w w0 : World} {K : Act → World → Prop} {rest : List Oper} {H : List Ent}

/-- One operation, whatever goes on behind it. -/
def Stp (P : Program) (ops : Array Oper) (Q : Exit → Act → World → Prop) (o : Oper) (a : Act) (w : World) (K : Act → World → Prop) : Prop :=
  if Region.wanted o (yielded ops a.tmps) then o.wp P a w K Q ∨ (o.asks P a w ∧ LetsOut Q) else K (a.put o.dst undef) w
theorem wpList_stp (h : Stp P ops Q o a w (wpList P ops Q rest)) : wpList P ops Q (o :: rest) a w := h
theorem run_stp {n : Nat} (hr : Region.ready .any ops (upto ops.size n) = [n]) (ho : ops[n]? = some o) (h : Stp P ops Q o a w (Run P ops Q (n + 1))) : Run P ops Q n a w :=
  run_seq hr (by unfold wpOp; rw [ho]; exact h)
theorem wanted_none (hg : o.guard = none) : Region.wanted o (yielded ops a.tmps) = true := by simp [Region.wanted, hg]
theorem yielded_of (hF : Fr N a m) {j t : Nat} {b : Bool} (hj : (ops[j]?).bind (·.dst) = some t) (hl : look t m = some (.bool b)) : yielded ops a.tmps j = some b := by
  have h := hF.get t _ hl
  unfold yielded
  rw [hj]
  simp only [slot, Array.getD_eq_getD_getElem?] at h
  cases ht : a.tmps[t]? with
  | none => rw [ht] at h; simp [undef] at h
  | some v => rw [ht] at h; simp only [Option.getD_some] at h; subst h; simp [ht]
theorem wanted_of (hF : Fr N a m) {j t : Nat} {b : Bool} (hg : o.guard = some (j, b)) (hj : (ops[j]?).bind (·.dst) = some t) (hl : look t m = some (.bool b)) : Region.wanted o (yielded ops a.tmps) = true := by
  simp [Region.wanted, hg, yielded_of hF hj hl]
theorem unwanted_of (hF : Fr N a m) {j t : Nat} {b c : Bool} (hg : o.guard = some (j, b)) (hj : (ops[j]?).bind (·.dst) = some t) (hl : look t m = some (.bool c)) (hne : (c == b) = false) : Region.wanted o (yielded ops a.tmps) = false := by
  simp only [Region.wanted, hg, yielded_of hF hj hl]
  simpa using hne

theorem stp_wp (hw : Region.wanted o (yielded ops a.tmps) = true) (h : o.wp P a w K Q) : Stp P ops Q o a w K := by
  unfold Stp; rw [if_pos hw]; exact .inl h
theorem stp_skip (hF : Fr N a m) (hw : Region.wanted o (yielded ops a.tmps) = false) {d : Nat} (hd : o.dst = some d) (hN : Nat.blt d N = true) (h : ∀ a', Fr N a' ((d, undef) :: m) → K a' w) : Stp P ops Q o a w K := by
  unfold Stp; rw [if_neg (by rw [hw]; exact Bool.false_ne_true), hd]; exact h _ (hF.put _ hN)
/-- What yields a value and leaves the world. -/
theorem stp_gv (hF : Fr N a m) (hw : Region.wanted o (yielded ops a.tmps) = true) {d : Nat} {v : Value} (hd : o.dst = some d) (hN : Nat.blt d N = true) (hv : Gv P o a w v) (h : ∀ a', Fr N a' ((d, v) :: m) → K a' w) : Stp P ops Q o a w K := by
  refine stp_wp hw ?_
  unfold Oper.wp
  rw [hv]
  show K (a.put o.dst v) w
  rw [hd]
  exact h _ (hF.put v hN)
/-- What yields a value and turns the world. -/
theorem stp_val (hF : Fr N a m) (hw : Region.wanted o (yielded ops a.tmps) = true) {d : Nat} {v : Value} {w' : World} (hd : o.dst = some d) (hN : Nat.blt d N = true) (hv : (execOp a.eval o).run P w = .ok (.value v) w') (h : ∀ a', Fr N a' ((d, v) :: m) → K a' w') : Stp P ops Q o a w K := by
  refine stp_wp hw ?_
  unfold Oper.wp
  rw [hv]
  show K (a.put o.dst v) w'
  rw [hd]
  exact h _ (hF.put v hN)
theorem stp_unit (hF : Fr N a m) (hw : Region.wanted o (yielded ops a.tmps) = true) {w' : World} (hd : o.dst = none) (hv : (execOp a.eval o).run P w = .ok .skip w') (h : K a w') : Stp P ops Q o a w K := by
  refine stp_wp hw ?_
  unfold Oper.wp
  rw [hv]
  show K (a.put o.dst undef) w'
  rw [hd]
  exact h

/-! ### Calls -/
def Evs (a : Act) : List Operand → List Value → Prop
  | [], [] => True
  | x :: xs, v :: vs => a.eval x = v ∧ Evs a xs vs
  | _, _ => False
theorem Evs.nil {a : Act} : Evs a [] [] := trivial
theorem Evs.cons {a : Act} {x : Operand} {v : Value} {xs : List Operand} {vs : List Value} (hx : a.eval x = v) (h : Evs a xs vs) : Evs a (x :: xs) (v :: vs) := ⟨hx, h⟩
theorem Evs.map : ∀ {xs : List Operand} {vs : List Value}, Evs a xs vs → xs.map a.eval = vs
  | [], [], _ => rfl
  | x :: xs, v :: vs, h => by rw [List.map_cons, h.1, Evs.map h.2]
  | [], _ :: _, h => h.elim
  | _ :: _, [], h => h.elim
/-- A function of the program that has a body. -/
structure CallOk (P : Program) (f : FuncId) : Prop where
  ok : ∃ fn, P.funcs[f]? = some fn ∧ (fn.name == "runtime.NumGoroutine") = false ∧ fn.body.isNone = false
theorem run_callFunc {f : FuncId} (h : CallOk P f) (args : Array Value) (w : World) : (callFunc f args).run P w = .ok (.enter f args) w := by
  obtain ⟨fn, h1, h2, h3⟩ := h.ok
  show (Sem.run P (callFunc f args) w) = _
  unfold callFunc
  simp only [program, Sem.run_bind, Sem.run, Result.andThen_ok, h1, h2, h3, Bool.false_eq_true, if_false]
  rfl
theorem run_callOp {f : FuncId} {xs : List Operand} {vs : List Value} {ats : Array TypeId} (hf : CallOk P f) (ho : o.op = .call { callee := .value (.func f), args := xs.toArray, argTypes := ats }) (hx : Evs a xs vs) :
    (execOp a.eval o).run P w = .ok (.enter f vs.toArray) w := by
  unfold execOp
  rw [ho]
  have hm := hx.map
  simp [resolve, Act.eval, Deferred.ofValue, invoke, run_callFunc hf, hm]
theorem stp_call {f : FuncId} {xs : List Operand} {vs : List Value} {ats : Array TypeId} {R : Ending → World → Prop} (hF : Fr N a m) (hw : Region.wanted o (yielded ops a.tmps) = true) {d : Nat} (hd : o.dst = some d) (hN : Nat.blt d N = true) (hf : CallOk P f)
    (ho : o.op = .call { callee := .value (.func f), args := xs.toArray, argTypes := ats }) (hx : Evs a xs vs) (hc : Calls P f vs.toArray w R)
    (h : ∀ e w', R e w' → ∃ v, e = .returned v ∧ ∀ a', Fr N a' ((d, v) :: m) → K a' w') : Stp P ops Q o a w K := by
  refine stp_wp hw ?_
  unfold Oper.wp
  rw [run_callOp hf ho hx]
  refine Calls.mono hc fun e w' hr => ?_
  obtain ⟨v, rfl, hk⟩ := h e w' hr
  show K (a.put o.dst v) w'
  rw [hd]
  exact hk _ (hF.put v hN)
/-- A call without a result slot. -/
theorem stp_callU {f : FuncId} {xs : List Operand} {vs : List Value} {ats : Array TypeId} {R : Ending → World → Prop} (hw : Region.wanted o (yielded ops a.tmps) = true) (hd : o.dst = none) (hf : CallOk P f)
    (ho : o.op = .call { callee := .value (.func f), args := xs.toArray, argTypes := ats }) (hx : Evs a xs vs) (hc : Calls P f vs.toArray w R)
    (h : ∀ e w', R e w' → ∃ v, e = .returned v ∧ K a w') : Stp P ops Q o a w K := by
  refine stp_wp hw ?_
  unfold Oper.wp
  rw [run_callOp hf ho hx]
  refine Calls.mono hc fun e w' hr => ?_
  obtain ⟨v, rfl, hk⟩ := h e w' hr
  show K (a.put o.dst v) w'
  rw [hd]
  exact hk

/-! ### Stores -/
theorem run_storeVar {t : TypeId} {b i : Nat} {T : TypeId} {cs vs : List Value} {v : Value} (hz : (P.info? t).map (·.size) = some vs.length) (hv : v.cells = vs.toArray) (h1 : ∀ u ∈ vs, u.oneCell' = true) (hb : w.heap[b]? = some (blk T cs)) (hl : i + vs.length ≤ cs.length) :
    (storeVar t ⟨b, i, none⟩ v).run P w = .ok () (w.setRow b (cs.take i ++ vs ++ cs.drop (i + vs.length)).toArray) := by
  have h2 := run_storeCells_at P b i T vs 0 cs.toArray w hb (by simpa using hl) h1
  simp only [Nat.add_zero] at h2
  simp [storeVar, run_sizeOf hz, hv, h2]
theorem St.setRow {w0 w : World} {H : List Ent} (h : St w0 w H) {k : Nat} {nw : Bool} {b : Nat} {T : TypeId} {cs cs' : List Value} (hk : H[k]? = some ⟨nw, some b, blk T cs⟩) : St w0 (w.setRow b cs'.toArray) (H.set k ⟨nw, some b, blk T cs'⟩) := by
  have hb := h.has _ (List.mem_of_getElem? hk) b rfl
  exact h.turn hk rfl rfl rfl (by simp) (setRow_heap w b cs.toArray _ T _ hb) fun c _ hc => setRow_other w b c _ hc
theorem stp_store {t : TypeId} {x y : Operand} {b i : Nat} {v : Value} {k : Nat} {nw : Bool} {T : TypeId} {cs : List Value} (hF : Fr N a m) (hw : Region.wanted o (yielded ops a.tmps) = true) (hd : o.dst = none) (ho : o.op = .store t x y)
    (hz : (P.info? t).map (·.size) = some 1) (hx : a.eval x = .pointer (some ⟨b, i, none⟩)) (hy : a.eval y = v) (hv : v.oneCell' = true) (hS : St w0 w H) (hk : H[k]? = some ⟨nw, some b, blk T cs⟩) (hi : i < cs.length)
    (h : ∀ w', St w0 w' (H.set k ⟨nw, some b, blk T (cs.set i v)⟩) → K a w') : Stp P ops Q o a w K := by
  have hb := hS.has _ (List.mem_of_getElem? hk) b rfl
  have hvc : v.cells = [v].toArray := by cases v <;> simp_all [Value.cells, Value.oneCell']
  refine stp_unit hF hw hd (w' := w.setRow b (cs.set i v).toArray) ?_ (h _ (hS.setRow hk))
  unfold execOp
  rw [ho]
  have hs := run_storeVar (P := P) (w := w) (t := t) (b := b) (i := i) (T := T) (cs := cs) (vs := [v]) (v := v) (by simpa using hz) hvc (by simpa using hv) hb (by simp; omega)
  have he : cs.take i ++ [v] ++ cs.drop (i + [v].length) = cs.set i v := by
    rw [List.set_eq_take_append_cons_drop, if_pos hi]; simp
  rw [he] at hs
  simp [hx, hy, Instr.storeAt, Instr.sureAddr, hs]
theorem stp_storeAgg {t : TypeId} {x y : Operand} {b i : Nat} {vs : List Value} {k : Nat} {nw : Bool} {T : TypeId} {cs : List Value} (hF : Fr N a m) (hw : Region.wanted o (yielded ops a.tmps) = true) (hd : o.dst = none) (ho : o.op = .store t x y)
    (hz : (P.info? t).map (·.size) = some vs.length) (hx : a.eval x = .pointer (some ⟨b, i, none⟩)) (hy : a.eval y = .agg vs.toArray) (hv : ∀ u ∈ vs, u.oneCell' = true) (hS : St w0 w H) (hk : H[k]? = some ⟨nw, some b, blk T cs⟩) (hi : i + vs.length ≤ cs.length)
    (h : ∀ w', St w0 w' (H.set k ⟨nw, some b, blk T (cs.take i ++ vs ++ cs.drop (i + vs.length))⟩) → K a w') : Stp P ops Q o a w K := by
  have hb := hS.has _ (List.mem_of_getElem? hk) b rfl
  refine stp_unit hF hw hd (w' := w.setRow b (cs.take i ++ vs ++ cs.drop (i + vs.length)).toArray) ?_ (h _ (hS.setRow hk))
  unfold execOp
  rw [ho]
  have hs := run_storeVar (P := P) (w := w) (t := t) (b := b) (i := i) (T := T) (cs := cs) (vs := vs) (v := .agg vs.toArray) hz rfl hv hb hi
  simp only [hx, hy, Instr.storeAt, Instr.sureAddr, Sem.run_bind, Sem.run_pure, Result.andThen_ok, hs]

/-! ### New memory -/
theorem run_newVar (t : TypeId) (v : Value) (w : World) : (newVar t v).run P w = .ok ⟨w.heap.size, 0, none⟩ (w.alloc (.cells v.cells t)) := by
  rfl
theorem run_allocOp {e : TypeId} {z : Value} {cs : List Value} (ho : o.op = .alloc e) (hz : (P.info? e).map (·.zero) = some (some z)) (hc : z.cells = cs.toArray) :
    (execOp a.eval o).run P w = .ok (.value (.pointer (some ⟨w.heap.size, 0, none⟩))) (w.alloc (blk e cs)) := by
  unfold execOp
  rw [ho]
  simp [Instr.alloc, run_zeroValue hz, run_newVar, hc, blk]
theorem stp_alloc {e : TypeId} {z : Value} {cs : List Value} {d : Nat} (hF : Fr N a m) (hw : Region.wanted o (yielded ops a.tmps) = true) (hd : o.dst = some d) (hN : Nat.blt d N = true) (ho : o.op = .alloc e) (hz : (P.info? e).map (·.zero) = some (some z)) (hc : z.cells = cs.toArray) (hS : St w0 w H)
    (h : ∀ b a' w', Fr N a' ((d, .pointer (some ⟨b, 0, none⟩)) :: m) → St w0 w' (⟨true, some b, blk e cs⟩ :: H) → K a' w') : Stp P ops Q o a w K :=
  stp_val hF hw hd hN (run_allocOp ho hz hc) fun a' hF' => h _ a' _ hF' (hS.alloc _)
theorem run_boxOp {e : TypeId} {x : Operand} {v : Value} {cs : List Value} (ho : o.op = .box e x) (hx : a.eval x = v) (hc : v.cells = cs.toArray) :
    (execOp a.eval o).run P w = .ok (.value (.pointer (some ⟨w.heap.size, 0, none⟩))) (w.alloc (blk e cs)) := by
  unfold execOp
  rw [ho]
  simp [Instr.box, run_newVar, hx, hc, blk]
theorem stp_box {e : TypeId} {x : Operand} {v : Value} {cs : List Value} {d : Nat} (hF : Fr N a m) (hw : Region.wanted o (yielded ops a.tmps) = true) (hd : o.dst = some d) (hN : Nat.blt d N = true) (ho : o.op = .box e x) (hx : a.eval x = v) (hc : v.cells = cs.toArray) (hS : St w0 w H)
    (h : ∀ b a' w', Fr N a' ((d, .pointer (some ⟨b, 0, none⟩)) :: m) → St w0 w' (⟨true, some b, blk e cs⟩ :: H) → K a' w') : Stp P ops Q o a w K :=
  stp_val hF hw hd hN (run_boxOp ho hx hc) fun a' hF' => h _ a' _ hF' (hS.alloc _)
/-- The facts on a type. -/
structure Ty (P : Program) (e : TypeId) (z : Value) (sz by_ : Nat) : Prop where
  info : (P.info? e).map (fun i => (i.zero, i.size, i.bytes)) = some (some z, sz, by_)
theorem Ty.get {e : TypeId} {z : Value} {sz by_ : Nat} (h : Ty P e z sz by_) : ∃ i, P.info? e = some i ∧ i.zero = some z ∧ i.size = sz ∧ i.bytes = by_ := by
  obtain ⟨i, hi, hh⟩ := Option.map_eq_some_iff.1 h.info
  simp only [Prod.mk.injEq] at hh
  exact ⟨i, hi, hh.1, hh.2.1, hh.2.2⟩
theorem Ty.size {e : TypeId} {z : Value} {sz by_ : Nat} (h : Ty P e z sz by_) : (P.info? e).map (·.size) = some sz := by
  obtain ⟨i, hi, _, h2, _⟩ := h.get
  rw [hi]; simp [h2]
theorem madeCells_one (z : Value) (n : Nat) (hz : z.cells = #[z]) : madeCells z.cells n = (List.replicate n z).toArray := by
  apply Array.ext
  · simp [madeCells]
  · intro i h1 h2
    simp [madeCells, hz, Nat.mod_one]
theorem run_makeOp {t e : TypeId} {x y : Operand} {z : Value} {by_ n : Nat} (ho : o.op = .makeSlice t x y) (ht : P.underlying t = some (.slice e)) (hy : Ty P e z 1 by_) (hz : z.cells = #[z]) (hx : a.eval x = vI n) (hx' : a.eval y = vI n) (hb : by_ * n ≤ 140737488355328) (hn : n ≤ 140737488355328) :
    (execOp a.eval o).run P w = .ok (.value (.slice (some ⟨w.heap.size, 0, none⟩) n n)) (w.alloc (blk e (List.replicate n z))) := by
  obtain ⟨i, hi, h1, h2, h3⟩ := hy.get
  unfold execOp
  rw [ho]
  have hh : ((i.bytes : Int) * (n : Int)) = ((by_ * n : Nat) : Int) := by rw [h3]; exact (Int.natCast_mul _ _).symm
  have hr := run_make (P := P) w t e i z ht hi h1 .i64 .i64 n n (by omega) (by omega) (by rw [hh]; omega) (by omega)
  simp only [Int.toNat_natCast, h2, Nat.mul_one, madeCells_one z n hz] at hr
  simp [hx, hx', vI, hr, blk]
theorem stp_make {t e : TypeId} {x y : Operand} {z : Value} {by_ n : Nat} {d : Nat} (hF : Fr N a m) (hw : Region.wanted o (yielded ops a.tmps) = true) (hd : o.dst = some d) (hN : Nat.blt d N = true) (ho : o.op = .makeSlice t x y) (ht : P.underlying t = some (.slice e)) (hy : Ty P e z 1 by_) (hz : z.cells = #[z])
    (hx : a.eval x = vI n) (hx' : a.eval y = vI n) (hb : by_ * n ≤ 140737488355328) (hn : n ≤ 140737488355328) (hS : St w0 w H)
    (h : ∀ b a' w', Fr N a' ((d, .slice (some ⟨b, 0, none⟩) n n) :: m) → St w0 w' (⟨true, some b, blk e (List.replicate n z)⟩ :: H) → K a' w') : Stp P ops Q o a w K :=
  stp_val hF hw hd hN (run_makeOp ho ht hy hz hx hx' hb hn) fun a' hF' => h _ a' _ hF' (hS.alloc _)

/-! ### Appends onto what the call owns -/
def ownV (ob : Option Nat) (n c : Nat) : Value :=
  match ob with
  | none => .slice none 0 0
  | some b => .slice (some ⟨b, 0, none⟩) n c
theorem St.addNil (h : St w0 w H) (o : Obj) : St w0 w (⟨true, none, o⟩ :: H) := h.attach h.lts h.size none o fun b hb => by cases hb
/-- A new block in the place of another new one. -/
theorem St.swap {w' : World} (h : St w0 w H) {k : Nat} {e : Ent} (hk : H[k]? = some e) (hn : e.nw = true) (hx : Ext w w') (ob : Option Nat) (o : Obj) (hb : ∀ b, ob = some b → w.heap.size ≤ b ∧ w'.heap[b]? = some o) : St w0 w' (H.set k ⟨true, ob, o⟩) := by
  have hkl : k < H.length := (List.getElem?_eq_some_iff.1 hk).1
  have hat : ∀ i d, (H.set k ⟨true, ob, o⟩)[i]? = some d → (i = k ∧ d = ⟨true, ob, o⟩) ∨ (i ≠ k ∧ H[i]? = some d) := fun i d hi => by
    rw [List.getElem?_set] at hi
    by_cases hik : k = i
    · subst hik
      rw [if_pos rfl, if_pos hkl] at hi
      injection hi with hi
      exact .inl ⟨rfl, hi.symm⟩
    · rw [if_neg hik] at hi
      exact .inr ⟨fun e => hik e.symm, hi⟩
  have h' := h.ext hx
  refine ⟨h'.os, h'.tape, h'.output, h'.size, fun c hc hne => h'.old c hc fun d hd hf => ?_, fun d hd c hbe => ?_, fun d hd hn' c hbe => ?_, fun i j ei ej c hi hj hbi hbj => ?_⟩
  · obtain ⟨i, hi⟩ := List.getElem?_of_mem hd
    have hik : i ≠ k := by rintro rfl; rw [hk] at hi; injection hi with hi; subst hi; rw [hn] at hf; cases hf
    exact hne d (List.mem_of_getElem? (i := i) (by rw [List.getElem?_set, if_neg (fun e => hik e.symm)]; exact hi)) hf
  · obtain ⟨i, hi⟩ := List.getElem?_of_mem hd
    rcases hat i d hi with ⟨rfl, rfl⟩ | ⟨_, hi'⟩
    · exact (hb c hbe).2
    · exact h'.has d (List.mem_of_getElem? hi') c hbe
  · obtain ⟨i, hi⟩ := List.getElem?_of_mem hd
    rcases hat i d hi with ⟨rfl, rfl⟩ | ⟨_, hi'⟩
    · have := (hb c hbe).1; have := h.size; omega
    · exact h'.new d (List.mem_of_getElem? hi') hn' c hbe
  · rcases hat i ei hi with ⟨rfl, rfl⟩ | ⟨hik, hi'⟩ <;> rcases hat j ej hj with ⟨rfl, rfl⟩ | ⟨hjk, hj'⟩
    · rfl
    · have := h.lt (List.mem_of_getElem? hj') hbj; have := (hb c hbi).1; omega
    · have := h.lt (List.mem_of_getElem? hi') hbi; have := (hb c hbj).1; omega
    · exact h.once i j ei ej c hi' hj' hbi hbj
theorem set_self {H : List Ent} {k : Nat} {e : Ent} (hk : H[k]? = some e) : H.set k e = H := by
  apply List.ext_getElem?
  intro i
  rw [List.getElem?_set]
  by_cases h : k = i
  · subst h; rw [if_pos rfl, if_pos (List.getElem?_eq_some_iff.1 hk).1, hk]
  · rw [if_neg h]

theorem run_append_St {t ty e : TypeId} {z : Value} {by_ : Nat} (ht : P.underlying t = some (.slice e)) (hy : Ty P e z 1 by_) (hzc : z.cells.size = 1) {ob : Option Nat} {xs pad ys : List Value} {v : Value} (hS : St w0 w H) {k : Nat} (hk : H[k]? = some ⟨true, ob, blk e (xs ++ pad)⟩)
    (hob : ob = none → xs = [] ∧ pad = []) (hcap : xs.length + pad.length ≤ 9223372036854775807) (hr : Rd w v ys) (h1 : ∀ u ∈ ys, u.oneCell' = true) (hb : (xs.length + ys.length) * by_ ≤ 140737488355328) (hn : xs.length + ys.length ≤ 140737488355328) :
    ∃ ob' pad' w', (Builtin.append_ #[t, t] ty #[ownV ob xs.length (xs.length + pad.length), v]).run P w = .ok (ownV ob' (xs.length + ys.length) (xs.length + ys.length + pad'.length)) w' ∧
      (ob' = none → xs ++ ys = [] ∧ pad' = []) ∧ xs.length + ys.length + pad'.length ≤ 9223372036854775807 ∧ St w0 w' (H.set k ⟨true, ob', blk e ((xs ++ ys) ++ pad')⟩) := by
  obtain ⟨i, hi, h2, h3, h4⟩ := hy.get
  obtain ⟨A, c, rfl, hc1, hc2, hrd⟩ := hr.is
  -- what is owned, in the library's words
  have hown : w.ownsRow 0 e 1 (ownV ob xs.length (xs.length + pad.length)) xs.length xs := by
    refine ⟨by simp, ?_⟩
    cases ob with
    | none => obtain ⟨rfl, rfl⟩ := hob rfl; exact .inl ⟨rfl, rfl⟩
    | some b =>
      refine .inr ⟨b, xs.length + pad.length, (xs ++ pad).toArray, rfl, Nat.zero_le _, hS.has _ (List.mem_of_getElem? hk) b rfl, by omega, by simpa [maxLen] using hcap, by simp, by simp⟩
  cases hys : ys with
  | nil =>
    subst hys
    refine ⟨ob, pad, w, ?_, fun h => by simpa using hob h, by simpa using hcap, by simpa [set_self hk] using hS⟩
    cases ob with
    | none =>
      obtain ⟨rfl, rfl⟩ := hob rfl
      cases A <;> simp [ownV, Builtin.append_, run_und ht, run_sizeOf hy.size, Builtin.lenOf, Builtin.firstCells, loadCells, loadCellsFrom]
    | some b =>
      cases A <;> simp [ownV, Builtin.append_, run_und ht, run_sizeOf hy.size, Builtin.lenOf, Builtin.firstCells, loadCells, loadCellsFrom, storeCells]
  | cons y ys' =>
    rw [← hys]
    have hpos : 0 < ys.length := by rw [hys]; simp
    obtain ⟨b, off, rfl, hcell⟩ := hrd hpos
    obtain ⟨v', w', hrun, hown', hg, _, hblk⟩ := run_append_own_at (P := P) w 0 t ty e i z 1 by_ ht hi h2 h3 h4 hzc (by omega) _ _ _ hown ⟨b, off, none⟩ ys.length c ys (by simp) (fun j u hu => by rw [add_lit]; exact hcell j u hu) h1
      (by simp only [maxLen]; omega) hb (Nat.zero_le _)
    rcases hown'.2 with ⟨_, h0⟩ | ⟨g, cap, cur, rfl, _, hh, hle, hm, hcs, htk⟩
    · omega
    · have hsplit : cur = ((xs ++ ys) ++ cur.toList.drop (xs.length + ys.length)).toArray := by
        apply Array.ext'
        rw [← htk]
        simp
      have hpad : (cur.toList.drop (xs.length + ys.length)).length = cap - (xs.length + ys.length) := by
        rw [List.length_drop, Array.length_toList, hcs]; simp
      have hcapeq : xs.length + ys.length + (cur.toList.drop (xs.length + ys.length)).length = cap := by rw [hpad]; omega
      refine ⟨some g, cur.toList.drop (xs.length + ys.length), w', (by rw [hcapeq]; exact hrun), fun h => (by cases h), (by rw [hcapeq]; simpa [maxLen] using hm), ?_⟩
      have hh' : w'.heap[g]? = some (blk e ((xs ++ ys) ++ cur.toList.drop (xs.length + ys.length))) := by
        unfold blk; rw [← hsplit]; exact hh
      rcases hblk with hsame | hnew
      · cases ob with
        | none => simp [ownV, Value.ownBlock] at hsame
        | some b0 =>
          have hgb : g = b0 := by simpa [ownV, Value.ownBlock] using hsame
          subst hgb
          exact hS.turn hk hg.os hg.tape hg.output hg.size hh' fun c hc hne => hg.block c hc (by simp [ownV, Value.ownBlock, hne])
      · have hgn : g = w.heap.size := by simpa [Value.ownBlock] using hnew
        -- the old row stays what it was, whatever the law says of it: it may have been written only in place
        by_cases hob0 : ob = none
        · subst hob0
          refine hS.swap hk rfl ⟨hg.os, hg.tape, hg.output, hg.size, fun c hc => hg.block c hc (by simp [ownV, Value.ownBlock])⟩ (some g) _ fun b hb => ?_
          injection hb with hb
          subst hb
          exact ⟨by omega, hh'⟩
        · obtain ⟨b0, rfl⟩ := Option.ne_none_iff_exists'.1 hob0
          -- forget the old row's content first
          have hdrop : St w0 w' (H.set k ⟨true, some g, blk e ((xs ++ ys) ++ cur.toList.drop (xs.length + ys.length))⟩) := by
            have hkl : k < H.length := (List.getElem?_eq_some_iff.1 hk).1
            have hlt : b0 < w.heap.size := hS.lt (List.mem_of_getElem? hk) rfl
            -- in between: the world with nothing known of block b0
            have hS1 : St w0 w (H.set k ⟨true, none, blk e []⟩) := hS.swap hk rfl (Ext.refl w) none _ fun b hb => by cases hb
            have hk1 : (H.set k ⟨true, none, blk e []⟩)[k]? = some ⟨true, none, blk e []⟩ := by rw [List.getElem?_set, if_pos rfl, if_pos hkl]
            have hne : ∀ d ∈ H.set k ⟨true, none, blk e []⟩, d.ob ≠ some b0 := by
              intro d hd hdb
              obtain ⟨j, hj⟩ := List.getElem?_of_mem hd
              rw [List.getElem?_set] at hj
              by_cases hjk : k = j
              · subst hjk
                rw [if_pos rfl, if_pos hkl] at hj
                injection hj with hj
                subst hj
                cases hdb
              · rw [if_neg hjk] at hj
                exact hjk (hS.once k j _ d b0 hk hj rfl hdb)
            have hnew0 : w0.heap.size ≤ b0 := hS.new _ (List.mem_of_getElem? hk) rfl b0 rfl
            have hS2 : St w0 w' (H.set k ⟨true, none, blk e []⟩) :=
              ⟨hg.os.trans hS1.os, hg.tape.trans hS1.tape, hg.output.trans hS1.output, Nat.le_trans hS1.size hg.size,
                fun c hc hn => (hg.block c (Nat.lt_of_lt_of_le hc hS1.size) (by simp [ownV, Value.ownBlock]; omega)).trans (hS1.old c hc hn),
                fun d hd c hdc => (hg.block c (hS1.lt hd hdc) (by simp only [ownV, Value.ownBlock, ne_eq, Option.some.injEq]; rintro rfl; exact hne d hd hdc)).trans (hS1.has d hd c hdc), hS1.new, hS1.once⟩
            have hlts : ∀ d ∈ H.set k ⟨true, none, blk e []⟩, ∀ c, d.ob = some c → c < w.heap.size := hS1.lts
            have := St.attach (w := w) hS2 hlts hS.size (some g) (blk e ((xs ++ ys) ++ cur.toList.drop (xs.length + ys.length))) fun b hb => by
              injection hb with hb
              subst hb
              exact ⟨by omega, hh'⟩
            -- from the head of the list to its place
            refine ⟨this.os, this.tape, this.output, this.size, fun c hc hn => this.old c hc fun d hd hf => ?_, fun d hd => this.has d ?_, fun d hd => this.new d ?_, fun i j ei ej c hi hj h1 h2 => ?_⟩
            · rcases List.mem_cons.1 hd with rfl | hd
              · cases hf
              · obtain ⟨j, hj⟩ := List.getElem?_of_mem hd
                rw [List.getElem?_set] at hj
                by_cases hjk : k = j
                · subst hjk
                  rw [if_pos rfl, if_pos hkl] at hj
                  injection hj with hj
                  subst hj
                  cases hf
                · rw [if_neg hjk] at hj
                  exact hn d (List.mem_of_getElem? (i := j) (by rw [List.getElem?_set, if_neg hjk]; exact hj)) hf
            · obtain ⟨j, hj⟩ := List.getElem?_of_mem hd
              rw [List.getElem?_set] at hj
              by_cases hjk : k = j
              · subst hjk
                rw [if_pos rfl, if_pos hkl] at hj
                injection hj with hj
                subst hj
                exact List.mem_cons_self
              · rw [if_neg hjk] at hj
                exact List.mem_cons_of_mem _ (List.mem_of_getElem? (i := j) (by rw [List.getElem?_set, if_neg hjk]; exact hj))
            · obtain ⟨j, hj⟩ := List.getElem?_of_mem hd
              rw [List.getElem?_set] at hj
              by_cases hjk : k = j
              · subst hjk
                rw [if_pos rfl, if_pos hkl] at hj
                injection hj with hj
                subst hj
                exact List.mem_cons_self
              · rw [if_neg hjk] at hj
                exact List.mem_cons_of_mem _ (List.mem_of_getElem? (i := j) (by rw [List.getElem?_set, if_neg hjk]; exact hj))
            · have place : ∀ i d, (H.set k ⟨true, some g, blk e ((xs ++ ys) ++ cur.toList.drop (xs.length + ys.length))⟩)[i]? = some d →
                  ((⟨true, some g, blk e ((xs ++ ys) ++ cur.toList.drop (xs.length + ys.length))⟩ : Ent) :: H.set k ⟨true, none, blk e []⟩)[if i = k then 0 else i + 1]? = some d := fun i d hi => by
                rw [List.getElem?_set] at hi
                by_cases hik : k = i
                · subst hik
                  rw [if_pos rfl, if_pos hkl] at hi
                  simpa using hi
                · rw [if_neg hik] at hi
                  rw [if_neg (fun e => hik e.symm)]
                  simp only [List.getElem?_cons_succ]
                  rw [List.getElem?_set, if_neg hik]
                  exact hi
              have := this.once _ _ ei ej c (place i ei hi) (place j ej hj) h1 h2
              split at this <;> split at this <;> omega
          exact hdrop

theorem run_appendOp {x y : Operand} {t : TypeId} {s v r : Value} {w' : World} (ho : o.op = .call { callee := .builtin .append, args := #[x, y], argTypes := #[t, t] }) (hx : a.eval x = s) (hy : a.eval y = v) (hr : (Builtin.append_ #[t, t] o.type #[s, v]).run P w = .ok r w') :
    (execOp a.eval o).run P w = .ok (.value r) w' := by
  unfold execOp
  rw [ho]
  simp [resolve, invoke, builtin, hx, hy, hr]
theorem stp_append {x y : Operand} {t e : TypeId} {z : Value} {by_ : Nat} {ob : Option Nat} {xs pad ys : List Value} {v : Value} {d k : Nat} (hF : Fr N a m) (hw : Region.wanted o (yielded ops a.tmps) = true) (hd : o.dst = some d) (hN : Nat.blt d N = true)
    (ho : o.op = .call { callee := .builtin .append, args := #[x, y], argTypes := #[t, t] }) (ht : P.underlying t = some (.slice e)) (hty : Ty P e z 1 by_) (hzc : z.cells.size = 1)
    (hx : a.eval x = ownV ob xs.length (xs.length + pad.length)) (hy : a.eval y = v) (hS : St w0 w H) (hk : H[k]? = some ⟨true, ob, blk e (xs ++ pad)⟩) (hob : ob = none → xs = [] ∧ pad = []) (hcap : xs.length + pad.length ≤ 9223372036854775807)
    (hr : Rd w v ys) (h1 : ∀ u ∈ ys, u.oneCell' = true) (hb : (xs.length + ys.length) * by_ ≤ 140737488355328) (hn : xs.length + ys.length ≤ 140737488355328)
    (h : ∀ ob' pad' a' w', Fr N a' ((d, ownV ob' (xs.length + ys.length) (xs.length + ys.length + pad'.length)) :: m) → (ob' = none → xs ++ ys = [] ∧ pad' = []) → xs.length + ys.length + pad'.length ≤ 9223372036854775807 →
      St w0 w' (H.set k ⟨true, ob', blk e ((xs ++ ys) ++ pad')⟩) → K a' w') : Stp P ops Q o a w K := by
  obtain ⟨ob', pad', w', hrun, h2, h3, h4⟩ := run_append_St (ty := o.type) ht hty hzc hS hk hob hcap hr h1 hb hn
  exact stp_val hF hw hd hN (run_appendOp ho hx hy hrun) fun a' hF' => h ob' pad' a' w' hF' h2 h3 h4

/-! ### The head of a region that draws -/
variable {fl : List Nat} {KK : Act → Prop} {i : Nat}
theorem dw_gv (hF : Fr N a m) (hfl : fl.contains i = false) (hw : Region.wanted o (yielded ops a.tmps) = true) {d : Nat} {v : Value} (hd : o.dst = some d) (hN : Nat.blt d N = true) (hv : ∀ w', Ext w w' → Gv P o a w' v) (h : ∀ a', Fr N a' ((d, v) :: m) → dwalk P ops w fl KK (i + 1) rest a') :
    dwalk P ops w fl KK i (o :: rest) a := by
  unfold dwalk
  rw [if_neg (by simpa using hfl)]
  exact .inl ⟨hw, v, fun w' hx => .inl (hv w' hx), by rw [hd]; exact h _ (hF.put v hN)⟩
theorem dw_skip (hF : Fr N a m) (hfl : fl.contains i = false) (hw : Region.wanted o (yielded ops a.tmps) = false) {d : Nat} (hd : o.dst = some d) (hN : Nat.blt d N = true) (h : ∀ a', Fr N a' ((d, undef) :: m) → dwalk P ops w fl KK (i + 1) rest a') :
    dwalk P ops w fl KK i (o :: rest) a := by
  unfold dwalk
  rw [if_neg (by simpa using hfl)]
  exact .inr ⟨hw, by rw [hd]; exact h _ (hF.put _ hN)⟩
theorem dw_call {f : FuncId} {xs : List Operand} {vs : List Value} {ats : Array TypeId} (hF : Fr N a m) (hfl : fl.contains i = false) (hw : Region.wanted o (yielded ops a.tmps) = true) {d : Nat} {v : Value} (hd : o.dst = some d) (hN : Nat.blt d N = true) (hf : CallOk P f)
    (ho : o.op = .call { callee := .value (.func f), args := xs.toArray, argTypes := ats }) (hx : Evs a xs vs) (hc : ∀ w', Ext w w' → Calls P f vs.toArray w' fun e w'' => e = .returned v ∧ Ext w' w'')
    (h : ∀ a', Fr N a' ((d, v) :: m) → dwalk P ops w fl KK (i + 1) rest a') : dwalk P ops w fl KK i (o :: rest) a := by
  unfold dwalk
  rw [if_neg (by simpa using hfl)]
  exact .inl ⟨hw, v, fun w' hx' => .inr (.inr ⟨f, _, run_callOp hf ho hx, hc w' hx'⟩), by rw [hd]; exact h _ (hF.put v hN)⟩
theorem dw_fl (hfl : fl.contains i = true) (h : dwalk P ops w fl KK (i + 1) rest a) : dwalk P ops w fl KK i (o :: rest) a := by
  unfold dwalk
  rw [if_pos (by simpa using hfl)]
  exact h
theorem dw_nil (h : KK a) : dwalk P ops w fl KK i [] a := h
theorem dwalk_mono {KK' : Act → Prop} (hk : ∀ A, KK A → KK' A) : ∀ (l : List Oper) (i : Nat) (a : Act), dwalk P ops w fl KK i l a → dwalk P ops w fl KK' i l a
  | [], _, a, h => hk a h
  | o :: l, i, a, h => by
    unfold dwalk at h ⊢
    split
    · rename_i hf; rw [if_pos hf] at h; exact dwalk_mono hk l _ _ h
    · rename_i hf
      rw [if_neg hf] at h
      rcases h with ⟨hw, v, hv, h⟩ | ⟨hw, h⟩
      · exact .inl ⟨hw, v, hv, dwalk_mono hk l _ _ h⟩
      · exact .inr ⟨hw, dwalk_mono hk l _ _ h⟩
/-- A head without new memory. -/
theorem run_head0 {n0 n : Nat} (l : List Oper) (hF : Fr N a m) (hB : headB ops N n0 n [] = true) (hl : (ops.toList.drop n0).take (n - n0) = l)
    (h : dwalk P ops w [] (fun A => ∀ a' w', (∀ mm, Fr N A mm → Fr N a' mm) → Ext w w' → Run P ops Q n a' w') n0 l a) : Run P ops Q n0 a w := by
  refine run_head N n0 n [] (fun _ _ _ => True) l hB hl hF.size (fun _ _ _ _ _ _ => trivial)
    (dwalk_mono (fun A hA => ⟨fun i o _ _ _ hf => (by cases hf), fun a' w' hx hs hd hsl _ => hA a' w' (fun mm hm => ⟨hs, hd.trans hF.dfs, fun t v hv => ?_⟩) hx⟩) _ _ _ h)
  rw [hsl t fun i o _ _ _ hf => (by cases hf)]
  exact hm.get t v hv
/-- A head with one operation that lays new memory, of whose value 'R' is known. -/
theorem run_head1 {n0 n : Nat} (l : List Oper) (i1 d1 : Nat) (o1 : Oper) (R : Value → World → Prop) (hF : Fr N a m) (hB : headB ops N n0 n [i1] = true) (hl : (ops.toList.drop n0).take (n - n0) = l) (ho1 : ops[i1]? = some o1) (hd1 : o1.dst = some d1) (hR : Lasts R)
    (h : dwalk P ops w [i1] (fun A => FO P w o1 A R ∧ ∀ a' w' v, R v w' → (∀ mm, Fr N A mm → Fr N a' ((d1, v) :: mm)) → Ext w w' → Run P ops Q n a' w') n0 l a) (h1 : n0 ≤ i1) (h2 : i1 < n) : Run P ops Q n0 a w := by
  refine run_head N n0 n [i1] (fun _ => R) l hB hl hF.size (fun _ => hR)
    (dwalk_mono (fun A hA => ⟨fun i o _ _ ho hf => ?_, fun a' w' hx hs hd hsl hr => ?_⟩) _ _ _ h)
  · have : i = i1 := by simpa using hf
    subst this
    have : o = o1 := Option.some.inj (ho.symm.trans ho1)
    subst this
    exact hA.1
  · refine hA.2 a' w' (slot a' d1) (hr i1 o1 d1 h1 h2 ho1 (by simp) hd1) (fun mm hm => ⟨hs, hd.trans hF.dfs, fun t v hv => ?_⟩) hx
    by_cases ht : t = d1
    · subst ht
      rw [look_cons_eq] at hv
      injection hv
    · rw [look_cons_ne ht] at hv
      rw [hsl t fun i o _ _ ho hf hdt => ?_]
      · exact hm.get t v hv
      · have : i = i1 := by simpa using hf
        subst this
        have : o = o1 := Option.some.inj (ho.symm.trans ho1)
        subst this
        rw [hd1] at hdt
        injection hdt with hdt
        exact ht hdt.symm
end
end Go.Fw
set_option linter.unusedVariables false
set_option linter.unusedSimpArgs false
namespace Go.Fw
open Go Go.RowKit

section
variable {P : Program} {ops : Array Oper} {Q : Exit → Act → World → Prop} {N : Nat} {a : Act} {m : List (Nat × Value)} {o : Oper} {w w0 : World} {K : Act → World → Prop} {rest : List Oper} {H : List Ent}

theorem wp_cut {x y : Code} (Φ : Act → World → Prop) (h1 : x.wp P (Exit.then Φ Q) a w) (h2 : ∀ a w, Φ a w → y.wp P Q a w) : (Code.seq x y).wp P Q a w := by
  refine wp_seq (Code.wp_mono (fun e a w h => ?_) h1)
  cases e <;> first | exact h2 _ _ h | exact h
theorem cond_dec {p : Prop} [Decidable p] {c : Operand} {x y : Code} (hc : a.eval c = .bool (decide p)) (h1 : p → x.wp P Q a w) (h2 : ¬ p → y.wp P Q a w) : (Code.cond c x y).wp P Q a w := by
  by_cases h : p
  · exact wp_cond_true (by rw [hc, decide_eq_true h]) (h1 h)
  · exact wp_cond_false (by rw [hc, decide_eq_false h]) (h2 h)
theorem cond_bool {b : Bool} {c : Operand} {x y : Code} (hc : a.eval c = .bool b) (h1 : b = true → x.wp P Q a w) (h2 : b = false → y.wp P Q a w) : (Code.cond c x y).wp P Q a w :=
  wp_cond_split hc h1 h2
theorem wp_region_draw {id : Nat} {l : List Oper} (hm : P.follows .mixedOrders = true) (h : ∀ w', Ext w w' → Run P l.toArray Q 0 a w') : (Code.region id l.toArray true).wp P Q a w :=
  wp_region_run hm (h _ (Ext.drew w))
/-- A loop; a number of one's own says how many rounds are to come at most. -/
theorem wp_loop_n {c : Code} (I : Nat → Act → World → Prop) (n0 : Nat) (h0 : I n0 a w) (round : ∀ n a w, I n a w → c.wp P (Exit.then (fun a' w' => ∃ n', n' < n ∧ I n' a' w') Q) a w) : (Code.loop c).wp P Q a w := by
  have least : ∀ a w, (∃ n, I n a w) → ∃ n, I n a w ∧ ∀ k, k < n → ¬ I k a w := by
    intro a w ⟨n, hn⟩
    induction n using Nat.strongRecOn with
    | _ n ih =>
      by_cases h : ∃ k, k < n ∧ I k a w
      · obtain ⟨k, hk, hI⟩ := h
        exact ih k hk hI
      · exact ⟨n, hn, fun k hk hI => h ⟨k, hk, hI⟩⟩
  let μ : Act → World → Nat := fun a w => Classical.epsilon fun n => I n a w ∧ ∀ k, k < n → ¬ I k a w
  have hμ : ∀ a w, (∃ n, I n a w) → I (μ a w) a w ∧ ∀ k, k < μ a w → ¬ I k a w := fun a w h => Classical.epsilon_spec (least a w h)
  refine wp_loop (fun a w => ∃ n, I n a w) μ ⟨n0, h0⟩ fun a w hI => ?_
  refine Code.wp_mono (fun e a' w' h => ?_) (round _ a w (hμ a w hI).1)
  cases e with
  | normal =>
    obtain ⟨n', hlt, hn'⟩ := h
    refine ⟨⟨n', hn'⟩, Nat.lt_of_le_of_lt (Nat.le_of_not_lt fun hc => (hμ a' w' ⟨n', hn'⟩).2 n' hc hn') hlt⟩
  | _ => exact h

/-! ### Ways out -/
theorem then_normal {K : Act → World → Prop} (h : K a w) : Exit.then K Q .normal a w := h
theorem then_ret {K : Act → World → Prop} (h : Q .ret a w) : Exit.then K Q .ret a w := h
theorem then_exit {K : Act → World → Prop} {i : Nat} (h : Q (.exit i) a w) : Exit.then K Q (.exit i) a w := h
theorem block_normal {i : Nat} (h : Q .normal a w) : Exit.inBlock i Q .normal a w := h
theorem block_ret {i : Nat} (h : Q .ret a w) : Exit.inBlock i Q .ret a w := h
theorem block_exit {i : Nat} (h : Q .normal a w) : Exit.inBlock i Q (.exit i) a w := by simp only [Exit.inBlock, if_true]; exact h
theorem block_exit_ne {i j : Nat} (h0 : j ≠ i) (h : Q (.exit j) a w) : Exit.inBlock i Q (.exit j) a w := by simp only [Exit.inBlock, if_neg h0]; exact h

/-! ### Returns -/
theorem ret1 {fn : Func} {R : Ending → World → Prop} {t : Nat} {v : Value} (hF : Fr N a m) (hr : fn.results = #[.tmp t]) (hl : look t m = some v) (h : R (.returned v) w) : bodyPost P fn R .ret a w :=
  bodyPost_ret (v := v) (by rw [results_tmp hr]; exact congrArg (fun x => Result.ok x w) (hF.get t v hl)) hF.dfs h
theorem ret2 {fn : Func} {R : Ending → World → Prop} {t u : Nat} {v x : Value} (hF : Fr N a m) (hr : fn.results = #[.tmp t, .tmp u]) (hl : look t m = some v) (hl' : look u m = some x) (h : R (.returned (.tuple #[v, x])) w) : bodyPost P fn R .ret a w :=
  bodyPost_ret (v := .tuple #[v, x]) (by rw [results_tmp2 hr]; have h1 := hF.get t v hl; have h2 := hF.get u x hl'; unfold slot at h1 h2; rw [h1, h2]) hF.dfs h
theorem ret3 {fn : Func} {R : Ending → World → Prop} {t u s : Nat} {v x y : Value} (hF : Fr N a m) (hr : fn.results = #[.tmp t, .tmp u, .tmp s]) (hl : look t m = some v) (hl' : look u m = some x) (hl'' : look s m = some y) (h : R (.returned (.tuple #[v, x, y])) w) : bodyPost P fn R .ret a w := by
  have h1 := hF.get t v hl; have h2 := hF.get u x hl'; have h3 := hF.get s y hl''
  unfold slot at h1 h2 h3
  exact bodyPost_ret (v := .tuple #[v, x, y]) (by simp only [results, hr]; simp; rw [← h1, ← h2, ← h3]; simp [Array.getD_eq_getD_getElem?]) hF.dfs h
theorem ret0 {fn : Func} {R : Ending → World → Prop} (hF : Fr N a m) (hr : fn.results = #[]) (h : R (.returned (.tuple #[])) w) : bodyPost P fn R .ret a w :=
  bodyPost_ret (v := .tuple #[]) (results_none hr _ _ _) hF.dfs h
theorem end0 {fn : Func} {R : Ending → World → Prop} (hF : Fr N a m) (hr : fn.results = #[]) (h : R (.returned (.tuple #[])) w) : bodyPost P fn R .normal a w :=
  bodyPost_end (v := .tuple #[]) (results_none hr _ _ _) hF.dfs h
/-- A result that lies in memory. -/
theorem retCell {fn : Func} {R : Ending → World → Prop} {t : Nat} {ty : TypeId} {d : TypeDesc} {b k : Nat} {nw : Bool} {T : TypeId} {vs : List Value} (hF : Fr N a m) (hr : fn.results = #[.cell t ty]) (ht : P.underlying ty = some d) (hd : (match d with | .struct _ | .array _ _ => true | _ => false) = true)
    (hz : (P.info? ty).map (·.size) = some vs.length) (hl : look t m = some (.pointer (some ⟨b, 0, none⟩))) (hS : St w0 w H) (hk : H[k]? = some ⟨nw, some b, blk T vs⟩) (h : R (.returned (.agg vs.toArray)) w) : bodyPost P fn R .ret a w := by
  have h1 := hF.get t _ hl
  unfold slot at h1
  have h2 := run_loadVar_row (P := P) w b T ty vs.toArray (0, 0) d (hS.has _ (List.mem_of_getElem? hk) b rfl) ht hd (by simpa using hz)
  exact bodyPost_ret (v := .agg vs.toArray) (by
    have h1' : a.tmps[t]?.getD undef = .pointer (some ⟨b, 0, none⟩) := by rw [← h1, Array.getD_eq_getD_getElem?]
    simp [results, hr, h1', asAddr, h2]) hF.dfs h

/-! ### Blocks of bytes, words, ints -/
def blkB (t : TypeId) (l : List UInt8) : Obj := blk t (l.map vB)
def blkN (t : TypeId) (l : List Nat) : Obj := blk t (l.map vI)
def blkW (t : TypeId) (l : List UInt32) : Obj := blk t (l.map vW)
def blkD (t : TypeId) (l : List UInt64) : Obj := blk t (l.map vD)
theorem cell_ix {b i j : Nat} {v : Value} (h : w.cell? ⟨b, j, none⟩ = some v) (e : i = j) : w.cell? ⟨b, i, none⟩ = some v := by rw [e]; exact h
theorem map_at {α : Type} {f : α → Value} {l : List α} {i : Nat} (h : i < l.length) (d : α) : (l.map f)[i]? = some (f (l.getD i d)) := by
  rw [List.getElem?_map, List.getElem?_eq_getElem h, List.getD_eq_getElem?_getD, List.getElem?_eq_getElem h]; rfl
theorem St.cellB (hS : St w0 w H) {k : Nat} {nw : Bool} {b : Nat} {t : TypeId} {l : List UInt8} (hk : H[k]? = some ⟨nw, some b, blkB t l⟩) (j : Nat) (hj : j < l.length) : w.cell? ⟨b, j, none⟩ = some (vB (l.getD j 0)) := hS.cell hk (map_at hj 0)
theorem St.cellN (hS : St w0 w H) {k : Nat} {nw : Bool} {b : Nat} {t : TypeId} {l : List Nat} (hk : H[k]? = some ⟨nw, some b, blkN t l⟩) (j : Nat) (hj : j < l.length) : w.cell? ⟨b, j, none⟩ = some (vI (l.getD j 0)) := hS.cell hk (map_at hj 0)
theorem St.cellW (hS : St w0 w H) {k : Nat} {nw : Bool} {b : Nat} {t : TypeId} {l : List UInt32} (hk : H[k]? = some ⟨nw, some b, blkW t l⟩) (j : Nat) (hj : j < l.length) : w.cell? ⟨b, j, none⟩ = some (vW (l.getD j 0)) := hS.cell hk (map_at hj 0)
theorem St.cellD (hS : St w0 w H) {k : Nat} {nw : Bool} {b : Nat} {t : TypeId} {l : List UInt64} (hk : H[k]? = some ⟨nw, some b, blkD t l⟩) (j : Nat) (hj : j < l.length) : w.cell? ⟨b, j, none⟩ = some (vD (l.getD j 0)) := hS.cell hk (map_at hj 0)
theorem one_map {α : Type} {f : α → Value} (hf : ∀ x, (f x).oneCell' = true) (l : List α) : ∀ u ∈ l.map f, u.oneCell' = true := by
  intro u hu
  obtain ⟨x, _, rfl⟩ := List.mem_map.1 hu
  exact hf x
theorem one_B (l : List UInt8) : ∀ u ∈ l.map vB, u.oneCell' = true := one_map (fun _ => rfl) l
theorem one_N (l : List Nat) : ∀ u ∈ l.map vI, u.oneCell' = true := one_map (fun _ => rfl) l
theorem one_W (l : List UInt32) : ∀ u ∈ l.map vW, u.oneCell' = true := one_map (fun _ => rfl) l
theorem one_D (l : List UInt64) : ∀ u ∈ l.map vD, u.oneCell' = true := one_map (fun _ => rfl) l

section stores
variable {t : TypeId} {x y : Operand} {b i : Nat} {k : Nat} {nw : Bool} {T : TypeId}
/-- A store of one cell, the place told. -/
theorem stp_storeAt {v : Value} {cs : List Value} (j : Nat) (hF : Fr N a m) (hw : Region.wanted o (yielded ops a.tmps) = true) (hd : o.dst = none) (ho : o.op = .store t x y) (hz : (P.info? t).map (·.size) = some 1)
    (hx : a.eval x = .pointer (some ⟨b, i, none⟩)) (hij : i = j) (hy : a.eval y = v) (hv : v.oneCell' = true) (hS : St w0 w H) (hk : H[k]? = some ⟨nw, some b, blk T cs⟩) (hi : j < cs.length) (h : ∀ w', St w0 w' (H.set k ⟨nw, some b, blk T (cs.set j v)⟩) → K a w') : Stp P ops Q o a w K := by
  subst hij
  exact stp_store hF hw hd ho hz hx hy hv hS hk hi h
theorem stp_storeB {v : UInt8} {l : List UInt8} (j : Nat) (hF : Fr N a m) (hw : Region.wanted o (yielded ops a.tmps) = true) (hd : o.dst = none) (ho : o.op = .store t x y) (hz : (P.info? t).map (·.size) = some 1)
    (hx : a.eval x = .pointer (some ⟨b, i, none⟩)) (hij : i = j) (hy : a.eval y = vB v) (hS : St w0 w H) (hk : H[k]? = some ⟨nw, some b, blkB T l⟩) (hi : j < l.length) (h : ∀ w', St w0 w' (H.set k ⟨nw, some b, blkB T (l.set j v)⟩) → K a w') : Stp P ops Q o a w K :=
  stp_storeAt j hF hw hd ho hz hx hij hy rfl hS hk (by simpa using hi) fun w' h' => h w' (by unfold blkB; rw [List.map_set]; exact h')
theorem stp_storeN {v : Nat} {l : List Nat} (j : Nat) (hF : Fr N a m) (hw : Region.wanted o (yielded ops a.tmps) = true) (hd : o.dst = none) (ho : o.op = .store t x y) (hz : (P.info? t).map (·.size) = some 1)
    (hx : a.eval x = .pointer (some ⟨b, i, none⟩)) (hij : i = j) (hy : a.eval y = vI v) (hS : St w0 w H) (hk : H[k]? = some ⟨nw, some b, blkN T l⟩) (hi : j < l.length) (h : ∀ w', St w0 w' (H.set k ⟨nw, some b, blkN T (l.set j v)⟩) → K a w') : Stp P ops Q o a w K :=
  stp_storeAt j hF hw hd ho hz hx hij hy rfl hS hk (by simpa using hi) fun w' h' => h w' (by unfold blkN; rw [List.map_set]; exact h')
theorem stp_storeW {v : UInt32} {l : List UInt32} (j : Nat) (hF : Fr N a m) (hw : Region.wanted o (yielded ops a.tmps) = true) (hd : o.dst = none) (ho : o.op = .store t x y) (hz : (P.info? t).map (·.size) = some 1)
    (hx : a.eval x = .pointer (some ⟨b, i, none⟩)) (hij : i = j) (hy : a.eval y = vW v) (hS : St w0 w H) (hk : H[k]? = some ⟨nw, some b, blkW T l⟩) (hi : j < l.length) (h : ∀ w', St w0 w' (H.set k ⟨nw, some b, blkW T (l.set j v)⟩) → K a w') : Stp P ops Q o a w K :=
  stp_storeAt j hF hw hd ho hz hx hij hy rfl hS hk (by simpa using hi) fun w' h' => h w' (by unfold blkW; rw [List.map_set]; exact h')
theorem stp_storeD {v : UInt64} {l : List UInt64} (j : Nat) (hF : Fr N a m) (hw : Region.wanted o (yielded ops a.tmps) = true) (hd : o.dst = none) (ho : o.op = .store t x y) (hz : (P.info? t).map (·.size) = some 1)
    (hx : a.eval x = .pointer (some ⟨b, i, none⟩)) (hij : i = j) (hy : a.eval y = vD v) (hS : St w0 w H) (hk : H[k]? = some ⟨nw, some b, blkD T l⟩) (hi : j < l.length) (h : ∀ w', St w0 w' (H.set k ⟨nw, some b, blkD T (l.set j v)⟩) → K a w') : Stp P ops Q o a w K :=
  stp_storeAt j hF hw hd ho hz hx hij hy rfl hS hk (by simpa using hi) fun w' h' => h w' (by unfold blkD; rw [List.map_set]; exact h')
/-- The whole of a block, by another aggregate of its size. -/
theorem stp_storeAll {cs vs : List Value} (hF : Fr N a m) (hw : Region.wanted o (yielded ops a.tmps) = true) (hd : o.dst = none) (ho : o.op = .store t x y) (hz : (P.info? t).map (·.size) = some vs.length)
    (hx : a.eval x = .pointer (some ⟨b, 0, none⟩)) (hy : a.eval y = .agg vs.toArray) (hv : ∀ u ∈ vs, u.oneCell' = true) (hS : St w0 w H) (hk : H[k]? = some ⟨nw, some b, blk T cs⟩) (hl : vs.length = cs.length) (h : ∀ w', St w0 w' (H.set k ⟨nw, some b, blk T vs⟩) → K a w') : Stp P ops Q o a w K :=
  stp_storeAgg hF hw hd ho hz hx hy hv hS hk (by omega) fun w' h' => h w' (by
    have e : cs.take 0 ++ vs ++ cs.drop (0 + vs.length) = vs := by simp [hl]
    rw [e] at h'; exact h')
theorem stp_storeAggAt {vs cs : List Value} (j : Nat) (hF : Fr N a m) (hw : Region.wanted o (yielded ops a.tmps) = true) (hd : o.dst = none) (ho : o.op = .store t x y) (hz : (P.info? t).map (·.size) = some vs.length)
    (hx : a.eval x = .pointer (some ⟨b, i, none⟩)) (hij : i = j) (hy : a.eval y = .agg vs.toArray) (hv : ∀ u ∈ vs, u.oneCell' = true) (hS : St w0 w H) (hk : H[k]? = some ⟨nw, some b, blk T cs⟩) (hi : j + vs.length ≤ cs.length)
    (h : ∀ w', St w0 w' (H.set k ⟨nw, some b, blk T (cs.take j ++ vs ++ cs.drop (j + vs.length))⟩) → K a w') : Stp P ops Q o a w K := by
  subst hij
  exact stp_storeAgg hF hw hd ho hz hx hy hv hS hk hi h
end stores
/-- Parts of a block that begins with bytes. -/
def splice {α : Type} (K : List α) (o : Nat) (t : List α) : List α := K.take o ++ t ++ K.drop (o + t.length)
theorem splice_len {α : Type} {K t : List α} {o : Nat} (h : o + t.length ≤ K.length) : (splice K o t).length = K.length := by simp [splice]; omega
theorem splice_map {α : Type} {f : α → Value} {K t : List α} {o : Nat} {R : List Value} (h : o + t.length ≤ K.length) :
    (K.map f ++ R).take o ++ t.map f ++ (K.map f ++ R).drop (o + (t.map f).length) = (splice K o t).map f ++ R := by
  simp only [splice, List.map_append, List.length_map]
  rw [List.take_append_of_le_length (by simp; omega), List.drop_append_of_le_length (by simp; omega)]
  simp [List.map_take, List.map_drop]
theorem part_map {α : Type} {f : α → Value} {K : List α} {o n : Nat} {R : List Value} (h : o + n ≤ K.length) :
    ((K.map f ++ R).drop o).take (((K.drop o).take n).map f).length = ((K.drop o).take n).map f := by
  rw [List.drop_append_of_le_length (by simp; omega)]
  have hl : (((K.drop o).take n).map f).length = n := by simp; omega
  rw [hl, List.take_append_of_le_length (by simp; omega)]
  simp [List.map_take, List.map_drop]
theorem part_map0 {α : Type} {f : α → Value} {K : List α} {o n : Nat} (h : o + n ≤ K.length) : ((K.map f).drop o).take (((K.drop o).take n).map f).length = ((K.drop o).take n).map f := by
  have := part_map (f := f) (R := []) h
  rwa [List.append_nil] at this
theorem arr_at {α : Type} {f : α → Value} {l : List α} {i : Nat} (h : i < l.length) (d : α) : ((l.map f).toArray)[i]? = some (f (l.getD i d)) := by
  rw [List.getElem?_toArray]; exact map_at h d
theorem part_len {α : Type} {f : α → Value} {K : List α} {o n : Nat} (h : o + n ≤ K.length) : (((K.drop o).take n).map f).length = n := by simp; omega
theorem set_map {α : Type} {f : α → Value} {K : List α} {i : Nat} {v : α} {R : List Value} (h : i < K.length) : (K.map f ++ R).set i (f v) = (K.set i v).map f ++ R := by
  rw [List.set_append, if_pos (by simpa using h), List.map_set]
theorem set_map2 {α : Type} {f : α → Value} {A B : List Value} {K : List α} {i n : Nat} {v : α} (hA : A.length = n) (h : i < K.length) : (A ++ (K.map f ++ B)).set (n + i) (f v) = A ++ ((K.set i v).map f ++ B) := by
  rw [List.set_append, if_neg (by omega), show n + i - A.length = i by omega, set_map h]
theorem at_map {α : Type} {f : α → Value} {K : List α} {i : Nat} {R : List Value} (h : i < K.length) (d : α) : (K.map f ++ R)[i]? = some (f (K.getD i d)) := by
  rw [List.getElem?_append_left (by simpa using h)]; exact map_at h d
theorem at_map2 {α : Type} {f : α → Value} {A B : List Value} {K : List α} {i n : Nat} (hA : A.length = n) (h : i < K.length) (d : α) : (A ++ (K.map f ++ B))[n + i]? = some (f (K.getD i d)) := by
  rw [List.getElem?_append_right (by omega), show n + i - A.length = i by omega]; exact at_map h d
/-! ### New memory laid while the order is open -/
def FlB (w : World) (e : TypeId) (cs : List Value) : Value → World → Prop := fun v w' => ∃ b, v = .pointer (some ⟨b, 0, none⟩) ∧ w.heap.size ≤ b ∧ w'.heap[b]? = some (blk e cs)
theorem FlB.lasts (w : World) (e : TypeId) (cs : List Value) : Lasts (FlB w e cs) := fun v w1 w2 ⟨b, hv, hb, hh⟩ hx => ⟨b, hv, hb, (hx.block b (heap_lt hh)).trans hh⟩
theorem fo_alloc {e : TypeId} {z : Value} {cs : List Value} (ho : o.op = .alloc e) (hz : (P.info? e).map (·.zero) = some (some z)) (hc : z.cells = cs.toArray) : FO P w o a (FlB w e cs) := fun w1 hx =>
  .inl ⟨_, _, run_allocOp ho hz hc, Ext.alloc _ _, ⟨_, rfl, hx.size, heap_alloc_new w1 _⟩⟩
def FlS (w : World) (e : TypeId) (n : Nat) (cs : List Value) : Value → World → Prop := fun v w' => ∃ b, v = .slice (some ⟨b, 0, none⟩) n n ∧ w.heap.size ≤ b ∧ w'.heap[b]? = some (blk e cs)
theorem FlS.lasts (w : World) (e : TypeId) (n : Nat) (cs : List Value) : Lasts (FlS w e n cs) := fun v w1 w2 ⟨b, hv, hb, hh⟩ hx => ⟨b, hv, hb, (hx.block b (heap_lt hh)).trans hh⟩
theorem fo_make {t e : TypeId} {x y : Operand} {z : Value} {by_ n : Nat} (ho : o.op = .makeSlice t x y) (ht : P.underlying t = some (.slice e)) (hy : Ty P e z 1 by_) (hz : z.cells = #[z]) (hx : a.eval x = vI n) (hx' : a.eval y = vI n) (hb : by_ * n ≤ 140737488355328) (hn : n ≤ 140737488355328) :
    FO P w o a (FlS w e n (List.replicate n z)) := fun w1 hx1 =>
  .inl ⟨_, _, run_makeOp ho ht hy hz hx hx' hb hn, Ext.alloc _ _, ⟨_, rfl, hx1.size, heap_alloc_new w1 _⟩⟩
theorem St.float {w' : World} (hS : St w0 w H) (hx : Ext w w') {b : Nat} {o : Obj} (h1 : w.heap.size ≤ b) (h2 : w'.heap[b]? = some o) : St w0 w' (⟨true, some b, o⟩ :: H) :=
  (hS.ext hx).attach hS.lts hS.size _ _ fun c hc => by
    injection hc with hc
    subst hc
    exact ⟨h1, h2⟩

theorem Ext.keep {w' : World} (h : Ext w w') {b : Nat} {o : Obj} (hb : w.heap[b]? = some o) : w'.heap[b]? = some o := (h.block b (heap_lt hb)).trans hb
theorem cell_of {b i : Nat} {T : TypeId} {cs : List Value} {v : Value} (hb : w.heap[b]? = some (blk T cs)) (hv : cs[i]? = some v) : w.cell? ⟨b, i, none⟩ = some v := (cell_blk hb).trans hv

/-! ### Bytes that are read -/
theorem Rd.isB {v : Value} {l : List UInt8} (h : Rd w v (l.map vB)) : ∃ A c, v = .slice A l.length c ∧ l.length ≤ c ∧ c ≤ 9223372036854775807 ∧ (0 < l.length → ∃ b o, A = some ⟨b, o, none⟩ ∧ ∀ i, i < l.length → w.cell? ⟨b, o + i, none⟩ = some (vB (l.getD i 0))) := by
  obtain ⟨A, c, hv, h1, h2, h3⟩ := h.is
  rw [List.length_map] at hv h1 h3
  refine ⟨A, c, hv, h1, h2, fun hp => ?_⟩
  obtain ⟨b, o, hA, hc⟩ := h3 hp
  exact ⟨b, o, hA, fun i hi => hc i _ (map_at hi 0)⟩
theorem Rd.rdcell {b o n c : Nat} {xs : List Value} (h : Rd w (.slice (some ⟨b, o, none⟩) n c) xs) {j : Nat} {u : Value} (hu : xs[j]? = some u) : w.cell? ⟨b, o + j, none⟩ = some u := by
  obtain ⟨A, c', hv, _, _, hc⟩ := h.is
  injection hv with hA _ _
  subst hA
  have hj : j < xs.length := (List.getElem?_eq_some_iff.1 hu).1
  obtain ⟨b', o', hA, hc⟩ := hc (by omega)
  injection hA with hA
  injection hA with h1 h2 _
  subst h1; subst h2
  exact hc j u hu
theorem Rd.cellB {b o n c : Nat} {l : List UInt8} (h : Rd w (.slice (some ⟨b, o, none⟩) n c) (l.map vB)) (i : Nat) (hi : i < l.length) : w.cell? ⟨b, o + i, none⟩ = some (vB (l.getD i 0)) := by
  obtain ⟨A, c', hv, _, _, hc⟩ := h.isB
  injection hv with hA _ _
  subst hA
  obtain ⟨b', o', hA, hc⟩ := hc (by omega)
  injection hA with hA
  injection hA with h1 h2 _
  subst h1; subst h2
  exact hc i hi
theorem gv_toArr {t e : TypeId} {x : Operand} {n len c : Nat} {A : Option Addr} (ho : o.op = .sliceToArrayPointer t x) (ht : P.underlying t = some (.array n e)) (hx : a.eval x = .slice A len c) (hl : n ≤ len) : Gv P o a w (.pointer A) := by
  unfold Gv execOp; rw [ho]
  have := Nat.not_lt.2 hl
  simp [hx, Instr.arrayAt, run_und ht, this]
theorem gv_pickT {c x y : Operand} {v : Value} (ho : o.op = .pick c x y) (hc : a.eval c = .bool true) (hv : a.eval x = v) : Gv P o a w v := gv_pick ho hc (by simpa using hv)
theorem gv_pickF {c x y : Operand} {v : Value} (ho : o.op = .pick c x y) (hc : a.eval c = .bool false) (hv : a.eval y = v) : Gv P o a w v := gv_pick ho hc (by simpa using hv)

/-! ### Aggregates that are built -/
def EvP (a : Act) : List (Nat × Operand) → List (Nat × Value) → Prop
  | [], [] => True
  | (i, x) :: l, (j, v) :: m => (i = j ∧ a.eval x = v) ∧ EvP a l m
  | _, _ => False
theorem EvP.nil : EvP a [] [] := trivial
theorem EvP.cons {x : Operand} {v : Value} {i : Nat} {l : List (Nat × Operand)} {pl : List (Nat × Value)} (hx : a.eval x = v) (h : EvP a l pl) : EvP a ((i, x) :: l) ((i, v) :: pl) := ⟨⟨rfl, hx⟩, h⟩
theorem EvP.map : ∀ {l : List (Nat × Operand)} {pl : List (Nat × Value)}, EvP a l pl → l.map (fun p => (p.1, a.eval p.2)) = pl
  | [], [], _ => rfl
  | (i, x) :: l, (j, v) :: m, h => by obtain ⟨⟨rfl, rfl⟩, h2⟩ := h; rw [List.map_cons, EvP.map h2]
  | [], _ :: _, h => h.elim
  | _ :: _, [], h => h.elim
theorem foldl_zip (o : Nat) : ∀ (vs : List Value) (k : Nat) (zs : List Value), o + k + vs.length ≤ zs.length →
    (vs.zipIdx k).foldl (fun (cs : Array Value) p => cs.setIfInBounds (o + p.2) p.1) zs.toArray = (zs.take (o + k) ++ vs ++ zs.drop (o + k + vs.length)).toArray
  | [], k, zs, _ => by simp
  | v :: vs, k, zs, h => by
    simp only [List.length_cons] at h
    rw [List.zipIdx_cons, List.foldl_cons]
    have e : zs.toArray.setIfInBounds (o + k) v = (zs.set (o + k) v).toArray := by simp
    rw [e, foldl_zip o vs (k + 1) (zs.set (o + k) v) (by simp; omega)]
    congr 1
    have h1 : (zs.set (o + k) v).take (o + (k + 1)) = zs.take (o + k) ++ [v] := by
      rw [show o + (k + 1) = (o + k) + 1 by omega, List.take_set, List.take_succ_eq_append_getElem (by omega)]
      have hm : min (o + k) zs.length = o + k := Nat.min_eq_left (by omega)
      rw [List.set_append, if_neg (by simp [hm])]
      simp [hm]
    have h2 : (zs.set (o + k) v).drop (o + (k + 1) + vs.length) = zs.drop (o + k + (v :: vs).length) := by
      rw [List.drop_set, if_pos (by omega)]
      simp only [List.length_cons]
      congr 1
      omega
    rw [h1, h2]
    simp
theorem fill_cons {place : Nat → Option (Nat × Nat)} {zs vs : List Value} {i off : Nat} {v : Value} {rest : List (Nat × Value)} (hp : place i = some (off, vs.length)) (hv : v.cells = vs.toArray) (h : off + vs.length ≤ zs.length) :
    Instr.fill place zs.toArray ((i, v) :: rest) = Instr.fill place (splice zs off vs).toArray rest := by
  rw [Instr.fill, hp]
  simp only [hv]
  rw [if_neg (by simp; omega)]
  congr 1
  have := foldl_zip off vs 0 zs (by simpa using h)
  rw [← Array.foldl_toList]
  simpa [splice] using this
theorem fill_nil {place : Nat → Option (Nat × Nat)} {zs : Array Value} : Instr.fill place zs [] = some zs := rfl
theorem run_buildStr {t : TypeId} {fs : Array Field} {places : Array (Nat × Nat)} {z : Value} {zs cs : Array Value} {pl : List (Nat × Value)} (ht : P.underlying t = some (.struct fs)) (hz : (P.info? t).map (·.zero) = some (some z)) (hzs : z.cells = zs)
    (hpl : ∀ w, (fs.mapM fun f => (do pure (f.offset, ← sizeOf f.type) : Sem (Nat × Nat))).run P w = .ok places w) (hf : Instr.fill (places[·]?) zs pl = some cs) : (Instr.build t pl.toArray).run P w = .ok (.agg cs) w := by
  simp only [Instr.build, Sem.run_bind, run_zeroValue hz, Result.andThen_ok, run_und ht, hzs]
  rw [hpl w]
  simp only [Result.andThen_ok, hf, Sem.run_pure]
theorem run_buildArr {t e : TypeId} {n sz : Nat} {z : Value} {zs cs : Array Value} {pl : List (Nat × Value)} (ht : P.underlying t = some (.array n e)) (hs : (P.info? e).map (·.size) = some sz) (hz : (P.info? t).map (·.zero) = some (some z)) (hzs : z.cells = zs)
    (hf : Instr.fill (fun i => some (i * sz, sz)) zs pl = some cs) : (Instr.build t pl.toArray).run P w = .ok (.agg cs) w := by
  simp only [Instr.build, Sem.run_bind, run_zeroValue hz, Result.andThen_ok, run_und ht, run_sizeOf hs, hzs, hf, Sem.run_pure]
theorem gv_build {t : TypeId} {l : List (Nat × Operand)} {pl : List (Nat × Value)} {v : Value} (ho : o.op = .build t l.toArray) (hp : l.map (fun p => (p.1, a.eval p.2)) = pl) (hr : (Instr.build t pl.toArray).run P w = .ok v w) : Gv P o a w v := by
  unfold Gv execOp; rw [ho]
  have : l.toArray.map (fun x => match x with | (i, x) => (i, a.eval x)) = pl.toArray := by
    rw [List.map_toArray, ← hp]
  simp only [this, Sem.run_bind, hr, Result.andThen_ok, Sem.run_pure]

/-- A whole block, or a part of it, loaded as an aggregate. -/
theorem gv_loadPart {t : TypeId} {d : TypeDesc} {x : Operand} {b i k : Nat} {nw : Bool} {T : TypeId} {cs vs : List Value} (ho : o.op = .load t x) (ht : P.underlying t = some d) (hd : (match d with | .struct _ | .array _ _ => true | _ => false) = true) (hz : (P.info? t).map (·.size) = some vs.length)
    (hx : a.eval x = .pointer (some ⟨b, i, none⟩)) (hS : St w0 w H) (hk : H[k]? = some ⟨nw, some b, blk T cs⟩) (hv : (cs.drop i).take vs.length = vs) : Gv P o a w (.agg vs.toArray) :=
  gv_loadAgg ho ht hd hz hx fun j u hu => hS.cell hk (by
    rw [← hv, List.getElem?_take] at hu
    split at hu
    · rw [List.getElem?_drop] at hu; exact hu
    · cases hu)
theorem gv_loadPartAt {t : TypeId} {d : TypeDesc} {x : Operand} {b i j k : Nat} {nw : Bool} {T : TypeId} {cs vs : List Value} (ho : o.op = .load t x) (ht : P.underlying t = some d) (hd : (match d with | .struct _ | .array _ _ => true | _ => false) = true) (hz : (P.info? t).map (·.size) = some vs.length)
    (hx : a.eval x = .pointer (some ⟨b, i, none⟩)) (hij : i = j) (hS : St w0 w H) (hk : H[k]? = some ⟨nw, some b, blk T cs⟩) (hv : (cs.drop j).take vs.length = vs) : Gv P o a w (.agg vs.toArray) := by
  subst hij
  exact gv_loadPart ho ht hd hz hx hS hk hv
theorem gv_loadAll {t : TypeId} {d : TypeDesc} {x : Operand} {b k : Nat} {nw : Bool} {T : TypeId} {cs : List Value} (ho : o.op = .load t x) (ht : P.underlying t = some d) (hd : (match d with | .struct _ | .array _ _ => true | _ => false) = true) (hz : (P.info? t).map (·.size) = some cs.length)
    (hx : a.eval x = .pointer (some ⟨b, 0, none⟩)) (hS : St w0 w H) (hk : H[k]? = some ⟨nw, some b, blk T cs⟩) : Gv P o a w (.agg cs.toArray) :=
  gv_loadPart ho ht hd hz hx hS hk (by simp)
end
end Go.Fw
set_option linter.unusedVariables false
set_option linter.unusedSimpArgs false
namespace Go.Fw
open Go Go.RowKit

section
variable {P : Program} {N : Nat} {a : Act} {m : List (Nat × Value)} {o : Oper} {w w0 w' : World} {H : List Ent}

/-- The list's order is of no account. -/
theorem St.reorder {H' : List Ent} (h : St w0 w H) (hm : ∀ e, e ∈ H' ↔ e ∈ H) (ho : ∀ (i j : Nat) (ei ej : Ent) (b : Nat), H'[i]? = some ei → H'[j]? = some ej → ei.ob = some b → ej.ob = some b → i = j) : St w0 w H' :=
  ⟨h.os, h.tape, h.output, h.size, fun b hb hn => h.old b hb fun e he => hn e ((hm e).2 he), fun e he => h.has e ((hm e).1 he), fun e he => h.new e ((hm e).1 he), ho⟩
theorem St.move (h : St w0 w H) {k : Nat} {e : Ent} (hk : H[k]? = some e) : St w0 w (e :: H.eraseIdx k) := by
  have hkl : k < H.length := (List.getElem?_eq_some_iff.1 hk).1
  have back : ∀ (i : Nat) (d : Ent), (e :: H.eraseIdx k)[i]? = some d → ∃ j, H[j]? = some d ∧ j = (if i = 0 then k else if i ≤ k then i - 1 else i) := by
    intro i d hd
    cases i with
    | zero => simp only [List.getElem?_cons_zero, Option.some.injEq] at hd; subst hd; exact ⟨k, hk, by simp⟩
    | succ i =>
      simp only [List.getElem?_cons_succ, List.getElem?_eraseIdx] at hd
      by_cases hik : i < k
      · rw [if_pos hik] at hd
        exact ⟨i, hd, by rw [if_neg (by omega), if_pos (by omega)]; omega⟩
      · rw [if_neg hik] at hd
        exact ⟨i + 1, hd, by rw [if_neg (by omega), if_neg (by omega)]⟩
  refine h.reorder (fun d => ⟨fun hd => ?_, fun hd => ?_⟩) fun i j ei ej b hi hj h1 h2 => ?_
  · obtain ⟨i, hi⟩ := List.getElem?_of_mem hd
    obtain ⟨j, hj, _⟩ := back i d hi
    exact List.mem_of_getElem? hj
  · obtain ⟨j, hj⟩ := List.getElem?_of_mem hd
    by_cases hjk : j = k
    · subst hjk
      rw [hk] at hj
      injection hj with hj
      subst hj
      exact List.mem_cons_self
    · refine List.mem_cons_of_mem _ (List.mem_of_getElem? (i := if j < k then j else j - 1) ?_)
      rw [List.getElem?_eraseIdx]
      by_cases hjk' : j < k
      · rw [if_pos hjk', if_pos hjk']; exact hj
      · rw [if_neg hjk', if_neg (by omega), show j - 1 + 1 = j by omega]; exact hj
  · obtain ⟨x, hx, ex⟩ := back i ei hi
    obtain ⟨y, hy, ey⟩ := back j ej hj
    have := h.once x y ei ej b hx hy h1 h2
    split at ex <;> split at ey <;> (try split at ex) <;> (try split at ey) <;> omega
/-- What a call has laid, ahead of what was known. -/
theorem St.join {M : List Ent} (h : St w0 w H) (hc : St w w' M) (hn : ∀ e ∈ M, e.nw = true) : St w0 w' (M ++ H) := by
  have h' := h.ext (hc.toExt hn)
  refine ⟨h'.os, h'.tape, h'.output, h'.size, fun b hb hne => h'.old b hb fun e he => hne e (List.mem_append_right _ he), fun e he b hb => ?_, fun e he hw b hb => ?_, fun i j ei ej b hi hj h1 h2 => ?_⟩
  · rcases List.mem_append.1 he with he | he
    · exact hc.has e he b hb
    · exact h'.has e he b hb
  · rcases List.mem_append.1 he with he | he
    · have := hc.new e he hw b hb; have := h.size; omega
    · exact h'.new e he hw b hb
  · have part : ∀ (i : Nat) (e : Ent), (M ++ H)[i]? = some e → (i < M.length ∧ M[i]? = some e) ∨ (M.length ≤ i ∧ H[i - M.length]? = some e) := fun i e hi => by
      by_cases hl : i < M.length
      · rw [List.getElem?_append_left hl] at hi; exact .inl ⟨hl, hi⟩
      · rw [List.getElem?_append_right (by omega)] at hi; exact .inr ⟨by omega, hi⟩
    rcases part i ei hi with ⟨a1, a2⟩ | ⟨a1, a2⟩ <;> rcases part j ej hj with ⟨b1, b2⟩ | ⟨b1, b2⟩
    · exact hc.once i j ei ej b a2 b2 h1 h2
    · have := hc.new ei (List.mem_of_getElem? a2) (hn _ (List.mem_of_getElem? a2)) b h1
      have := h.lt (List.mem_of_getElem? b2) h2
      omega
    · have := hc.new ej (List.mem_of_getElem? b2) (hn _ (List.mem_of_getElem? b2)) b h2
      have := h.lt (List.mem_of_getElem? a2) h1
      omega
    · have := h.once _ _ ei ej b a2 b2 h1 h2; omega

/-- What is read through a list: wherever the list's blocks are known the value reads so. -/
def SRd (w0 : World) (T : List Ent) (v : Value) (xs : List Value) : Prop := ∀ w H, St w0 w H → (∀ e ∈ H, e.nw = true) → (∀ e ∈ T, e ∈ H) → Rd w v xs
theorem SRd.old {T : List Ent} {v : Value} {xs : List Value} (h : Rd w0 v xs) : SRd w0 T v xs := fun w H hS hn _ => h.ext (hS.toExt hn)
theorem SRd.mono {T T' : List Ent} {v : Value} {xs : List Value} (h : SRd w0 T v xs) (ht : ∀ e ∈ T, e ∈ T') : SRd w0 T' v xs := fun w H hS hn hs => h w H hS hn fun e he => hs e (ht e he)
theorem SRd.ent {T : List Ent} {nw : Bool} {b : Nat} {t : TypeId} {cs : List Value} (he : ⟨nw, some b, blk t cs⟩ ∈ T) (o n c : Nat) (hn : o + n ≤ cs.length) (hc : n ≤ c) (hc' : c ≤ 9223372036854775807) : SRd w0 T (.slice (some ⟨b, o, none⟩) n c) ((cs.drop o).take n) := fun w H hS _ hs => by
  obtain ⟨k, hk⟩ := List.getElem?_of_mem (hs _ he)
  exact hS.rdOf hk o n c hn hc hc'
theorem SRd.nil {T : List Ent} : SRd w0 T (.slice none 0 0) [] := fun w _ _ _ _ => Rd.nil w
theorem SRd.arr {T : List Ent} {nw : Bool} {b : Nat} {t : TypeId} {l : List UInt8} {n : Nat} (he : ⟨nw, some b, blkB t l⟩ ∈ T) (hl : l.length = n) (hn : n ≤ 9223372036854775807) : SRd w0 T (.slice (some ⟨b, 0, none⟩) n n) (l.map vB) := by
  have := SRd.ent (w0 := w0) (cs := l.map vB) he 0 n n (by simp [hl]) (Nat.le_refl _) hn
  rwa [List.drop_zero, List.take_of_length_le (by simp [hl])] at this
/-- A row of the call's own is read whole. -/
theorem SRd.own {T : List Ent} {nw : Bool} {ob : Option Nat} {t : TypeId} {xs pad : List Value} (he : ⟨nw, ob, blk t (xs ++ pad)⟩ ∈ T) (hob : ob = none → xs = [] ∧ pad = []) (hc : xs.length + pad.length ≤ 9223372036854775807) : SRd w0 T (ownV ob xs.length (xs.length + pad.length)) xs := by
  cases ob with
  | none => obtain ⟨rfl, rfl⟩ := hob rfl; exact SRd.nil
  | some b =>
    have := SRd.ent (w0 := w0) he 0 xs.length (xs.length + pad.length) (by simp) (by omega) hc
    simpa [ownV] using this

theorem own_some {α β : Type} {ob : Option Nat} {xs : List α} {pad : List β} (hob : ob = none → xs = [] ∧ pad = []) (h : 0 < xs.length) : ∃ b, ob = some b := by
  cases ob with
  | none => rw [(hob rfl).1] at h; cases h
  | some b => exact ⟨b, rfl⟩
theorem nw_nil : ∀ e ∈ ([] : List Ent), e.nw = true := fun _ h => by cases h
theorem nw_cons {e : Ent} {T : List Ent} (h : e.nw = true) (ht : ∀ d ∈ T, d.nw = true) : ∀ d ∈ e :: T, d.nw = true := fun d hd => by
  rcases List.mem_cons.1 hd with rfl | hd
  · exact h
  · exact ht d hd

/-! ### Slicing -/
theorem gv_lenOwn {t e : TypeId} {ob : Option Nat} {n c : Nat} {x : Operand} (ho : o.op = .call { callee := .builtin .len, args := #[x], argTypes := #[t] }) (ht : P.underlying t = some (.slice e)) (hx : a.eval x = ownV ob n c) (hob : ob = none → n = 0) : Gv P o a w (vI n) := by
  cases ob with
  | none => rw [hob rfl]; exact gv_len ho ht hx
  | some b => exact gv_len ho ht hx
/-- x[lo:] of a slice. -/
def cutV (A : Option Addr) (n c lo : Nat) : Value := .slice (if c = lo then A else A.map (·.add lo)) (n - lo) (c - lo)
theorem gv_sliceLo {t e : TypeId} {x y : Operand} {A : Option Addr} {n c lo : Nat} (ho : o.op = .slice t x (some y) none none) (ht : P.underlying t = some (.slice e)) (hz : (P.info? e).map (·.size) = some 1) (hx : a.eval x = .slice A n c) (hy : a.eval y = vI lo) (h : lo ≤ n) : Gv P o a w (cutV A n c lo) := by
  unfold Gv execOp; rw [ho]
  have h1 : (0 : Int) ≤ (lo : Int) ∧ (lo : Int) ≤ (n : Int) := ⟨by omega, by omega⟩
  simp [hx, hy, vI, Instr.sliceAt, Instr.slice, run_und ht, Instr.sliceBounds, Instr.sliceBound, asIntOf, h1, h, Fw.run_sizeOf hz, cutV]
/-- x[:hi] of a slice, within its length. -/
theorem gv_sliceHi {t e : TypeId} {x y : Operand} {A : Option Addr} {n c hi : Nat} (ho : o.op = .slice t x none (some y) none) (ht : P.underlying t = some (.slice e)) (hz : (P.info? e).map (·.size) = some 1) (hx : a.eval x = .slice A n c) (hy : a.eval y = vI hi) (h : hi ≤ c) : Gv P o a w (.slice A hi c) := by
  unfold Gv execOp; rw [ho]
  have h1 : (0 : Int) ≤ (hi : Int) ∧ (hi : Int) ≤ (c : Int) := ⟨by omega, by omega⟩
  by_cases hc : c = 0
  · have : hi = 0 := by omega
    subst this; subst hc
    simp [hx, hy, vI, Instr.sliceAt, Instr.slice, run_und ht, Instr.sliceBounds, Instr.sliceBound, asIntOf, Fw.run_sizeOf hz]
  · cases A <;> simp [hx, hy, vI, Instr.sliceAt, Instr.slice, run_und ht, Instr.sliceBounds, Instr.sliceBound, asIntOf, h1, h, Fw.run_sizeOf hz, hc, Addr.add]
/-- x[:] of an array behind its address. -/
theorem gv_sliceArr {t e : TypeId} {x : Operand} {n b off : Nat} (ho : o.op = .slice t x none none none) (ht : P.underlying t = some (.array n e)) (hz : (P.info? e).map (·.size) = some 1) (hx : a.eval x = .pointer (some ⟨b, off, none⟩)) : Gv P o a w (.slice (some ⟨b, off, none⟩) n n) := by
  unfold Gv execOp; rw [ho]
  by_cases hn : n = 0 <;> simp [hx, Instr.sliceAt, run_und ht, Instr.sureAddr, Instr.sliceBounds, Fw.run_sizeOf hz, hn, Addr.add]
theorem Rd.cutLo {A : Option Addr} {n c lo : Nat} {xs : List Value} (h : Rd w (.slice A n c) xs) (hl : lo ≤ n) : Rd w (cutV A n c lo) (xs.drop lo) := by
  obtain ⟨A', c', hv, h1, h2, h3⟩ := h.is
  injection hv with hA hn hc
  subst hA; subst hc; subst hn
  have hlen : (xs.drop lo).length = xs.length - lo := by simp
  refine ⟨_, c - lo, by rw [hlen]; rfl, by omega, by omega, fun hp => ?_⟩
  obtain ⟨b, o, hA, hcell⟩ := h3 (by omega)
  subst hA
  refine ⟨b, o + lo, by rw [if_neg (by omega)]; simp [add_lit], fun i u hu => ?_⟩
  rw [Nat.add_assoc]
  exact hcell (lo + i) u (by rw [← hu, List.getElem?_drop])
theorem Rd.cutHi {A : Option Addr} {n c hi : Nat} {xs : List Value} (h : Rd w (.slice A n c) xs) (hl : hi ≤ n) : Rd w (.slice A hi c) (xs.take hi) := by
  obtain ⟨A', c', hv, h1, h2, h3⟩ := h.is
  injection hv with hA hn hc
  subst hA; subst hc; subst hn
  have hlen : (xs.take hi).length = hi := by simp; omega
  refine ⟨A, c, by rw [hlen], by omega, h2, fun hp => ?_⟩
  obtain ⟨b, o, hA, hcell⟩ := h3 (by omega)
  refine ⟨b, o, hA, fun i u hu => hcell i u ?_⟩
  rw [List.getElem?_take] at hu
  split at hu
  · exact hu
  · cases hu
theorem SRd.cutLo {T : List Ent} {A : Option Addr} {n c lo : Nat} {xs : List Value} (h : SRd w0 T (.slice A n c) xs) (hl : lo ≤ n) : SRd w0 T (cutV A n c lo) (xs.drop lo) := fun w H hS hn hs => (h w H hS hn hs).cutLo hl
theorem SRd.cutHi {T : List Ent} {A : Option Addr} {n c hi : Nat} {xs : List Value} (h : SRd w0 T (.slice A n c) xs) (hl : hi ≤ n) : SRd w0 T (.slice A hi c) (xs.take hi) := fun w H hS hn hs => (h w H hS hn hs).cutHi hl
end
end Go.Fw
set_option linter.unusedVariables false
namespace Go.Fw
open Go Go.RowKit Go.ChangeShapes Go.WideShapes

/-- The bytes of cells that are bytes. -/
theorem cells_bytes {cs : List Value} (h : ∀ v ∈ cs, ∃ n : Int, v = .int .u8 n ∧ IntKind.u8.has n) : ∃ bl : List UInt8, bl.length = cs.length ∧ cs = bl.map vB := by
  induction cs with
  | nil => exact ⟨[], rfl, rfl⟩
  | cons v cs ih =>
    obtain ⟨bl, h1, h2⟩ := ih fun u hu => h u (List.mem_cons_of_mem _ hu)
    obtain ⟨n, rfl, hn⟩ := h v List.mem_cons_self
    have hb : 0 ≤ n ∧ n ≤ 255 := hn
    refine ⟨UInt8.ofNat n.toNat :: bl, by simp [h1], ?_⟩
    rw [h2, List.map_cons]
    congr 1
    unfold vB
    congr 1
    rw [UInt8.toNat_ofNat']
    omega
theorem open_agg8 {P : Program} {ts : List TypeId} {w : World} {r : Reach} {base : Nat} {t e : TypeId} {n m : Nat} {v : Value} (ht : P.underlying t = some (.array n e)) (he : ∀ u ∈ ts, P.underlying u = some (.int .u8)) (hc : P.cellTypes P.depth t = some ts) (hn : P.cellsOf t = m) (h : Value.okWide P w r base t v) : ∃ bl : List UInt8, bl.length = m ∧ v = .agg (bl.map vB).toArray := by
  simp only [Value.okWide, ht] at h
  obtain ⟨cs, rfl, h2, ts', h3, _, h4⟩ := h
  rw [hc] at h3
  injection h3 with h3
  subst h3
  obtain ⟨bl, h5, h6⟩ := cells_bytes (cs := cs.toList) fun v hv => by
    obtain ⟨i, hi⟩ := List.getElem?_of_mem hv
    obtain ⟨u, hu, hk⟩ := h4 i v (by simpa using hi)
    have := he u (List.mem_of_getElem? hu)
    unfold Cell.okWide at hk
    rw [this] at hk
    cases v <;> simp [Cell.ok, this] at hk
    obtain ⟨rfl, hk⟩ := hk
    exact ⟨_, rfl, hk⟩
  refine ⟨bl, by rw [h5, ← hn, ← h2]; simp, ?_⟩
  rw [← h6]
end Go.Fw
namespace Go.Fw
open Go Go.RowKit Go.ChangeShapes Go.WideShapes
theorem rd_ints {w : World} {a : Addr} {len cap : Nat} {zs : List Int} (hl : len ≤ cap) (hm : cap ≤ maxLen) (hz : zs.length = cap) (hc : ∀ i, i < zs.length → w.cell? (a.add i) = some (.int .u8 (zs.getD i 0))) (hwf : ∀ n ∈ zs, (Lit.int .u8 n).wf = true) : ∃ l : List UInt8, Rd w (.slice (some a) len cap) (l.map vB) := by
  obtain ⟨l, h1, h2⟩ := cells_bytes (cs := (zs.take len).map (Value.int .u8)) fun v hv => by
    obtain ⟨n, hn, rfl⟩ := List.mem_map.1 hv
    refine ⟨n, rfl, ?_⟩
    have := bounds_u8 (hwf n (List.mem_of_mem_take hn))
    exact this
  rw [List.length_map, List.length_take, hz, Nat.min_eq_left hl] at h1
  refine ⟨l, ?_⟩
  rw [← h2]
  refine ⟨some a, cap, by simp [hz, Nat.min_eq_left hl], by simp [hz]; omega, ?_, fun hp => ?_⟩
  · have : maxLen = 9223372036854775807 := rfl
    omega
  · have hp' : 0 < zs.length := by simp at hp; omega
    obtain ⟨b, off, rfl, hj⟩ := ints_at hc hp'
    refine ⟨b, off, rfl, fun i v hv => ?_⟩
    have hi : i < zs.length := by
      have := (List.getElem?_eq_some_iff.1 hv).1
      simp at this; omega
    rw [hj i hi, ← hv]
    have hi' : i < len := by
      have := (List.getElem?_eq_some_iff.1 hv).1
      simp at this; omega
    simp [hi', List.getD_eq_getElem?_getD, List.getElem?_eq_getElem hi]
theorem rd_trod {H : Type} {enc : TypeId × Value → H} {P : Program} {w : World} {base : Nat} {held : Bool} {t e : TypeId} {a : Option Addr} {len cap : Nat} {d : DataW H} {p : List MemPlace} (ht : P.underlying t = some (.slice e)) (he : P.underlying e = some (.int .u8)) (hc : P.cellsOf e = 1)
    (h : DataW.Trod enc P w base (fun _ => true) held t (.slice a len cap) d p) : ∃ l : List UInt8, Rd w (.slice a len cap) (l.map vB) := by
  obtain ⟨fuel, hf⟩ := h
  rcases open_ints ht he hc hf with ⟨hcs, _⟩ | ⟨x, l, c, zs, hcs, _, hl, hm, hz, _, hcell, hwz⟩
  · simp [Value.cells] at hcs
    obtain ⟨rfl, rfl, rfl⟩ := hcs
    exact ⟨[], Rd.nil w⟩
  · simp [Value.cells] at hcs
    obtain ⟨rfl, rfl, rfl⟩ := hcs
    exact rd_ints hl hm (by simpa using hz) hcell hwz
end Go.Fw
namespace Go.Fw
open Go Go.RowKit Go.ChangeShapes Go.WideShapes
theorem open_i64 {P : Program} {w : World} {r : Reach} {base : Nat} {t : TypeId} {v : Value} (ht : P.underlying t = some (.int .i64)) (h : Value.okWide P w r base t v) : ∃ p : Int, v = .int .i64 p ∧ -9223372036854775808 ≤ p ∧ p ≤ 9223372036854775807 := by
  simp only [Value.okWide, ht, Cell.okWide] at h
  cases v <;> simp [Cell.ok, ht] at h
  obtain ⟨rfl, h⟩ := h
  exact ⟨_, rfl, h⟩
end Go.Fw
set_option linter.unusedVariables false
set_option linter.unusedSimpArgs false
namespace Go.Fw
open Go Go.RowKit Go.ChangeShapes Go.WideShapes Go.Deep
theorem weights_all {H : Type} {P : Program} {e : TypeId} : ∀ {l : List (DataW H)} {d : DataW H}, d ∈ l → ∀ n ∈ d.weights P e, n ∈ DataW.weightsAll P e l
  | x :: l, d, hd, n, hn => by
    simp only [DataW.weightsAll, List.mem_append]
    rcases List.mem_cons.1 hd with rfl | hd
    · exact .inl hn
    · exact .inr (weights_all hd n hn)
theorem rd_ints_len {w : World} {a : Addr} {len cap : Nat} {zs : List Int} (hl : len ≤ cap) (hm : cap ≤ maxLen) (hz : zs.length = cap) (hc : ∀ i, i < zs.length → w.cell? (a.add i) = some (.int .u8 (zs.getD i 0))) (hwf : ∀ n ∈ zs, (Lit.int .u8 n).wf = true) : ∃ l : List UInt8, Rd w (.slice (some a) len cap) (l.map vB) ∧ l.length = len := by
  obtain ⟨l, hr⟩ := rd_ints hl hm hz hc hwf
  refine ⟨l, hr, ?_⟩
  obtain ⟨A, c, h1, _⟩ := hr.is
  injection h1 with _ h2 _
  simpa using h2.symm
theorem rd_parts {H : Type} {enc : TypeId × Value → H} {P : Program} {w : World} {base : Nat} {held : Bool} {t e b : TypeId} {a : Option Addr} {len cap : Nat} {d : DataW H} {p : List MemPlace} (ht : P.underlying t = some (.slice e)) (he : P.underlying e = some (.slice b)) (hb : P.underlying b = some (.int .u8)) (hce : P.cellsOf e = 1) (hcb : P.cellsOf b = 1) (hby : P.bytesOf b = 1)
    (h : DataW.Trod enc P w base (fun _ => true) held t (.slice a len cap) d p) (hs : ∀ n ∈ d.weights P t, n ≤ reachBytes) : ∃ (pvs : List Value) (pls : List (List UInt8)), Rd w (.slice a len cap) pvs ∧ (∀ i, i < pvs.length → Rd w (pvs.getD i undef) ((pls.getD i []).map vB)) ∧ ∀ i, (pls.getD i []).length ≤ 140737488355328 := by
  obtain ⟨fuel, hf⟩ := h
  rcases open_slice1 ht hce hf with ⟨hcs, _⟩ | ⟨x, l, c, m, n, V, D, Pl, hcs, _, hl, hm, hmm, hx, hel⟩
  · simp [Value.cells] at hcs
    obtain ⟨rfl, rfl, rfl⟩ := hcs
    exact ⟨[], [], Rd.nil w, fun i hi => absurd hi (by simp), fun i => by simp⟩
  · simp [Value.cells] at hcs
    obtain ⟨rfl, rfl, rfl⟩ := hcs
    simp only [Prod.mk.injEq] at hx
    obtain ⟨rfl, _⟩ := hx
    have hm' : m = cap := by simpa using hmm
    subst hm'
    obtain ⟨L, hL⟩ := choose_lt (α := List UInt8) (n := len) (p := fun i l => Rd w (V i) (l.map vB) ∧ l.length ≤ 140737488355328) (fun i hi => by
      obtain ⟨h1, h2⟩ := hel i (by omega)
      rcases open_ints he hb hcb h2 with ⟨hcs, _⟩ | ⟨y, l', c', zs, hcs, _, hl', hm', hz, hy, hcell, hwz⟩
      · injection hcs with hcs _
        rw [hcs]
        exact ⟨[], Rd.nil w, by simp⟩
      · injection hcs with hcs _
        rw [hcs]
        obtain ⟨l, hr, hlen⟩ := rd_ints_len hl' hm' (by simpa using hz) hcell hwz
        refine ⟨l, hr, ?_⟩
        simp only [Prod.mk.injEq] at hy
        have hw := hs ((lits IntKind.u8 (zs.take l') (H := H)).length + (lits IntKind.u8 (zs.drop l') (H := H)).length) (by
          simp only [DataW.weights, ht, List.mem_cons, List.mem_append]
          refine .inr (.inl (weights_all (d := D i) (List.mem_map.2 ⟨i, List.mem_range.2 hi, rfl⟩) _ ?_))
          rw [hy.1]
          simp only [DataW.weights, he, hby, Nat.mul_one, List.mem_cons, true_or])
        have hzl : zs.length = c' := by simpa using hz
        simp only [lits, List.length_map, List.length_take, List.length_drop, reachBytes] at hw
        rw [hlen]
        omega)
    refine ⟨(List.range len).map V, (List.range len).map L, ?_, fun i hi => ?_, fun i => ?_⟩
    · refine ⟨⟨some x, m, by simp, by simpa using hl, by have : maxLen = 9223372036854775807 := rfl; omega, fun hp => ?_⟩⟩
      have hp' : 0 < len := by simpa using hp
      have h0 := (hel 0 (by omega)).1
      obtain ⟨bb, off, spot⟩ := x
      have hspot : spot = none := by simpa [Addr.add] using World.cell?_spot h0
      subst hspot
      refine ⟨bb, off, rfl, fun i u hu => ?_⟩
      rw [List.getElem?_map] at hu
      obtain ⟨j, hj, rfl⟩ := Option.map_eq_some_iff.1 hu
      have hji := List.getElem?_eq_some_iff.1 hj
      have hlt : i < len := by simpa using hji.1
      have hje : j = i := by have := hji.2; simpa using this.symm
      subst hje
      have := (hel j (by omega)).1
      rwa [add_plain] at this
    · have hi' : i < len := by simpa using hi
      have e1 : ((List.range len).map V).getD i undef = V i := by simp [List.getD_eq_getElem?_getD, hi']
      have e2 : ((List.range len).map L).getD i [] = L i := by simp [List.getD_eq_getElem?_getD, hi']
      rw [e1, e2]
      exact (hL i hi').1
    · by_cases hi' : i < len
      · have e2 : ((List.range len).map L).getD i [] = L i := by simp [List.getD_eq_getElem?_getD, hi']
        rw [e2]
        exact (hL i hi').2
      · have e2 : ((List.range len).map L).getD i [] = [] := by simp [List.getD_eq_getElem?_getD, hi']
        rw [e2]; simp
end Go.Fw
set_option linter.unusedVariables false
set_option linter.unusedSimpArgs false
namespace Go.Fw
open Go Go.RowKit Go.ChangeShapes Go.WideShapes Go.Deep
theorem rd_cell1 {H : Type} {enc : TypeId × Value → H} {P : Program} {w : World} {base : Nat} {held : Bool} {e b : TypeId} {c : Value} {m : Nat} {x : DataW H × List MemPlace} (he : P.underlying e = some (.slice b)) (hb : P.underlying b = some (.int .u8)) (hcb : P.cellsOf b = 1)
    (h : DataW.trod enc P w base (fun _ => true) held m e [c] = some x) : ∃ l : List UInt8, Rd w c (l.map vB) := by
  rcases open_ints he hb hcb h with ⟨hcs, _⟩ | ⟨y, l', c', zs, hcs, _, hl', hm', hz, hy, hcell, hwz⟩
  · injection hcs with hcs _
    rw [hcs]
    exact ⟨[], Rd.nil w⟩
  · injection hcs with hcs _
    rw [hcs]
    exact rd_ints hl' hm' (by simpa using hz) hcell hwz
theorem open_arr2 {H : Type} {enc : TypeId × Value → H} {P : Program} {w : World} {r : Reach} {base0 base : Nat} {held : Bool} {t e b : TypeId} {v : Value} {d : DataW H} {p : List MemPlace} (ht : P.underlying t = some (.array 2 e)) (he : P.underlying e = some (.slice b)) (hb : P.underlying b = some (.int .u8)) (hct : P.cellsOf t = 2) (hce : P.cellsOf e = 1) (hcb : P.cellsOf b = 1)
    (hok : Value.okWide P w r base0 t v) (h : DataW.Trod enc P w base (fun _ => true) held t v d p) : ∃ (v0 v1 : Value) (l0 l1 : List UInt8), v = .agg #[v0, v1] ∧ Rd w v0 (l0.map vB) ∧ Rd w v1 (l1.map vB) := by
  simp only [Value.okWide, ht] at hok
  obtain ⟨cs, rfl, h2, _⟩ := hok
  obtain ⟨fuel, hf⟩ := h
  obtain ⟨xs, m, _, _, _, hl, hel⟩ := DataW.trod_array ht hf
  obtain ⟨cl⟩ := cs
  rw [hct] at h2
  match cl, h2 with
  | [c0, c1], _ =>
    have h0 := hel 0 (by decide)
    have h1 := hel 1 (by decide)
    rw [hce] at h0 h1
    rw [List.getElem?_eq_getElem (by omega)] at h0 h1
    obtain ⟨l0, r0⟩ := rd_cell1 he hb hcb (c := c0) h0
    obtain ⟨l1, r1⟩ := rd_cell1 he hb hcb (c := c1) h1
    exact ⟨c0, c1, l0, l1, rfl, r0, r1⟩
end Go.Fw
set_option linter.unusedVariables false
set_option linter.unusedSimpArgs false
namespace Go.Fw
open Go Go.RowKit

section guarded
variable {P : Program} {N : Nat} {a : Act} {w w0 : World} {m : List (Nat × Value)} {o : Oper} {ops : Array Oper} {K : Act → World → Prop} {Q : Exit → Act → World → Prop}
theorem stp_gvG {p : Prop} [Decidable p] (hF : Fr N a m) {j t : Nat} (hg : o.guard = some (j, true)) (hj : (ops[j]?).bind (·.dst) = some t) (hl : look t m = some (.bool (decide p))) {d : Nat} {v : Value} (hd : o.dst = some d) (hN : Nat.blt d N = true)
    (hv : p → Gv P o a w v) (h : ∀ a', Fr N a' ((d, if p then v else undef) :: m) → K a' w) : Stp P ops Q o a w K := by
  by_cases hp : p
  · rw [decide_eq_true hp] at hl
    exact stp_gv hF (wanted_of hF hg hj hl) hd hN (hv hp) (by simpa [hp] using h)
  · rw [decide_eq_false hp] at hl
    exact stp_skip hF (unwanted_of hF hg hj hl rfl) hd hN (by simpa [hp] using h)
theorem stp_gvG' {p : Prop} [Decidable p] (hF : Fr N a m) {j t : Nat} (hg : o.guard = some (j, false)) (hj : (ops[j]?).bind (·.dst) = some t) (hl : look t m = some (.bool (decide p))) {d : Nat} {v : Value} (hd : o.dst = some d) (hN : Nat.blt d N = true)
    (hv : ¬ p → Gv P o a w v) (h : ∀ a', Fr N a' ((d, if p then undef else v) :: m) → K a' w) : Stp P ops Q o a w K := by
  by_cases hp : p
  · rw [decide_eq_true hp] at hl
    exact stp_skip hF (unwanted_of hF hg hj hl rfl) hd hN (by simpa [hp] using h)
  · rw [decide_eq_false hp] at hl
    exact stp_gv hF (wanted_of hF hg hj hl) hd hN (hv hp) (by simpa [hp] using h)
theorem dw_gvG {p : Prop} [Decidable p] {fl : List Nat} {KK : Act → Prop} {i : Nat} {rest : List Oper} (hF : Fr N a m) (hfl : fl.contains i = false) {j t : Nat} (hg : o.guard = some (j, true)) (hj : (ops[j]?).bind (·.dst) = some t) (hl : look t m = some (.bool (decide p))) {d : Nat} {v : Value} (hd : o.dst = some d) (hN : Nat.blt d N = true)
    (hv : ∀ w', Ext w w' → p → Gv P o a w' v) (h : ∀ a', Fr N a' ((d, if p then v else undef) :: m) → dwalk P ops w fl KK (i + 1) rest a') : dwalk P ops w fl KK i (o :: rest) a := by
  by_cases hp : p
  · rw [decide_eq_true hp] at hl
    exact dw_gv hF hfl (wanted_of hF hg hj hl) hd hN (fun w' hx => hv w' hx hp) (by simpa [hp] using h)
  · rw [decide_eq_false hp] at hl
    exact dw_skip hF hfl (unwanted_of hF hg hj hl rfl) hd hN (by simpa [hp] using h)
theorem dw_gvG' {p : Prop} [Decidable p] {fl : List Nat} {KK : Act → Prop} {i : Nat} {rest : List Oper} (hF : Fr N a m) (hfl : fl.contains i = false) {j t : Nat} (hg : o.guard = some (j, false)) (hj : (ops[j]?).bind (·.dst) = some t) (hl : look t m = some (.bool (decide p))) {d : Nat} {v : Value} (hd : o.dst = some d) (hN : Nat.blt d N = true)
    (hv : ∀ w', Ext w w' → ¬ p → Gv P o a w' v) (h : ∀ a', Fr N a' ((d, if p then undef else v) :: m) → dwalk P ops w fl KK (i + 1) rest a') : dwalk P ops w fl KK i (o :: rest) a := by
  by_cases hp : p
  · rw [decide_eq_true hp] at hl
    exact dw_skip hF hfl (unwanted_of hF hg hj hl rfl) hd hN (by simpa [hp] using h)
  · rw [decide_eq_false hp] at hl
    exact dw_gv hF hfl (wanted_of hF hg hj hl) hd hN (fun w' hx => hv w' hx hp) (by simpa [hp] using h)
theorem gv_pickAnd {p q : Prop} [Decidable p] [Decidable q] {c x y : Operand} (ho : o.op = .pick c x y) (hc : a.eval c = .bool (decide p)) (hx : a.eval x = if p then .bool (decide q) else undef) (hy : a.eval y = .bool false) : Gv P o a w (.bool (decide (p ∧ q))) := by
  refine gv_pick ho hc ?_
  by_cases hp : p
  · simp [hp, hx]
  · simp [hp, hy]
theorem gv_pickOr {p q : Prop} [Decidable p] [Decidable q] {c x y : Operand} (ho : o.op = .pick c x y) (hc : a.eval c = .bool (decide p)) (hx : a.eval x = .bool true) (hy : a.eval y = if p then undef else .bool (decide q)) : Gv P o a w (.bool (decide (p ∨ q))) := by
  refine gv_pick ho hc ?_
  by_cases hp : p
  · simp [hp, hx]
  · simp [hp, hy]
end guarded

section bytes
variable {P : Program} {N : Nat} {a : Act} {w w0 : World} {m : List (Nat × Value)} {H : List Ent} {o : Oper} {ops : Array Oper} {K : Act → World → Prop} {Q : Exit → Act → World → Prop}
/-- A byte as an int. -/
abbrev vN (x : UInt8) : Value := vI x.toNat
def blkM (t : TypeId) (l : List UInt8) : Obj := blk t (l.map vN)
theorem rep_vN (n : Nat) : (List.replicate n (0 : Nat)).map vI = (List.replicate n (0 : UInt8)).map vN := by simp [vN]
theorem rep_blkM (t : TypeId) (n : Nat) : blk t ((List.replicate n (0 : Nat)).map vI) = blkM t (List.replicate n (0 : UInt8)) := by rw [rep_vN]; rfl
theorem one_M (l : List UInt8) : ∀ u ∈ l.map vN, u.oneCell' = true := one_map (fun _ => rfl) l
theorem St.cellM (hS : St w0 w H) {k : Nat} {nw : Bool} {b : Nat} {t : TypeId} {l : List UInt8} (hk : H[k]? = some ⟨nw, some b, blkM t l⟩) (j : Nat) (hj : j < l.length) : w.cell? ⟨b, j, none⟩ = some (vN (l.getD j 0)) := hS.cell hk (map_at (f := vN) hj 0)
theorem stp_storeM {t : TypeId} {x y : Operand} {b i : Nat} {k : Nat} {nw : Bool} {T : TypeId} {v : UInt8} {l : List UInt8} (j : Nat) (hF : Fr N a m) (hw : Region.wanted o (yielded ops a.tmps) = true) (hd : o.dst = none) (ho : o.op = .store t x y) (hz : (P.info? t).map (·.size) = some 1)
    (hx : a.eval x = .pointer (some ⟨b, i, none⟩)) (hij : i = j) (hy : a.eval y = vN v) (hS : St w0 w H) (hk : H[k]? = some ⟨nw, some b, blkM T l⟩) (hi : j < l.length) (h : ∀ w', St w0 w' (H.set k ⟨nw, some b, blkM T (l.set j v)⟩) → K a w') : Stp P ops Q o a w K :=
  stp_storeAt j hF hw hd ho hz hx hij hy rfl hS hk (by simpa using hi) fun w' h' => h w' (by unfold blkM; rw [List.map_set]; exact h')
theorem gv_x8 {t t' : TypeId} {x y : Operand} {m n : UInt8} (ho : o.op = .binOp .xor t x y t') (hx : a.eval x = vN m) (hy : a.eval y = vN n) : Gv P o a w (vN (m ^^^ n)) := by
  have h1 := m.toNat_lt
  have h2 := n.toNat_lt
  have := gv_n_xor (P := P) (w := w) ho hx hy (by omega) (by omega)
  unfold vN
  rwa [UInt8.toNat_xor]
theorem gv_conv_n_b {s d : TypeId} {x : Operand} {m : UInt8} (ho : o.op = .convert s d x) (hs : P.underlying s = some (.int .i64)) (hd : P.underlying d = some (.int .u8)) (hx : a.eval x = vN m) : Gv P o a w (vB m) := by
  have := gv_conv_i_b (P := P) (w := w) ho hs hd hx
  rwa [UInt8.ofNat_toNat] at this
end bytes
end Go.Fw
set_option linter.unusedVariables false
set_option linter.unusedSimpArgs false
namespace Go.Fw
open Go Go.RowKit

section
variable {P : Program} {N : Nat} {a : Act} {w w0 : World} {m : List (Nat × Value)} {H : List Ent} {o : Oper} {ops : Array Oper} {K : Act → World → Prop} {Q : Exit → Act → World → Prop} {x y : Operand} {t t' d s e : TypeId}
/-- A string of bytes. -/
def sV (l : List UInt8) : Value := .string ⟨l.toArray⟩
theorem sV_toList (l : List UInt8) : (ByteArray.mk l.toArray).toList = l := by rw [ByteArray.toList_eq]
theorem beqd (l l' : List UInt8) : (l == l') = decide (l = l') := by rw [Bool.eq_iff_iff]; simp
theorem sV_size (l : List UInt8) : (ByteArray.mk l.toArray).size = l.length := by simp [ByteArray.size]
theorem gv_convStr {v : Value} {l : List UInt8} (ho : o.op = .convert s d x) (hs : P.underlying s = some (.slice e)) (he : P.underlying e = some (.int .u8)) (hd : P.underlying d = some .string) (hx : a.eval x = v) (hr : Rd w v (l.map vB)) : Gv P o a w (sV l) := by
  have key : (convert s d v).run P w = .ok (sV l) w := by
    obtain ⟨A, c, rfl, h1, h2, h3⟩ := hr.isB
    cases A with
    | none =>
      have hl : l = [] := by
        cases l with
        | nil => rfl
        | cons z l => obtain ⟨b, o, hb, _⟩ := h3 (by simp); cases hb
      subst hl
      exact run_convert_bytes_nil w s e hs he _ _ d hd
    | some A =>
      obtain ⟨b, off, sp⟩ := A
      by_cases hl : 0 < l.length
      · obtain ⟨b', o', hb, hc⟩ := h3 hl
        injection hb with hb
        injection hb with hb1 hb2 hb3
        subst hb1 hb2 hb3
        have := run_convert_bytes_arg w s e hs he b off l.length c (l.map fun z => (z.toNat : Int)) (by simp) (fun i hi => by
          rw [hc i hi]
          simp [vB, List.getD_eq_getElem?_getD, List.getElem?_map, List.getElem?_eq_getElem hi]) d hd
        rw [this]
        simp [strOfNums, sV, Function.comp_def]
      · have hl : l = [] := List.length_eq_zero_iff.1 (by omega)
        subst hl
        rw [run_convert_bytes_string w s d e _ _ _ hs he hd]
        have := run_bytesToString (P := P) w ⟨b, off, sp⟩ 0 c [] (by rfl)
        exact this
  simp [Gv, execOp, ho, hx, key]
theorem gv_str (op : BinOp) (ho : o.op = .binOp op t x y t') {p q v : Value} (hp : ∃ s, p = .string s) (hx : a.eval x = p) (hy : a.eval y = q) (hr : (binOp op t p q).run P w = .ok v w) : Gv P o a w v := by
  obtain ⟨s, rfl⟩ := hp
  simp [Gv, execOp, ho, hx, hy, eqGuard_at_string, hr]
theorem gv_strEql {l l' : List UInt8} (ho : o.op = .binOp .eql t x y t') (hx : a.eval x = sV l) (hy : a.eval y = sV l') : Gv P o a w (.bool (decide (l = l'))) :=
  gv_str .eql ho ⟨_, rfl⟩ hx hy (by
    show Result.ok (Value.bool ((ByteArray.mk l.toArray).toList == (ByteArray.mk l'.toArray).toList)) w = _
    rw [sV_toList, sV_toList, beqd])
theorem gv_strNeq {l l' : List UInt8} (ho : o.op = .binOp .neq t x y t') (hx : a.eval x = sV l) (hy : a.eval y = sV l') : Gv P o a w (.bool (decide (l ≠ l'))) :=
  gv_str .neq ho ⟨_, rfl⟩ hx hy (by
    show Result.ok (Value.bool (!((ByteArray.mk l.toArray).toList == (ByteArray.mk l'.toArray).toList))) w = _
    rw [sV_toList, sV_toList, beqd, decide_not])
theorem gv_strAdd {l l' : List UInt8} (ho : o.op = .binOp .add t x y t') (hx : a.eval x = sV l) (hy : a.eval y = sV l') (h : l.length + l'.length ≤ 9223372036854775807) : Gv P o a w (sV (l ++ l')) :=
  gv_str .add ho ⟨_, rfl⟩ hx hy (by
    show (Op.stringOp .add _ _).run P w = _
    unfold Op.stringOp
    simp only [sV_size]
    rw [if_neg (by rw [IntKind.max_i64]; omega)]
    simp [sV]
    rfl)
theorem gv_aggEql {l l' : List UInt8} {n : Nat} (ho : o.op = .binOp .eql t x y t') (ht : P.underlying t = some (.array n e)) (he : P.underlying e = some (.int .u8)) (hz : (P.info? e).map (·.size) = some 1) (hq : P.eqGuardType P.depth t = false) (hx : a.eval x = .agg (l.map vB).toArray) (hy : a.eval y = .agg (l'.map vB).toArray) (h1 : l.length = n) (h2 : l'.length = n) : Gv P o a w (.bool (decide (l = l'))) := by
  have h := run_eql_bytes (P := P) w t e n ht he (fun w => run_sizeOf hz w) l l' h1 h2
  have hg : (eqGuard .eql t x y (.agg (l.map vB).toArray) (.agg (l'.map vB).toArray)).run P w = .ok () w := by
    simp [eqGuard, hq]
  have h' : (binOp .eql t (.agg (l.map vB).toArray) (.agg (l'.map vB).toArray)).run P w = .ok (.bool (l == l')) w := h
  have hb : (l == l') = decide (l = l') := beqd l l'
  simp [Gv, execOp, ho, hx, hy, hg, h', hb]
theorem ownV_pos {ob : Option Nat} {n c hi : Nat} (h : ob = none → n = 0 ∧ c = 0) (hh : hi ≤ c) : ∃ A, ownV ob n c = .slice A n c ∧ ownV ob hi c = .slice A hi c := by
  cases ob with
  | none => obtain ⟨rfl, rfl⟩ := h rfl; obtain rfl : hi = 0 := (by omega); exact ⟨none, rfl, rfl⟩
  | some b => exact ⟨some ⟨b, 0, none⟩, rfl, rfl⟩
theorem gv_sliceHiOwn {ob : Option Nat} {n c hi : Nat} (ho : o.op = .slice t x none (some y) none) (ht : P.underlying t = some (.slice e)) (hz : (P.info? e).map (·.size) = some 1) (hx : a.eval x = ownV ob n c) (hob : ob = none → n = 0 ∧ c = 0) (hy : a.eval y = vI hi) (h : hi ≤ c) : Gv P o a w (ownV ob hi c) := by
  obtain ⟨A, h1, h2⟩ := ownV_pos hob h
  rw [h1] at hx
  rw [h2]
  exact gv_sliceHi ho ht hz hx hy h
theorem stp_build1 {v : UInt8} {z : Operand} {k : Nat} (hF : Fr N a m) (hw : Region.wanted o (yielded ops a.tmps) = true) (hd : o.dst = some k) (hN : Nat.blt k N = true) (ho : o.op = .buildSlice t 1 #[(0, z)]) (ht : P.underlying t = some (.slice e)) {by_ : Nat} (hty : Ty P e (.int .u8 0) 1 by_) (hz : a.eval z = vB v) (hS : St w0 w H)
    (h : ∀ b a' w', Fr N a' ((k, .slice (some ⟨b, 0, none⟩) 1 1) :: m) → St w0 w' (⟨true, some b, blkB e [v]⟩ :: H) → K a' w') : Stp P ops Q o a w K := by
  obtain ⟨i, h1, h2, h3, h4⟩ := hty.get
  refine stp_val hF hw hd hN (w' := w.alloc (.cells [vB v].toArray e)) ?_ fun a' hF' => h _ a' _ hF' (hS.alloc _)
  have := run_buildSlice (P := P) w t e 1 #[(0, vB v)] [vB v].toArray i (.int .u8 0) ht h1 h2 (by rw [h3]; decide) (by rw [h3]; decide) (by
    rw [h3, show (Array.range (1 * 1)).map (fun j => (Value.int .u8 0).cells[j % (Value.int .u8 0).cells.size]!) = #[.int .u8 0] from by rw [show Array.range (1 * 1) = #[0] from by decide]; simp [Value.cells]]
    refine (fill_cons (place := fun i => some (i * 1, 1)) (v := vB v) (i := 0) (rest := []) (zs := [.int .u8 0]) (vs := [vB v]) (off := 0) rfl rfl (by simp)).trans ?_
    rw [fill_nil]; rfl)
  simp [execOp, ho, hz, this]
end
end Go.Fw
namespace Go.Fw
open Go Go.RowKit
section
variable {P : Program} {N : Nat} {a : Act} {w w0 : World} {m : List (Nat × Value)} {H : List Ent} {o : Oper} {ops : Array Oper} {K : Act → World → Prop} {Q : Exit → Act → World → Prop} {x y : Operand} {t t' d s e : TypeId}
/-- A head with two operations that lay new memory. -/
theorem run_head2 {n0 n : Nat} (l : List Oper) (i1 d1 i2 d2 : Nat) (o1 o2 : Oper) (R1 R2 : Value → World → Prop) (hF : Fr N a m) (hB : headB ops N n0 n [i1, i2] = true) (hl : (ops.toList.drop n0).take (n - n0) = l) (ho1 : ops[i1]? = some o1) (hd1 : o1.dst = some d1) (hR1 : Lasts R1)
    (ho2 : ops[i2]? = some o2) (hd2 : o2.dst = some d2) (hR2 : Lasts R2) (hi : i1 ≠ i2) (hdd : d1 ≠ d2)
    (h : dwalk P ops w [i1, i2] (fun A => (FO P w o1 A R1 ∧ FO P w o2 A R2) ∧ ∀ a' w' v v', R1 v w' → R2 v' w' → (∀ mm, Fr N A mm → Fr N a' ((d1, v) :: (d2, v') :: mm)) → Ext w w' → Run P ops Q n a' w') n0 l a) (h1 : n0 ≤ i1) (h2 : i1 < n) (h3 : n0 ≤ i2) (h4 : i2 < n) : Run P ops Q n0 a w := by
  have hin : ∀ i, i ∈ [i1, i2] → i = i1 ∨ i = i2 := fun i hi => by simpa using hi
  refine run_head N n0 n [i1, i2] (fun i => if i = i1 then R1 else R2) l hB hl hF.size (fun j => by
    show Lasts (if j = i1 then R1 else R2)
    split
    · exact hR1
    · exact hR2)
    (dwalk_mono (fun A hA => ⟨fun i o _ _ ho hf => ?_, fun a' w' hx hs hd hsl hr => ?_⟩) _ _ _ h)
  · rcases hin i hf with rfl | rfl
    · have : o = o1 := Option.some.inj (ho.symm.trans ho1)
      subst this
      show FO P w o A (if i = i then R1 else R2)
      rw [if_pos rfl]; exact hA.1.1
    · have : o = o2 := Option.some.inj (ho.symm.trans ho2)
      subst this
      show FO P w o A (if i = i1 then R1 else R2)
      rw [if_neg (Ne.symm hi)]; exact hA.1.2
  · have q1 := hr i1 o1 d1 h1 h2 ho1 (by simp) hd1
    have q2 := hr i2 o2 d2 h3 h4 ho2 (by simp) hd2
    simp only [if_true] at q1
    simp only [if_neg (Ne.symm hi)] at q2
    refine hA.2 a' w' (slot a' d1) (slot a' d2) q1 q2 (fun mm hm => ⟨hs, hd.trans hF.dfs, fun t v hv => ?_⟩) hx
    by_cases ht : t = d1
    · subst ht
      rw [look_cons_eq] at hv
      injection hv
    · rw [look_cons_ne ht] at hv
      by_cases ht2 : t = d2
      · subst ht2
        rw [look_cons_eq] at hv
        injection hv
      · rw [look_cons_ne ht2] at hv
        rw [hsl t fun i o _ _ ho hf hdt => ?_]
        · exact hm.get t v hv
        · rcases hin i hf with rfl | rfl
          · have : o = o1 := Option.some.inj (ho.symm.trans ho1)
            subst this
            rw [hd1] at hdt
            injection hdt with hdt
            exact ht hdt.symm
          · have : o = o2 := Option.some.inj (ho.symm.trans ho2)
            subst this
            rw [hd2] at hdt
            injection hdt with hdt
            exact ht2 hdt.symm
/-- A new slice of zeros, to be read. -/
def FlR (xs : List Value) : Value → World → Prop := fun v w => Rd w v xs
theorem FlR.lasts (xs : List Value) : Lasts (FlR xs) := fun v w1 w2 h hx => h.ext hx
theorem fo_makeR {z : Value} {by_ n : Nat} (ho : o.op = .makeSlice t x y) (ht : P.underlying t = some (.slice e)) (hy : Ty P e z 1 by_) (hz : z.cells = #[z]) (hx : a.eval x = vI n) (hx' : a.eval y = vI n) (hb : by_ * n ≤ 140737488355328) (hn : n ≤ 140737488355328) : FO P w o a (FlR (List.replicate n z)) := fun w1 hw => by
  rcases fo_make ho ht hy hz hx hx' hb hn w1 hw with ⟨v, w2, h1, h2, b, rfl, h3, h4⟩ | ⟨f, args, h1, h2⟩
  · refine .inl ⟨_, w2, h1, h2, ?_⟩
    have := (St.first h4).rdOf (k := 0) rfl 0 n n (by simp) (Nat.le_refl _) (by omega)
    simpa [FlR] using this
  · refine .inr ⟨f, args, h1, h2.mono fun e w' ⟨v, he, hx, b, hv, hb, hh⟩ => ⟨v, he, hx, ?_⟩⟩
    subst hv
    have := (St.first hh).rdOf (k := 0) rfl 0 n n (by simp) (Nat.le_refl _) (by omega)
    simpa [FlR] using this
end
end Go.Fw
namespace Go.Fw
open Go Go.RowKit
section
variable {w w0 : World} {H : List Ent}
theorem rd_own_take {nw : Bool} {ob : Option Nat} {t : TypeId} {l : List UInt8} {pad : List Value} {hi n : Nat} (hS : St w0 w H) (he : ⟨nw, ob, blk t (l.map vB ++ pad)⟩ ∈ H) (hnw : ∀ e ∈ H, e.nw = true) (hob : ob = none → l = [] ∧ pad = []) (hl : l.length = n) (hc : n + pad.length ≤ 9223372036854775807) (hh : hi ≤ n) :
    Rd w (ownV ob hi (n + pad.length)) ((l.take hi).map vB) := by
  subst hl
  have h := (SRd.own (w0 := w0) (T := H) he (fun h => ⟨by rw [(hob h).1]; rfl, (hob h).2⟩) (by simpa using hc)) w H hS hnw (fun e h => h)
  rw [List.length_map] at h
  obtain ⟨A, h1, h2⟩ := ownV_pos (ob := ob) (n := l.length) (c := l.length + pad.length) (hi := hi) (fun h => by rw [(hob h).1, (hob h).2]; exact ⟨rfl, rfl⟩) (by omega)
  rw [h1] at h
  rw [h2, List.map_take]
  exact h.cutHi hh
theorem rd_own {nw : Bool} {ob : Option Nat} {t : TypeId} {l : List UInt8} {pad : List Value} {n : Nat} (hS : St w0 w H) (he : ⟨nw, ob, blk t (l.map vB ++ pad)⟩ ∈ H) (hnw : ∀ e ∈ H, e.nw = true) (hob : ob = none → l = [] ∧ pad = []) (hl : l.length = n) (hc : n + pad.length ≤ 9223372036854775807) :
    Rd w (ownV ob n (n + pad.length)) (l.map vB) := by
  subst hl
  have := rd_own_take hS he hnw hob rfl hc (Nat.le_refl _)
  rwa [List.take_length] at this
theorem rd_blkB {nw : Bool} {b n : Nat} {t : TypeId} {l : List UInt8} (hS : St w0 w H) (he : ⟨nw, some b, blkB t l⟩ ∈ H) (hl : l.length = n) (hn : n ≤ 9223372036854775807) : Rd w (.slice (some ⟨b, 0, none⟩) n n) (l.map vB) := by
  obtain ⟨k, hk⟩ := List.getElem?_of_mem he
  have := hS.rdOf hk 0 n n (by simp [hl]) (Nat.le_refl _) hn
  rwa [List.drop_zero, List.take_of_length_le (by simp [hl])] at this
/-- What a call returns can be read; the rest stands. -/
def RetRd (w : World) (l : List UInt8) : Ending → World → Prop := fun e w' => ∃ v, e = .returned v ∧ Rd w' v (l.map vB) ∧ Ext w w'
theorem rep_vB (n : Nat) : List.replicate n (Value.int .u8 0) = (List.replicate n (0 : UInt8)).map vB := by
  rw [List.map_replicate]; rfl
end
end Go.Fw
namespace Go.Fw
open Go Go.RowKit
section
variable {P : Program} {a : Act} {w : World} {o : Oper} {t e : TypeId}
theorem fo_build1 {v : UInt8} {z : Operand} (ho : o.op = .buildSlice t 1 #[(0, z)]) (ht : P.underlying t = some (.slice e)) {by_ : Nat} (hty : Ty P e (.int .u8 0) 1 by_) (hz : a.eval z = vB v) : FO P w o a (FlS w e 1 [vB v]) := fun w1 hx => by
  obtain ⟨i, h1, h2, h3, h4⟩ := hty.get
  have := run_buildSlice (P := P) w1 t e 1 #[(0, vB v)] [vB v].toArray i (.int .u8 0) ht h1 h2 (by rw [h3]; decide) (by rw [h3]; decide) (by
    rw [h3, show (Array.range (1 * 1)).map (fun j => (Value.int .u8 0).cells[j % (Value.int .u8 0).cells.size]!) = #[.int .u8 0] from by rw [show Array.range (1 * 1) = #[0] from by decide]; simp [Value.cells]]
    refine (fill_cons (place := fun i => some (i * 1, 1)) (v := vB v) (i := 0) (rest := []) (zs := [.int .u8 0]) (vs := [vB v]) (off := 0) rfl rfl (by simp)).trans ?_
    rw [fill_nil]; rfl)
  refine .inl ⟨_, _, ?_, Ext.alloc w1 _, w1.heap.size, rfl, hx.size, ((St.refl w1).alloc (blk e [vB v])).has _ List.mem_cons_self _ rfl⟩
  simp [execOp, ho, hz, this]
  rfl
end
end Go.Fw
namespace Go.Fw
open Go Go.RowKit
section
variable {P : Program} {a : Act} {w : World} {o : Oper} {x y : Operand} {t t' e : TypeId}
theorem gv_strEqlT {l l' : List UInt8} (ho : o.op = .binOp .eql t x y t') (hx : a.eval x = sV l) (hy : a.eval y = sV l') (h : l = l') : Gv P o a w (.bool true) := by
  have := gv_strEql (P := P) (w := w) ho hx hy; rwa [decide_eq_true h] at this
theorem gv_strNeqF {l l' : List UInt8} (ho : o.op = .binOp .neq t x y t') (hx : a.eval x = sV l) (hy : a.eval y = sV l') (h : l = l') : Gv P o a w (.bool false) := by
  have := gv_strNeq (P := P) (w := w) ho hx hy; rwa [decide_eq_false (fun g => g h)] at this
theorem gv_aggEqlT {l l' : List UInt8} {n : Nat} (ho : o.op = .binOp .eql t x y t') (ht : P.underlying t = some (.array n e)) (he : P.underlying e = some (.int .u8)) (hz : (P.info? e).map (·.size) = some 1) (hq : P.eqGuardType P.depth t = false) (hx : a.eval x = .agg (l.map vB).toArray) (hy : a.eval y = .agg (l'.map vB).toArray) (h1 : l.length = n) (h2 : l'.length = n) (h : l = l') : Gv P o a w (.bool true) := by
  have := gv_aggEql (P := P) (w := w) ho ht he hz hq hx hy h1 h2; rwa [decide_eq_true h] at this
end
end Go.Fw
set_option linter.unusedVariables false
set_option linter.unusedSimpArgs false
namespace Go.Fw
open Go Go.RowKit Go.ChangeShapes Go.WideShapes
theorem table_u64 {H : Type} {enc : TypeId × Value → H} {P : Program} {w : World} {base : Nat} {spare : Nat → Bool} {held : Bool} {fuel : Nat} {t e : TypeId} {n : Nat} {cs : List Value} {l : List UInt64} {p : List MemPlace} (ht : P.underlying t = some (.array n e)) (he : P.underlying e = some (.int .u64)) (hc : P.cellsOf e = 1) (hl : l.length = n)
    (h : DataW.trod enc P w base spare held fuel t cs = some (.agg (l.map fun x => .lit (.int .u64 (x.toNat : Int))), p)) : ∀ i, i < n → cs[i]? = some (vD (l.getD i 0)) := by
  intro i hi
  obtain ⟨xs, m, _, hx, _, hn, hel⟩ := DataW.trod_array ht h
  simp only [Prod.mk.injEq, DataW.agg.injEq] at hx
  have hi' := hel i hi
  rw [hc, Nat.mul_one, List.getElem?_eq_getElem (by omega)] at hi'
  obtain ⟨k, e1, e2, _⟩ := DataW.trod_int he hi'
  have hd : (l.map fun x => (DataW.lit (.int .u64 (x.toNat : Int)) : DataW H))[i]? = some (xs[i].1) := by rw [hx.1, List.getElem?_map, List.getElem?_eq_getElem (by omega)]; rfl
  rw [List.getElem?_map, List.getElem?_eq_getElem (by omega)] at hd
  simp only [Option.map_some, Option.some.injEq] at hd
  rw [e2] at hd
  injection hd with hd
  injection hd with _ hd
  have h1 : ((cs.drop i).take 1)[0]? = some (.int .u64 k) := by rw [e1]; rfl
  rw [List.getElem?_take, if_pos (by omega), List.getElem?_drop, Nat.add_zero] at h1
  rw [h1, ← hd, vD, List.getD_eq_getElem?_getD, List.getElem?_eq_getElem (by omega)]
  rfl
end Go.Fw
namespace Go.Fw
open Go Go.RowKit Go.ChangeShapes Go.WideShapes
theorem open_boolW {P : Program} {w : World} {r : Reach} {base : Nat} {t : TypeId} {v : Value} (ht : P.underlying t = some .bool) (h : Value.okWide P w r base t v) : ∃ b : Bool, v = .bool b := by
  simp only [Value.okWide, ht, Cell.okWide] at h
  cases v <;> simp [Cell.ok, ht] at h
  exact ⟨_, rfl⟩
theorem open_strW {P : Program} {w : World} {r : Reach} {base : Nat} {t : TypeId} {v : Value} (ht : P.underlying t = some .string) (h : Value.okWide P w r base t v) : ∃ l : List UInt8, v = sV l := by
  simp only [Value.okWide, ht, Cell.okWide] at h
  cases v with
  | string s => exact ⟨s.data.toList, by rw [sV]⟩
  | _ => simp [Cell.ok, ht] at h
end Go.Fw
