/- What is proved: lemmas and contracts, part 1 of what the theorem of YtfhalnobaeogkaaDoorPackPR leans on. No further condition. -/
import Derived.Test.YtfhalnobaeogkaaDoorProg
import Derived.Test.YtfhalnobaeogkaaDoorRows
import Derived.Below
import Derived.ChangeOld
import Derived.Deep.SlicePairs
import Derived.Deep.Slices
import Derived.Great.BuildSlice
import Derived.KernelRfl
import Derived.LaidMore
import Derived.Laws.Build
import Derived.Laws.BytesArg
import Derived.Laws.IdiomCopy
import Derived.Laws.StructEq
import Derived.Lib.ConvBytes
import Derived.Maps.AppendAt
import Derived.OpenShut
import Derived.ProofKit
import Derived.SevenTiedAt
import Derived.ShutString
import Derived.SizedLaws
import Derived.Stop.BytesEq
import Derived.Stop.Joined
import Derived.WalkKit
namespace Go.Fw
open Go Go.RowKit
abbrev Ext (w w' : World) : Prop := Below w.heap.size w w'
theorem Ext.refl (w : World) : Ext w w := Below.refl _ _
theorem Ext.trans {a b c : World} (h : Ext a b) (k : Ext b c) : Ext a c := Below.trans h (k.mono h.size)
theorem Ext.drew (w : World) : Ext w { w with drawn := w.drawn + 1 } := ⟨rfl, rfl, rfl, Nat.le_refl _, fun _ _ => rfl⟩
theorem Ext.alloc (w : World) (o : Obj) : Ext w (w.alloc o) := Below.alloc (Below.refl _ _) (Nat.le_refl _) o
def slot (a : Act) (t : Nat) : Value := a.tmps.getD t undef
theorem put_size (a : Act) (x : Option Tmp) (v : Value) : (a.put x v).tmps.size = a.tmps.size := by cases x <;> simp [Act.put]
theorem put_defers (a : Act) (x : Option Tmp) (v : Value) : (a.put x v).defers = a.defers := by cases x <;> simp [Act.put]
theorem slot_put_same {a : Act} {d : Nat} (v : Value) (h : d < a.tmps.size) : slot (a.put (some d) v) d = v := by
 simp [slot, Act.put, Array.getD, h]
theorem slot_put_ne {a : Act} {x : Option Tmp} (v : Value) {t : Nat} (h : x ≠ some t) : slot (a.put x v) t = slot a t := by
 cases x with
 | none => rfl
 | some d =>
  have hne : d ≠ t := fun e => h (by rw [e])
  simp [slot, Act.put, Array.getD_eq_getD_getElem?, Array.getElem?_setIfInBounds_ne hne]
section
variable {P : Program} {ops : Array Oper} {Q : Exit → Act → World → Prop}
theorem eval_same {a b : Act} {o : Oper} (h : ∀ t ∈ o.looksAt ops, slot a t = slot b t) : ∀ x ∈ o.op.operands, a.eval x = b.eval x := by
 intro x hx
 cases x with
 | tmp t =>
  refine h t (List.mem_append.2 (.inl (List.mem_filterMap.2 ⟨.tmp t, by simpa using hx, rfl⟩)))
 | _ => rfl
theorem wanted_same {a b : Act} {o : Oper} (hs : a.tmps.size = b.tmps.size) (h : ∀ t ∈ o.looksAt ops, slot a t = slot b t) :
  Region.wanted o (yielded ops a.tmps) = Region.wanted o (yielded ops b.tmps) := by
 unfold Region.wanted
 cases hg : o.guard with
 | none => rfl
 | some g =>
  obtain ⟨j, want⟩ := g
  have : yielded ops a.tmps j = yielded ops b.tmps j := by
   unfold yielded
   cases hd : (ops[j]?).bind (·.dst) with
   | none => rfl
   | some t =>
    have hm : t ∈ o.looksAt ops := List.mem_append.2 (.inr (by simp [hg, hd]))
    have he := h t hm
    have : a.tmps[t]? = b.tmps[t]? := by
     simp only [slot, Array.getD_eq_getD_getElem?] at he
     by_cases ht : t < a.tmps.size
     ·
      have ht' : t < b.tmps.size := hs ▸ ht
      simp only [Array.getElem?_eq_getElem ht, Array.getElem?_eq_getElem ht', Option.getD_some] at he ⊢
      rw [he]
     ·
      rw [Array.getElem?_eq_none (Nat.le_of_not_lt ht), Array.getElem?_eq_none (Nat.le_of_not_lt (hs ▸ ht))]
    simp [this]
  simp only [this]
def DQ (P : Program) (w0 : World) (o : Oper) (a : Act) (v : Value) : Prop :=
 ∀ w, Ext w0 w → (execOp a.eval o).run P w = .ok (.value v) w ∨ ((execOp a.eval o).run P w = .ok .skip w ∧ v = undef) ∨
  ∃ f args, (execOp a.eval o).run P w = .ok (.enter f args) w ∧ Calls P f args w (fun e w' => e = .returned v ∧ Ext w w')
def FO (P : Program) (w0 : World) (o : Oper) (a : Act) (R : Value → World → Prop) : Prop :=
 ∀ w, Ext w0 w → (∃ v w', (execOp a.eval o).run P w = .ok (.value v) w' ∧ Ext w w' ∧ R v w') ∨
  ∃ f args, (execOp a.eval o).run P w = .ok (.enter f args) w ∧ Calls P f args w (fun e w' => ∃ v, e = .returned v ∧ Ext w w' ∧ R v w')
def Lasts (R : Value → World → Prop) : Prop := ∀ v w w', R v w → Ext w w' → R v w'
def dwalk (P : Program) (ops : Array Oper) (w0 : World) (fl : List Nat) (K : Act → Prop) : Nat → List Oper → Act → Prop
 | _, [], a => K a
 | i, o :: rest, a =>
  if i ∈ fl then dwalk P ops w0 fl K (i + 1) rest a
  else (Region.wanted o (yielded ops a.tmps) = true ∧ ∃ v, DQ P w0 o a v ∧ dwalk P ops w0 fl K (i + 1) rest (a.put o.dst v)) ∨
   (Region.wanted o (yielded ops a.tmps) = false ∧ dwalk P ops w0 fl K (i + 1) rest (a.put o.dst undef))
def waits (ops : Array Oper) (j i : Nat) : Bool :=
 match ops[j]? with
 | some o => o.after.any fun e => Region.binds .any e && e.on == i
 | none => false
theorem waits_spec {j i : Nat} {o : Oper} (ho : ops[j]? = some o) (h : waits ops j i = true) : ∃ e ∈ o.after, Region.binds .any e = true ∧ e.on = i := by
 unfold waits at h
 rw [ho] at h
 obtain ⟨e, he, hb⟩ := Array.any_eq_true'.1 h
 simp only [Bool.and_eq_true, beq_iff_eq] at hb
 exact ⟨e, he, hb.1, hb.2⟩
def headB (ops : Array Oper) (N m n : Nat) (fl : List Nat) : Bool :=
 Region.noSelect ops && (decide (m ≤ n) && (decide (n ≤ ops.size) &&
 (((List.range n).all fun i => decide (i < m) ||
  match ops[i]? with
  | none => false
  | some o =>
   (match o.dst with | some d => decide (d < N) | none => true) &&
   ((o.after.toList.all fun e => !Region.binds .any e || decide (e.on < i)) &&
   ((!fl.contains i || (o.guard.isNone && o.dst.isSome)) &&
   (((List.range n).all fun j => decide (j < m) ||
    match ops[j]? with
    | none => false
    | some p => match p.dst with
     | none => true
     | some d => (!(o.looksAt ops).contains d || (decide (j < i) && (waits ops i j && !fl.contains j))) && (j == i || o.dst != some d)) &&
   (n == ops.size || ((List.range (n + 1)).any fun j => decide (i < j) && waits ops j i)))))) &&
 ((List.range ops.size).all fun t => decide (t ≤ n) || ((List.range t).any fun s => decide (n ≤ s) && waits ops t s)))))
structure HOk (ops : Array Oper) (N m n : Nat) (fl : List Nat) : Prop where
 nosel : Region.noSelect ops = true
 mn : m ≤ n
 ns : n ≤ ops.size
 dst : ∀ i o d, m ≤ i → i < n → ops[i]? = some o → o.dst = some d → d < N
 back : ∀ i o, m ≤ i → i < n → ops[i]? = some o → ∀ e ∈ o.after, Region.binds .any e = true → e.on < i
 flo : ∀ i o, m ≤ i → i < n → ops[i]? = some o → i ∈ fl → o.guard = none ∧ ∃ d, o.dst = some d
 look : ∀ i o j p d, m ≤ i → i < n → ops[i]? = some o → m ≤ j → j < n → ops[j]? = some p → p.dst = some d → d ∈ o.looksAt ops → j < i ∧ waits ops i j = true ∧ j ∉ fl
 once : ∀ i o j p d, m ≤ i → i < n → ops[i]? = some o → m ≤ j → j < n → ops[j]? = some p → j ≠ i → p.dst = some d → o.dst ≠ some d
 sink : n < ops.size → ∀ i, m ≤ i → i < n → ∃ j, j ≤ n ∧ i < j ∧ waits ops j i = true
 tail : ∀ t, n < t → t < ops.size → ∃ s, n ≤ s ∧ s < t ∧ waits ops t s = true
theorem headB_spec {N m n : Nat} {fl : List Nat} (h : headB ops N m n fl = true) : HOk ops N m n fl := by
 simp only [headB, Bool.and_eq_true, decide_eq_true_eq] at h
 obtain ⟨h1, h2, h3, h4, h5⟩ := h
 have key : ∀ i o, m ≤ i → i < n → ops[i]? = some o → _ := fun i o hm hn ho => by
  have := List.all_eq_true.1 h4 i (List.mem_range.2 hn)
  rw [ho] at this
  simp only [Bool.or_eq_true, decide_eq_true_eq, Bool.and_eq_true] at this
  exact this.resolve_left (by omega)
 have pair : ∀ i o j p d, m ≤ i → i < n → ops[i]? = some o → m ≤ j → j < n → ops[j]? = some p → p.dst = some d → _ := fun i o j p d hm hn ho hm' hn' hp hd => by
  have := List.all_eq_true.1 (key i o hm hn ho).2.2.2.1 j (List.mem_range.2 hn')
  rw [hp] at this
  simp only [Bool.or_eq_true, decide_eq_true_eq] at this
  have := this.resolve_left (by omega)
  rw [hd] at this
  simp only [Bool.and_eq_true] at this
  exact this
 refine ⟨h1, h2, h3, ?_, ?_, ?_, ?_, ?_, ?_, ?_⟩
 ·
  intro i o d hm hn ho hd
  have := (key i o hm hn ho).1
  rw [hd] at this
  simpa using this
 ·
  intro i o hm hn ho e he hb
  have := List.all_eq_true.1 (key i o hm hn ho).2.1 e (by simpa using he)
  simpa [hb] using this
 ·
  intro i o hm hn ho hf
  have := (key i o hm hn ho).2.2.1
  simp only [Bool.not_eq_true', List.contains_eq_mem, decide_eq_false_iff_not] at this
  have := this.resolve_left (fun h => h hf)
  exact ⟨by simpa using this.1, Option.isSome_iff_exists.1 this.2⟩
 ·
  intro i o j p d hm hn ho hm' hn' hp hd hl
  have := (pair i o j p d hm hn ho hm' hn' hp hd).1
  simp only [Bool.or_eq_true, Bool.not_eq_true', List.contains_eq_mem, decide_eq_false_iff_not, Bool.and_eq_true, decide_eq_true_eq] at this
  have := this.resolve_left (fun h => h hl)
  exact this
 ·
  intro i o j p d hm hn ho hm' hn' hp hne hd
  have := (pair i o j p d hm hn ho hm' hn' hp hd).2
  simp only [Bool.or_eq_true, beq_iff_eq, bne_iff_ne] at this
  exact this.resolve_left hne
 ·
  intro hlt i hm hn
  cases ho : ops[i]? with
  | none => have := Array.getElem?_eq_none_iff.1 ho; omega
  | some o =>
   have := (key i o hm hn ho).2.2.2.2
   simp only [beq_iff_eq] at this
   have := this.resolve_left (by omega)
   obtain ⟨j, hj, hj'⟩ := List.any_eq_true.1 this
   simp only [Bool.and_eq_true, decide_eq_true_eq] at hj'
   have := List.mem_range.1 hj
   exact ⟨j, by omega, hj'.1, hj'.2⟩
 ·
  intro t hn hs
  have := List.all_eq_true.1 h5 t (List.mem_range.2 hs)
  simp only [Bool.or_eq_true, decide_eq_true_eq] at this
  obtain ⟨s, hs, hs'⟩ := List.any_eq_true.1 (this.resolve_left (by omega))
  simp only [Bool.and_eq_true, decide_eq_true_eq] at hs'
  exact ⟨s, hs'.1, List.mem_range.1 hs, hs'.2⟩
structure HSpec (P : Program) (ops : Array Oper) (w0 : World) (m n : Nat) (fl : List Nat) (a0 A : Act) (val : Nat → Value) : Prop where
 size : A.tmps.size = a0.tmps.size
 dfs : A.defers = a0.defers
 un : ∀ t, (∀ j o, m ≤ j → j < n → ops[j]? = some o → j ∉ fl → o.dst ≠ some t) → slot A t = slot a0 t
 wr : ∀ j o d, m ≤ j → j < n → ops[j]? = some o → j ∉ fl → o.dst = some d → slot A d = val j
 ex : ∀ j o, m ≤ j → j < n → ops[j]? = some o → j ∉ fl →
  (Region.wanted o (yielded ops A.tmps) = true ∧ DQ P w0 o A (val j)) ∨ (Region.wanted o (yielded ops A.tmps) = false ∧ val j = undef)
theorem DQ.same {w0 : World} {o : Oper} {a b : Act} {v : Value} (hs : ∀ cs b, o.op ≠ .select cs b) (h : DQ P w0 o a v) (he : ∀ t ∈ o.looksAt ops, slot a t = slot b t) : DQ P w0 o b v := by
 intro w hw
 have := h w hw
 rwa [execOp_congr o hs (eval_same he)] at this
theorem FO.same {w0 : World} {o : Oper} {a b : Act} {R : Value → World → Prop} (hs : ∀ cs b, o.op ≠ .select cs b) (h : FO P w0 o a R) (he : ∀ t ∈ o.looksAt ops, slot a t = slot b t) : FO P w0 o b R := by
 intro w hw
 have := h w hw
 rwa [execOp_congr o hs (eval_same he)] at this
theorem dwalk_spec {w0 : World} {N m n : Nat} {fl : List Nat} (hok : HOk ops N m n fl) {K : Act → Prop} :
  ∀ (l : List Oper) (i : Nat) (a : Act), m ≤ i → i + l.length = n → (∀ j, j < l.length → l[j]? = ops[i + j]?) → a.tmps.size = N →
   dwalk P ops w0 fl K i l a → ∃ A val, K A ∧ HSpec P ops w0 i n fl a A val := by
 intro l
 induction l with
 | nil =>
  intro i a hm hl _ _ h
  simp only [List.length_nil] at hl
  exact ⟨a, fun _ => undef, h, ⟨rfl, rfl, fun _ _ => rfl, fun j o d h1 h2 => by omega, fun j o h1 h2 => by omega⟩⟩
 | cons o l ih =>
  intro i a hm hl hat hN h
  simp only [List.length_cons] at hl
  have ho : ops[i]? = some o := by have := hat 0 (by simp); simpa using this.symm
  have hat' : ∀ j, j < l.length → l[j]? = ops[i + 1 + j]? := fun j hj => by
   have := hat (j + 1) (by simp only [List.length_cons]; omega)
   simpa [Nat.add_assoc, Nat.add_comm 1 j] using this
  unfold dwalk at h
  by_cases hf : i ∈ fl
  ·
   rw [if_pos hf] at h
   obtain ⟨A, val, hK, S⟩ := ih (i + 1) a (by omega) (by omega) hat' hN h
   refine ⟨A, val, hK, ⟨S.size, S.dfs, fun t ht => S.un t fun j p hj hj' hp hnf => ht j p (by omega) hj' hp hnf, fun j p d hj hj' hp hnf hd => ?_, fun j p hj hj' hp hnf => ?_⟩⟩
   ·
    exact S.wr j p d (by have : j ≠ i := fun e => hnf (e ▸ hf); omega) hj' hp hnf hd
   ·
    exact S.ex j p (by have : j ≠ i := fun e => hnf (e ▸ hf); omega) hj' hp hnf
  ·
   rw [if_neg hf] at h
   have step : ∀ v, dwalk P ops w0 fl K (i + 1) l (a.put o.dst v) →
     ((Region.wanted o (yielded ops a.tmps) = true ∧ DQ P w0 o a v) ∨ (Region.wanted o (yielded ops a.tmps) = false ∧ v = undef)) → ∃ A val, K A ∧ HSpec P ops w0 i n fl a A val := by
    intro v hrest hex
    obtain ⟨A, val, hK, S⟩ := ih (i + 1) (a.put o.dst v) (by omega) (by omega) hat' (by rw [put_size]; exact hN) hrest
    have hsame : ∀ t ∈ o.looksAt ops, slot a t = slot A t := fun t ht => by
     rw [S.un t fun j p hj hj' hp hnf hd => by
      have := hok.look i o j p t hm (by omega) ho (by omega) hj' hp hd ht
      omega]
     refine (slot_put_ne v fun hd => ?_).symm
     have := hok.look i o i o t hm (by omega) ho hm (by omega) ho hd ht
     omega
    have hsz : a.tmps.size = A.tmps.size := by rw [S.size, put_size]
    refine ⟨A, fun j => if j = i then v else val j, hK, ⟨by rw [S.size, put_size], by rw [S.dfs, put_defers], fun t ht => ?_, fun j p d hj hj' hp hnf hd => ?_, fun j p hj hj' hp hnf => ?_⟩⟩
    ·
     rw [S.un t fun j p hj hj' hp hnf => ht j p (by omega) hj' hp hnf]
     exact slot_put_ne v (ht i o (Nat.le_refl _) (by omega) ho hf)
    ·
     by_cases hji : j = i
     ·
      subst hji
      have : p = o := Option.some.inj (hp.symm.trans ho)
      subst this
      simp only [if_true]
      rw [S.un d fun k q hk hk' hq hnf' hd' => by
       have := hok.once j p k q d hm hj' hp (by omega) hk' hq (by omega) hd'
       exact this hd]
      rw [hd]
      exact slot_put_same v (by rw [hN]; exact hok.dst j p d hm hj' hp hd)
     ·
      simp only [hji, if_false]
      exact S.wr j p d (by omega) hj' hp hnf hd
    ·
     by_cases hji : j = i
     ·
      subst hji
      have : p = o := Option.some.inj (hp.symm.trans ho)
      subst this
      simp only [if_true]
      rw [← wanted_same hsz hsame]
      rcases hex with ⟨h1, h2⟩ | h2
      ·
       exact .inl ⟨h1, h2.same (fun cs b => Region.noSelect_spec hok.nosel j p cs b hp) hsame⟩
      ·
       exact .inr h2
     ·
      simp only [hji, if_false]
      exact S.ex j p (by omega) hj' hp hnf
   rcases h with ⟨hw, v, hv, hrest⟩ | ⟨hw, hrest⟩
   ·
    exact step v hrest (.inl ⟨hw, hv⟩)
   ·
    exact step undef hrest (.inr ⟨hw, rfl⟩)
structure HInv (ops : Array Oper) (w0 : World) (N m n : Nat) (fl : List Nat) (R : Nat → Value → World → Prop) (a0 : Act) (val : Nat → Value) (listed : Array Bool) (a : Act) (w : World) : Prop where
 sz : listed.size = ops.size
 lo : ∀ j, j < m → listed.getD j false = true
 hi : ∀ j, n ≤ j → listed.getD j false = false
 cl : ∀ j o, ops[j]? = some o → m ≤ j → listed.getD j false = true → ∀ e ∈ o.after, Region.binds .any e = true → listed.getD e.on false = true
 ext : Ext w0 w
 tsz : a.tmps.size = N
 dfs : a.defers = a0.defers
 wrd : ∀ j o d, m ≤ j → j < n → ops[j]? = some o → o.dst = some d → listed.getD j false = true → j ∉ fl → slot a d = val j
 wrf : ∀ j o d, m ≤ j → j < n → ops[j]? = some o → o.dst = some d → listed.getD j false = true → j ∈ fl → R j (slot a d) w
 un : ∀ t, (∀ j o, m ≤ j → j < n → ops[j]? = some o → listed.getD j false = true → o.dst ≠ some t) → slot a t = slot a0 t
theorem getD_true_false {listed : Array Bool} {i : Nat} (h : i < listed.size) : listed.getD i true = listed.getD i false := by simp [Array.getD, h]
theorem getD_set_self {listed : Array Bool} {i : Nat} (h : i < listed.size) : (listed.setIfInBounds i true).getD i false = true := by simp [Array.getD, h]
theorem getD_set_other {listed : Array Bool} {i j : Nat} (h : i ≠ j) : (listed.setIfInBounds i true).getD j false = listed.getD j false := by
 simp [Array.getD_eq_getD_getElem?, Array.getElem?_setIfInBounds_ne h]
def upto (s m : Nat) : Array Bool := Array.ofFn (fun i : Fin s => decide (i.val < m))
theorem upto_size (s m : Nat) : (upto s m).size = s := by simp [upto]
theorem upto_getD (s m j : Nat) (d : Bool) : (upto s m).getD j d = if j < s then decide (j < m) else d := by
 by_cases h : j < s
 ·
  simp [upto, Array.getD, h]
 ·
  simp [upto, Array.getD, h]
theorem upto_zero (s : Nat) : upto s 0 = Array.replicate s false := by
 apply Array.ext
 ·
  simp [upto]
 ·
  intro i h1 h2
  simp [upto]
theorem upto_set (s m : Nat) : (upto s m).setIfInBounds m true = upto s (m + 1) := by
 apply Array.ext
 ·
  simp [upto]
 ·
  intro i h1 h2
  have h3 : i < s := by simpa [upto] using h2
  by_cases h : m = i
  ·
   subst h
   simp [upto]
  ·
   rw [Array.getElem_setIfInBounds_ne (h := h) (by simpa [upto] using h3)]
   simp only [upto, Array.getElem_ofFn]
   exact decide_eq_decide.2 ⟨fun _ => by omega, fun _ => by omega⟩
def Run (P : Program) (ops : Array Oper) (Q : Exit → Act → World → Prop) (m : Nat) (a : Act) (w : World) : Prop :=
 wpAny P .any ops Q (ops.size - m) (upto ops.size m) a w
theorem run_done {m : Nat} {a : Act} {w : World} (hm : ops.size ≤ m) (h : Q .normal a w) : Run P ops Q m a w := by
 unfold Run
 rw [Nat.sub_eq_zero_of_le hm]
 refine ⟨?_, h⟩
 apply List.eq_nil_iff_forall_not_mem.2
 intro j hj
 obtain ⟨h1, o, ho, _⟩ := mem_ready.1 hj
 have hlt : j < ops.size := (Array.getElem?_eq_some_iff.1 ho).1
 rw [upto_getD, if_pos hlt] at h1
 simp at h1
 omega
theorem run_seq {m : Nat} {a : Act} {w : World} (hr : Region.ready .any ops (upto ops.size m) = [m]) (h : wpOp P ops Q m (Run P ops Q (m + 1)) a w) : Run P ops Q m a w := by
 have hm : m ∈ Region.ready .any ops (upto ops.size m) := by rw [hr]; simp
 obtain ⟨_, o, ho, _⟩ := mem_ready.1 hm
 have hlt : m < ops.size := (Array.getElem?_eq_some_iff.1 ho).1
 unfold Run
 rw [show ops.size - m = (ops.size - (m + 1)) + 1 by omega]
 refine ⟨fun h0 => absurd (hr ▸ h0) (by simp), fun i hi => ?_⟩
 rw [hr] at hi
 have : i = m := by simpa using hi
 subst this
 rw [upto_set]
 exact h
theorem wp_region_run {id : Nat} {a : Act} {w : World} {l : List Oper} (hm : P.follows .mixedOrders = true) (h : Run P l.toArray Q 0 a { w with drawn := w.drawn + 1 }) : (Code.region id l.toArray true).wp P Q a w := by
 refine wp_region_any hm ?_
 have h' := h
 unfold Run at h'
 rw [upto_zero, Nat.sub_zero] at h'
 exact h'
section head
variable {w0 : World} {N m n : Nat} {fl : List Nat} {R : Nat → Value → World → Prop} {a0 A : Act} {val : Nat → Value}
theorem HInv.agree (hok : HOk ops N m n fl) (S : HSpec P ops w0 m n fl a0 A val) {listed : Array Bool} {a : Act} {w : World} (I : HInv ops w0 N m n fl R a0 val listed a w)
  {i : Nat} {o : Oper} (hm : m ≤ i) (hn : i < n) (ho : ops[i]? = some o) (hdep : ∀ e ∈ o.after, Region.binds .any e = true → listed.getD e.on false = true) :
  ∀ t ∈ o.looksAt ops, slot A t = slot a t := by
 intro t ht
 by_cases hex : ∃ j p, m ≤ j ∧ j < n ∧ ops[j]? = some p ∧ p.dst = some t
 ·
  obtain ⟨j, p, hj, hj', hp, hd⟩ := hex
  obtain ⟨_, hw, hnf⟩ := hok.look i o j p t hm hn ho hj hj' hp hd ht
  obtain ⟨e, he, hb, hon⟩ := waits_spec ho hw
  have hl := hdep e he hb
  rw [hon] at hl
  rw [S.wr j p t hj hj' hp hnf hd, I.wrd j p t hj hj' hp hd hl hnf]
 ·
  rw [S.un t fun j p hj hj' hp _ hd => hex ⟨j, p, hj, hj', hp, hd⟩, I.un t fun j p hj hj' hp _ hd => hex ⟨j, p, hj, hj', hp, hd⟩]
theorem HInv.next (hok : HOk ops N m n fl) (hR : ∀ j, Lasts (R j)) {listed : Array Bool} {a : Act} {w w' : World} (I : HInv ops w0 N m n fl R a0 val listed a w)
  {i : Nat} {o : Oper} {v : Value} (hm : m ≤ i) (hn : i < n) (ho : ops[i]? = some o) (hun : listed.getD i false = false)
  (hdep : ∀ e ∈ o.after, Region.binds .any e = true → listed.getD e.on false = true) (hx : Ext w w') (hvd : i ∉ fl → v = val i) (hvf : i ∈ fl → R i v w') :
  HInv ops w0 N m n fl R a0 val (listed.setIfInBounds i true) (a.put o.dst v) w' := by
 have hi : i < listed.size := by rw [I.sz]; exact (Array.getElem?_eq_some_iff.1 ho).1
 have hset : ∀ j, (listed.setIfInBounds i true).getD j false = true → j ≠ i → listed.getD j false = true := fun j h hne => by rwa [getD_set_other (Ne.symm hne)] at h
 have hmono : ∀ j, listed.getD j false = true → (listed.setIfInBounds i true).getD j false = true := fun j h => by
  by_cases hj : i = j
  ·
   subst hj; exact getD_set_self hi
  ·
   rwa [getD_set_other hj]
 have hkeep : ∀ j p d, m ≤ j → j < n → ops[j]? = some p → j ≠ i → p.dst = some d → slot (a.put o.dst v) d = slot a d := fun j p d hj hj' hp hne hd =>
  slot_put_ne v (hok.once i o j p d hm hn ho hj hj' hp hne hd)
 refine ⟨by simpa using I.sz, fun j hj => hmono j (I.lo j hj), fun j hj => ?_, fun j p hp hj hl e he hb => ?_, I.ext.trans hx, by rw [put_size]; exact I.tsz, by rw [put_defers]; exact I.dfs, fun j p d hj hj' hp hd hl hnf => ?_, fun j p d hj hj' hp hd hl hf => ?_, fun t ht => ?_⟩
 ·
  rw [getD_set_other (by omega)]; exact I.hi j hj
 ·
  by_cases hji : j = i
  ·
   subst hji
   have : p = o := Option.some.inj (hp.symm.trans ho)
   subst this
   exact hmono _ (hdep e he hb)
  ·
   exact hmono _ (I.cl j p hp hj (hset j hl hji) e he hb)
 ·
  by_cases hji : j = i
  ·
   subst hji
   have : p = o := Option.some.inj (hp.symm.trans ho)
   subst this
   rw [hd, slot_put_same v (by rw [I.tsz]; exact hok.dst j p d hj hj' hp hd)]
   exact hvd hnf
  ·
   rw [hkeep j p d hj hj' hp hji hd]
   exact I.wrd j p d hj hj' hp hd (hset j hl hji) hnf
 ·
  by_cases hji : j = i
  ·
   subst hji
   have : p = o := Option.some.inj (hp.symm.trans ho)
   subst this
   rw [hd, slot_put_same v (by rw [I.tsz]; exact hok.dst j p d hj hj' hp hd)]
   exact hvf hf
  ·
   rw [hkeep j p d hj hj' hp hji hd]
   exact hR j _ _ _ (I.wrf j p d hj hj' hp hd (hset j hl hji) hf) hx
 ·
  rw [slot_put_ne v (ht i o hm hn ho (getD_set_self hi))]
  exact I.un t fun j p hj hj' hp hl => ht j p hj hj' hp (hmono j hl)
theorem HInv.ready_lt (hok : HOk ops N m n fl) {listed : Array Bool} {a : Act} {w : World} (I : HInv ops w0 N m n fl R a0 val listed a w)
  {i : Nat} (hm : m ≤ i) (hn : i < n) (hun : listed.getD i false = false) : ∀ t ∈ Region.ready .any ops listed, m ≤ t ∧ t < n := by
 intro t ht
 obtain ⟨h1, o, ho, hall⟩ := mem_ready.1 ht
 have htl : t < ops.size := (Array.getElem?_eq_some_iff.1 ho).1
 rw [getD_true_false (by rw [I.sz]; exact htl)] at h1
 refine ⟨Nat.le_of_not_lt fun h => (by rw [I.lo t h] at h1; cases h1), Nat.lt_of_not_le fun hge => ?_⟩
 rcases Nat.lt_or_eq_of_le hge with hgt | heq
 ·
  obtain ⟨s, hs, _, hw⟩ := hok.tail t hgt htl
  obtain ⟨e, he, hb, hon⟩ := waits_spec ho hw
  have := hall e he hb
  rw [hon, I.hi s hs] at this
  cases this
 ·
  subst heq
  have key : ∀ k i, n - i = k → m ≤ i → i < n → listed.getD i false = false → False := by
   intro k
   induction k using Nat.strongRecOn with
   | _ k ih =>
    intro i hk hm hn hun
    obtain ⟨j, hj, hij, hw⟩ := hok.sink htl i hm hn
    rcases Nat.lt_or_eq_of_le hj with hlt | heq
    ·
     cases hl : listed.getD j false with
     | false => exact ih (n - j) (by omega) j rfl (by omega) hlt hl
     | true =>
      cases hp : ops[j]? with
      | none => have := Array.getElem?_eq_none_iff.1 hp; omega
      | some p =>
       obtain ⟨e, he, hb, hon⟩ := waits_spec hp hw
       have := I.cl j p hp (by omega) hl e he hb
       rw [hon, hun] at this
       cases this
    ·
     subst heq
     obtain ⟨e, he, hb, hon⟩ := waits_spec ho hw
     have := hall e he hb
     rw [hon, hun] at this
     cases this
  exact key _ i rfl hm hn hun
theorem HInv.some_ready (hok : HOk ops N m n fl) {listed : Array Bool} {a : Act} {w : World} (I : HInv ops w0 N m n fl R a0 val listed a w)
  {i : Nat} (hm : m ≤ i) (hn : i < n) (hun : listed.getD i false = false) : Region.ready .any ops listed ≠ [] := by
 have key : ∀ k i, i = k → m ≤ i → i < n → listed.getD i false = false → ∃ t, t ∈ Region.ready .any ops listed := by
  intro k
  induction k using Nat.strongRecOn with
  | _ k ih =>
   intro i hk hm hn hun
   subst hk
   cases ho : ops[i]? with
   | none => have := Array.getElem?_eq_none_iff.1 ho; have := hok.ns; omega
   | some o =>
    have hil : i < listed.size := by rw [I.sz]; exact (Array.getElem?_eq_some_iff.1 ho).1
    by_cases hall : ∀ e ∈ o.after, Region.binds .any e = true → listed.getD e.on false = true
    ·
     exact ⟨i, mem_ready.2 ⟨by rw [getD_true_false hil]; exact hun, o, ho, hall⟩⟩
    ·
     have : ∃ e ∈ o.after, Region.binds .any e = true ∧ listed.getD e.on false ≠ true := by
      apply Classical.byContradiction
      intro hno
      exact hall fun e he hb => Classical.byContradiction fun hc => hno ⟨e, he, hb, hc⟩
     obtain ⟨e, he, hb, hc⟩ := this
     have hlt := hok.back i o hm hn ho e he hb
     have hun' : listed.getD e.on false = false := by simpa using hc
     have hme : m ≤ e.on := Nat.le_of_not_lt fun h => (by rw [I.lo _ h] at hun'; cases hun')
     exact ih e.on hlt e.on rfl hme (by omega) hun'
 obtain ⟨t, ht⟩ := key i i rfl hm hn hun
 intro h0
 rw [h0] at ht
 cases ht
def open_ (m n : Nat) (listed : Array Bool) : Nat := ((List.range n).filter fun j => decide (m ≤ j) && !listed.getD j false).length
theorem open_set {listed : Array Bool} {i : Nat} (hm : m ≤ i) (hn : i < n) (hi : i < listed.size) (hun : listed.getD i false = false) : open_ m n listed = open_ m n (listed.setIfInBounds i true) + 1 := by
 unfold open_
 have key : ∀ l : List Nat, l.Nodup → i ∈ l → (l.filter fun j => decide (m ≤ j) && !listed.getD j false).length = (l.filter fun j => decide (m ≤ j) && !(listed.setIfInBounds i true).getD j false).length + 1 := by
  intro l
  induction l with
  | nil => intro _ h; cases h
  | cons x l ih =>
   intro hnd hmem
   obtain ⟨hx, hnd'⟩ := List.nodup_cons.1 hnd
   by_cases hxi : x = i
   ·
    subst hxi
    have hrest : l.filter (fun j => decide (m ≤ j) && !listed.getD j false) = l.filter (fun j => decide (m ≤ j) && !(listed.setIfInBounds x true).getD j false) :=
     List.filter_congr fun j hj => by rw [getD_set_other (fun e => hx (by rw [e]; exact hj))]
    rw [List.filter_cons_of_pos (by simp [hm, hun]), List.filter_cons_of_neg (by simp [hi]), hrest]
    rfl
   ·
    have hmem' : i ∈ l := (List.mem_cons.1 hmem).resolve_left (Ne.symm hxi)
    have hsame : (listed.setIfInBounds i true).getD x false = listed.getD x false := getD_set_other (Ne.symm hxi)
    have := ih hnd' hmem'
    rw [List.filter_cons, List.filter_cons, hsame]
    by_cases hp : (decide (m ≤ x) && !listed.getD x false) = true
    ·
     rw [if_pos hp, if_pos hp, List.length_cons, List.length_cons, this]
    ·
     rw [if_neg hp, if_neg hp, this]
 exact key _ List.nodup_range (List.mem_range.2 hn)
theorem open_zero {listed : Array Bool} (h : open_ m n listed = 0) : ∀ j, m ≤ j → j < n → listed.getD j false = true := by
 intro j hj hj'
 unfold open_ at h
 have := List.eq_nil_of_length_eq_zero h
 have hno := List.filter_eq_nil_iff.1 this j (List.mem_range.2 hj')
 simp [hj] at hno
 simpa [Array.getD_eq_getD_getElem?] using hno
theorem head_all (hok : HOk ops N m n fl) (hR : ∀ j, Lasts (R j)) (S : HSpec P ops w0 m n fl a0 A val) (hsz : A.tmps.size = N)
  (hfl : ∀ i o, m ≤ i → i < n → ops[i]? = some o → i ∈ fl → FO P w0 o A (R i))
  (hend : ∀ a w, HInv ops w0 N m n fl R a0 val (upto ops.size n) a w → Run P ops Q n a w) :
  ∀ (k : Nat) (listed : Array Bool) (a : Act) (w : World), open_ m n listed = k → HInv ops w0 N m n fl R a0 val listed a w → wpAny P .any ops Q (k + (ops.size - n)) listed a w := by
 intro k
 induction k with
 | zero =>
  intro listed a w hk I
  have hall := open_zero hk
  have : listed = upto ops.size n := by
   apply Array.ext
   ·
    rw [I.sz, upto_size]
   ·
    intro j h1 h2
    have h1' : listed.getD j false = listed[j] := by simp [Array.getD, h1]
    have h2' : (upto ops.size n).getD j false = (upto ops.size n)[j] := by simp [Array.getD, h2]
    rw [← h1', ← h2', upto_getD, if_pos (by rw [← I.sz]; exact h1)]
    by_cases hjn : j < n
    ·
     by_cases hjm : j < m
     ·
      rw [I.lo j hjm]; simp [hjn]
     ·
      rw [hall j (by omega) hjn]; simp [hjn]
    ·
     rw [I.hi j (by omega)]; simp [hjn]
  subst this
  rw [Nat.zero_add]
  exact hend a w I
 | succ k ih =>
  intro listed a w hk I
  have hex : ∃ i, m ≤ i ∧ i < n ∧ listed.getD i false = false := by
   apply Classical.byContradiction
   intro hno
   have : open_ m n listed = 0 := by
    unfold open_
    rw [List.filter_eq_nil_iff.2, List.length_nil]
    intro j hj hc
    simp only [Bool.and_eq_true, decide_eq_true_eq, Bool.not_eq_true'] at hc
    exact hno ⟨j, hc.1, List.mem_range.1 hj, hc.2⟩
   omega
  obtain ⟨i0, hm0, hn0, hun0⟩ := hex
  have hsel := fun j o ho cs b => Region.noSelect_spec hok.nosel j o cs b ho
  rw [show k + 1 + (ops.size - n) = (k + (ops.size - n)) + 1 by omega]
  refine ⟨fun h0 => absurd h0 (I.some_ready hok hm0 hn0 hun0), fun i hi => ?_⟩
  obtain ⟨hm, hn⟩ := I.ready_lt hok hm0 hn0 hun0 i hi
  obtain ⟨h1, o, ho, hdep⟩ := mem_ready.1 hi
  have hil : i < listed.size := by rw [I.sz]; exact (Array.getElem?_eq_some_iff.1 ho).1
  rw [getD_true_false hil] at h1
  have hag := I.agree hok S hm hn ho hdep
  have hop : open_ m n (listed.setIfInBounds i true) = k := by
   have := open_set hm hn hil h1
   omega
  have hwa := wanted_same (hsz.trans I.tsz.symm) hag
  have go : ∀ (v : Value) (w' : World), Ext w w' → (i ∉ fl → v = val i) → (i ∈ fl → R i v w') →
    wpAny P .any ops Q (k + (ops.size - n)) (listed.setIfInBounds i true) (a.put o.dst v) w' := fun v w' hx hd hf =>
   ih _ _ _ hop (I.next hok hR hm hn ho h1 hdep hx hd hf)
  unfold wpOp
  rw [ho]
  simp only
  by_cases hf : i ∈ fl
  ·
   obtain ⟨hg, _⟩ := hok.flo i o hm hn ho hf
   rw [if_pos (by simp [Region.wanted, hg])]
   refine .inl ?_
   have := ((hfl i o hm hn ho hf).same (fun cs b => hsel i o ho cs b) hag) w I.ext
   unfold Oper.wp
   rcases this with ⟨v, w', hr, hx, hv⟩ | ⟨f, args, hr, hc⟩
   ·
    rw [hr]
    exact go v w' hx (fun h => absurd hf h) fun _ => hv
   ·
    rw [hr]
    refine Calls.mono hc ?_
    rintro e w' ⟨v, rfl, hx, hv⟩
    exact go v w' hx (fun h => absurd hf h) fun _ => hv
  ·
   rcases S.ex i o hm hn ho hf with ⟨hw, hq⟩ | ⟨hw, hq⟩
   ·
    rw [if_pos (by rw [← hwa]; exact hw)]
    refine .inl ?_
    have := (hq.same (fun cs b => hsel i o ho cs b) hag) w I.ext
    unfold Oper.wp
    rcases this with hr | ⟨hr, hv⟩ | ⟨f, args, hr, hc⟩
    ·
     rw [hr]
     exact go _ w (Ext.refl w) (fun _ => rfl) fun h => absurd h hf
    ·
     rw [hr]
     exact go _ w (Ext.refl w) (fun _ => hv.symm) fun h => absurd h hf
    ·
     rw [hr]
     refine Calls.mono hc ?_
     rintro e w' ⟨rfl, hx⟩
     exact go _ w' hx (fun _ => rfl) fun h => absurd h hf
   ·
    rw [if_neg (by rw [← hwa, hw]; exact Bool.false_ne_true)]
    exact go _ w (Ext.refl w) (fun _ => hq.symm) fun h => absurd h hf
theorem run_head (N m n : Nat) (fl : List Nat) (R : Nat → Value → World → Prop) (l : List Oper) (hB : headB ops N m n fl = true) (hl : (ops.toList.drop m).take (n - m) = l) {a : Act} {w : World} (hN : a.tmps.size = N) (hR : ∀ j, Lasts (R j))
  (h : dwalk P ops w fl (fun A => (∀ i o, m ≤ i → i < n → ops[i]? = some o → i ∈ fl → FO P w o A (R i)) ∧
   ∀ a' w', Ext w w' → a'.tmps.size = N → a'.defers = a.defers →
    (∀ t, (∀ i o, m ≤ i → i < n → ops[i]? = some o → i ∈ fl → o.dst ≠ some t) → slot a' t = slot A t) →
    (∀ i o d, m ≤ i → i < n → ops[i]? = some o → i ∈ fl → o.dst = some d → R i (slot a' d) w') → Run P ops Q n a' w') m l a) : Run P ops Q m a w := by
 have hok := headB_spec hB
 have hlen : l.length = n - m := by rw [← hl]; have := hok.ns; simp; omega
 obtain ⟨A, val, ⟨hfl, hK⟩, S⟩ := dwalk_spec hok l m a (Nat.le_refl _) (by have := hok.mn; omega) (fun j hj => by
  rw [← hl, List.getElem?_take, if_pos (by omega), List.getElem?_drop]; simp) hN h
 have hsize : ops.size - m = (n - m) + (ops.size - n) := by have := hok.ns; have := hok.mn; omega
 unfold Run
 rw [hsize]
 refine head_all hok hR S (by rw [S.size, hN]) hfl (fun a' w' I => ?_) _ _ _ _ ?_ ⟨upto_size _ _, fun j hj => ?_, fun j hj => ?_, fun j o ho hm hl => ?_, Ext.refl w, hN, rfl, fun j o d hm hn ho hd hl => ?_, fun j o d hm hn ho hd hl => ?_, fun _ _ => rfl⟩
 ·
  have hall : ∀ j, j < n → (upto ops.size n).getD j false = true := fun j hj => by
   rw [upto_getD, if_pos (by have := hok.ns; omega)]; simp [hj]
  refine hK a' w' I.ext I.tsz I.dfs (fun t ht => ?_) (fun i o d hm hn ho hf hd => I.wrf i o d hm hn ho hd (hall i hn) hf)
  by_cases hex : ∃ j p, m ≤ j ∧ j < n ∧ ops[j]? = some p ∧ p.dst = some t
  ·
   obtain ⟨j, p, hj, hj', hp, hd⟩ := hex
   have hnf : j ∉ fl := fun hf => ht j p hj hj' hp hf hd
   rw [S.wr j p t hj hj' hp hnf hd, I.wrd j p t hj hj' hp hd (hall j hj') hnf]
  ·
   rw [S.un t fun j p hj hj' hp _ hd => hex ⟨j, p, hj, hj', hp, hd⟩, I.un t fun j p hj hj' hp _ hd => hex ⟨j, p, hj, hj', hp, hd⟩]
 ·
  unfold open_
  have : ((List.range n).filter fun j => decide (m ≤ j) && !(upto ops.size m).getD j false) = (List.range n).filter fun j => decide (m ≤ j) :=
   List.filter_congr fun j hj => by
    rw [upto_getD]
    have := hok.ns
    have := List.mem_range.1 hj
    rw [if_pos (by omega)]
    by_cases h : m ≤ j
    ·
     simp [h, show ¬ j < m by omega]
    ·
     simp [h]
  rw [this]
  have key : ∀ n, m ≤ n → ((List.range n).filter fun j => decide (m ≤ j)).length = n - m := by
   intro n
   induction n with
   | zero => intro _; simp
   | succ n ih =>
    intro h
    rw [List.range_succ, List.filter_append, List.length_append]
    by_cases hmn : m ≤ n
    ·
     rw [ih hmn]; simp [hmn]; omega
    ·
     have : m = n + 1 := by omega
     subst this
     rw [List.filter_eq_nil_iff.2 (fun j hj => by have := List.mem_range.1 hj; simp; omega)]
     simp
  exact key n hok.mn
 ·
  rw [upto_getD, if_pos (by have := hok.ns; have := hok.mn; omega)]; simp [hj]
 ·
  rw [upto_getD]
  split
  ·
   have := hok.mn; simp; omega
  ·
   rfl
 ·
  have := (Array.getElem?_eq_some_iff.1 ho).1
  rw [upto_getD, if_pos this] at hl
  simp at hl
  omega
 ·
  have := (Array.getElem?_eq_some_iff.1 ho).1
  rw [upto_getD, if_pos this] at hl
  simp at hl
  omega
 ·
  have := (Array.getElem?_eq_some_iff.1 ho).1
  rw [upto_getD, if_pos this] at hl
  simp at hl
  omega
end head
end
end Go.Fw
set_option linter.unusedVariables false
set_option linter.unusedSimpArgs false
namespace Go.Fw
open Go Go.RowKit
def look (t : Nat) : List (Nat × Value) → Option Value
 | [] => none
 | (k, v) :: l => bif Nat.beq t k then some v else look t l
structure Fr (N : Nat) (a : Act) (m : List (Nat × Value)) : Prop where
 size : a.tmps.size = N
 dfs : a.defers = []
 get : ∀ t v, look t m = some v → slot a t = v
theorem look_cons_ne {t d : Nat} {v : Value} {m : List (Nat × Value)} (h : t ≠ d) : look t ((d, v) :: m) = look t m := by
 have : Nat.beq t d = false := by
  cases hb : Nat.beq t d with
  | false => rfl
  | true => exact absurd (Nat.eq_of_beq_eq_true hb) h
 simp [look, this]
theorem look_cons_eq {d : Nat} {v : Value} {m : List (Nat × Value)} : look d ((d, v) :: m) = some v := by
 simp [look]
section
variable {N : Nat} {a : Act} {m : List (Nat × Value)}
theorem Fr.put (h : Fr N a m) {d : Nat} (v : Value) (hd : Nat.blt d N = true) : Fr N (a.put (some d) v) ((d, v) :: m) := by
 refine ⟨by rw [put_size]; exact h.size, by rw [put_defers]; exact h.dfs, fun t u ht => ?_⟩
 by_cases htd : t = d
 ·
  subst htd
  rw [look_cons_eq] at ht
  injection ht with ht
  rw [slot_put_same v (by rw [h.size]; simpa using hd), ht]
 ·
  rw [look_cons_ne htd] at ht
  rw [slot_put_ne v (by simp only [ne_eq, Option.some.injEq]; exact fun e => htd e.symm)]
  exact h.get t u ht
theorem ev_const (a : Act) (v : Value) : a.eval (.const v) = v := rfl
theorem Fr.t (h : Fr N a m) {t : Nat} {v : Value} (hl : look t m = some v) : a.eval (.tmp t) = v := h.get t v hl
def Sub : List (Nat × Value) → List (Nat × Value) → Prop
 | [], _ => True
 | (k, v) :: l, m => look k m = some v ∧ Sub l m
theorem Fr.sub (h : Fr N a m) {m' : List (Nat × Value)} (hs : Sub m' m) : Fr N a m' := by
 refine ⟨h.size, h.dfs, fun t v ht => ?_⟩
 induction m' with
 | nil => cases ht
 | cons p l ih =>
  obtain ⟨h1, h2⟩ := hs
  obtain ⟨d, u⟩ := p
  by_cases htd : t = d
  ·
   subst htd
   rw [look_cons_eq] at ht
   injection ht with ht
   subst ht
   exact h.get t u h1
  ·
   rw [look_cons_ne htd] at ht
   exact ih h2 ht
def pars : Nat → List Value → List (Nat × Value)
 | _, [] => []
 | i, v :: l => (i, v) :: pars (i + 1) l
theorem look_pars : ∀ (l : List Value) (i t : Nat) (v : Value), look t (pars i l) = some v → i ≤ t ∧ l[t - i]? = some v
 | [], _, _, _, h => by cases h
 | u :: l, i, t, v, h => by
  by_cases hti : t = i
  ·
   subst hti
   rw [pars, look_cons_eq] at h
   injection h with h
   subst h
   simp
  ·
   rw [pars, look_cons_ne hti] at h
   obtain ⟨h1, h2⟩ := look_pars l (i + 1) t v h
   refine ⟨by omega, ?_⟩
   rw [show t - i = (t - (i + 1)) + 1 by omega]
   simpa using h2
end
section
variable {P : Program}
theorem calls_start {f : FuncId} {fn : Func} {c : Code} {args : List Value} {w : World} {R : Ending → World → Prop} (N : Nat) (hf : P.funcs[f]? = some fn) (hb : fn.body = some c) (hN : fn.ntmps = N)
  (hl : Nat.ble args.length N = true) (h : ∀ a, Fr N a (pars 0 args) → c.wp P (bodyPost P fn R) a w) : Calls P f args.toArray w R := by
 refine calls_of_wp hf hb (h _ ⟨?_, rfl, fun t v ht => ?_⟩)
 ·
  have : args.length ≤ N := by simpa using hl
  simp [hN]; omega
 ·
  obtain ⟨_, h2⟩ := look_pars args 0 t v ht
  simp only [Nat.sub_zero] at h2
  have hlt : t < args.length := (List.getElem?_eq_some_iff.1 h2).1
  simp only [slot, Array.getD_eq_getD_getElem?]
  rw [Array.getElem?_append_left (by simpa using hlt)]
  simp [h2]
structure Ent where
 nw : Bool
 ob : Option Nat
 o : Obj
structure St (w0 w : World) (H : List Ent) : Prop where
 os : w.os = w0.os
 tape : w.tape = w0.tape
 output : w.output = w0.output
 size : w0.heap.size ≤ w.heap.size
 old : ∀ b, b < w0.heap.size → (∀ e ∈ H, e.nw = false → e.ob ≠ some b) → w.heap[b]? = w0.heap[b]?
 has : ∀ e ∈ H, ∀ b, e.ob = some b → w.heap[b]? = some e.o
 new : ∀ e ∈ H, e.nw = true → ∀ b, e.ob = some b → w0.heap.size ≤ b
 once : ∀ (i j : Nat) (ei ej : Ent) (b : Nat), H[i]? = some ei → H[j]? = some ej → ei.ob = some b → ej.ob = some b → i = j
theorem St.refl (w : World) : St w w [] :=
 ⟨rfl, rfl, rfl, Nat.le_refl _, fun _ _ _ => rfl, fun _ h => (by cases h), fun _ h => (by cases h), fun i _ _ _ _ h => (by simp at h)⟩
theorem heap_lt {w : World} {b : Nat} {o : Obj} (h : w.heap[b]? = some o) : b < w.heap.size := (Array.getElem?_eq_some_iff.1 h).1
theorem St.lt {w0 w : World} {H : List Ent} (h : St w0 w H) {e : Ent} (he : e ∈ H) {b : Nat} (hb : e.ob = some b) : b < w.heap.size := heap_lt (h.has e he b hb)
theorem St.ext {w0 w w' : World} {H : List Ent} (h : St w0 w H) (hx : Ext w w') : St w0 w' H :=
 ⟨hx.os.trans h.os, hx.tape.trans h.tape, hx.output.trans h.output, Nat.le_trans h.size hx.size,
  fun b hb hn => (hx.block b (Nat.lt_of_lt_of_le hb h.size)).trans (h.old b hb hn),
  fun e he b hb => (hx.block b (h.lt he hb)).trans (h.has e he b hb), h.new, h.once⟩
theorem St.toExt {w0 w : World} {H : List Ent} (h : St w0 w H) (hn : ∀ e ∈ H, e.nw = true) : Ext w0 w :=
 ⟨h.os, h.tape, h.output, h.size, fun b hb => h.old b hb fun e he hf => (by rw [hn e he] at hf; cases hf)⟩
theorem St.attach {w0 w w' : World} {H : List Ent} (h : St w0 w' H) (hlt : ∀ e ∈ H, ∀ b, e.ob = some b → b < w.heap.size) (hw : w0.heap.size ≤ w.heap.size) (ob : Option Nat) (o : Obj)
  (hb : ∀ b, ob = some b → w.heap.size ≤ b ∧ w'.heap[b]? = some o) : St w0 w' (⟨true, ob, o⟩ :: H) := by
 refine ⟨h.os, h.tape, h.output, h.size, fun b hb' hn => h.old b hb' fun e he => hn e (List.mem_cons_of_mem _ he), fun e he b hbe => ?_, fun e he hn b hbe => ?_, fun i j ei ej b hi hj hbi hbj => ?_⟩
 ·
  rcases List.mem_cons.1 he with rfl | he
  ·
   exact (hb b hbe).2
  ·
   exact h.has e he b hbe
 ·
  rcases List.mem_cons.1 he with rfl | he
  ·
   have := (hb b hbe).1; omega
  ·
   exact h.new e he hn b hbe
 ·
  have fresh : ∀ e ∈ H, ∀ b, e.ob = some b → ob ≠ some b := fun e he b hbe ho => by
   have := hlt e he b hbe
   have := (hb b ho).1
   omega
  cases i with
  | zero =>
   cases j with
   | zero => rfl
   | succ j =>
    simp only [List.getElem?_cons_zero, Option.some.injEq, List.getElem?_cons_succ] at hi hj
    subst hi
    exact absurd hbi (fresh ej (List.mem_of_getElem? hj) b hbj)
  | succ i =>
   cases j with
   | zero =>
    simp only [List.getElem?_cons_zero, Option.some.injEq, List.getElem?_cons_succ] at hi hj
    subst hj
    exact absurd hbj (fresh ei (List.mem_of_getElem? hi) b hbi)
   | succ j =>
    simp only [List.getElem?_cons_succ] at hi hj
    rw [h.once i j ei ej b hi hj hbi hbj]
theorem St.lts {w0 w : World} {H : List Ent} (h : St w0 w H) : ∀ e ∈ H, ∀ b, e.ob = some b → b < w.heap.size := fun _ he _ hb => h.lt he hb
theorem St.alloc {w0 w : World} {H : List Ent} (h : St w0 w H) (o : Obj) : St w0 (w.alloc o) (⟨true, some w.heap.size, o⟩ :: H) :=
 (h.ext (Ext.alloc w o)).attach h.lts h.size _ _ fun b hb => by
  injection hb with hb
  subst hb
  exact ⟨Nat.le_refl _, heap_alloc_new w o⟩
theorem St.turn {w0 w w' : World} {H : List Ent} (h : St w0 w H) {k : Nat} {nw : Bool} {b : Nat} {o o' : Obj} (hk : H[k]? = some ⟨nw, some b, o⟩)
  (hos : w'.os = w.os) (htape : w'.tape = w.tape) (hout : w'.output = w.output) (hsize : w.heap.size ≤ w'.heap.size) (hb : w'.heap[b]? = some o') (hx : ∀ c, c < w.heap.size → c ≠ b → w'.heap[c]? = w.heap[c]?) :
  St w0 w' (H.set k ⟨nw, some b, o'⟩) := by
 have hkl : k < H.length := (List.getElem?_eq_some_iff.1 hk).1
 have hat : ∀ i e, (H.set k ⟨nw, some b, o'⟩)[i]? = some e → (i = k ∧ e = ⟨nw, some b, o'⟩) ∨ (i ≠ k ∧ H[i]? = some e) := fun i e hi => by
  rw [List.getElem?_set] at hi
  by_cases hik : k = i
  ·
   subst hik
   rw [if_pos rfl, if_pos hkl] at hi
   injection hi with hi
   exact .inl ⟨rfl, hi.symm⟩
  ·
   rw [if_neg hik] at hi
   exact .inr ⟨fun e => hik e.symm, hi⟩
 have hmem : ∀ e ∈ H.set k ⟨nw, some b, o'⟩, ∃ i, (H.set k ⟨nw, some b, o'⟩)[i]? = some e := fun e he => List.getElem?_of_mem he
 refine ⟨hos.trans h.os, htape.trans h.tape, hout.trans h.output, Nat.le_trans h.size hsize, fun c hc hn => ?_, fun e he c hbe => ?_, fun e he hn c hbe => ?_, fun i j ei ej c hi hj hbi hbj => ?_⟩
 ·
  have hme : (⟨nw, some b, o'⟩ : Ent) ∈ H.set k ⟨nw, some b, o'⟩ := List.mem_of_getElem? (by rw [List.getElem?_set, if_pos rfl, if_pos hkl])
  have hcb : c ≠ b := by
   rintro rfl
   cases nw with
   | false => exact hn _ hme rfl rfl
   | true => have := h.new _ (List.mem_of_getElem? hk) rfl c rfl; omega
  rw [hx c (Nat.lt_of_lt_of_le hc h.size) hcb]
  refine h.old c hc fun e he hnf hec => ?_
  obtain ⟨i, hi⟩ := List.getElem?_of_mem he
  by_cases hik : i = k
  ·
   subst hik
   rw [hk] at hi
   injection hi with hi
   subst hi
   injection hec with hec
   exact hcb hec.symm
  ·
   exact hn e (List.mem_of_getElem? (i := i) (by rw [List.getElem?_set, if_neg (fun e => hik e.symm)]; exact hi)) hnf hec
 ·
  obtain ⟨i, hi⟩ := hmem e he
  rcases hat i e hi with ⟨rfl, rfl⟩ | ⟨hik, hi'⟩
  ·
   injection hbe with hbe; subst hbe; exact hb
  ·
   have hcb : c ≠ b := fun hcb => hik (h.once i k e _ c hi' hk hbe (by rw [hcb]))
   rw [hx c (h.lt (List.mem_of_getElem? hi') hbe) hcb]
   exact h.has e (List.mem_of_getElem? hi') c hbe
 ·
  obtain ⟨i, hi⟩ := hmem e he
  rcases hat i e hi with ⟨rfl, rfl⟩ | ⟨_, hi'⟩
  ·
   exact h.new _ (List.mem_of_getElem? hk) hn c hbe
  ·
   exact h.new e (List.mem_of_getElem? hi') hn c hbe
 ·
  have back : ∀ (i : Nat) (e : Ent), (H.set k ⟨nw, some b, o'⟩)[i]? = some e → ∃ e' : Ent, H[i]? = some e' ∧ e'.ob = e.ob := fun i e hi => by
   rcases hat i e hi with ⟨rfl, rfl⟩ | ⟨_, hi'⟩
   ·
    exact ⟨_, hk, rfl⟩
   ·
    exact ⟨e, hi', rfl⟩
  obtain ⟨ei', hi', he1⟩ := back i ei hi
  obtain ⟨ej', hj', he2⟩ := back j ej hj
  exact h.once i j ei' ej' c hi' hj' (he1.trans hbi) (he2.trans hbj)
theorem St.drop {w0 w : World} {e : Ent} {H : List Ent} (h : St w0 w (e :: H)) (hn : e.nw = true) : St w0 w H :=
 ⟨h.os, h.tape, h.output, h.size, fun b hb hne => h.old b hb fun d hd hf => by
   rcases List.mem_cons.1 hd with rfl | hd
   ·
    rw [hn] at hf; cases hf
   ·
    exact hne d hd hf,
  fun d hd => h.has d (List.mem_cons_of_mem _ hd), fun d hd => h.new d (List.mem_cons_of_mem _ hd),
  fun i j ei ej b hi hj => by
   intro h1 h2
   have := h.once (i + 1) (j + 1) ei ej b (by simpa using hi) (by simpa using hj) h1 h2
   omega⟩
theorem St.drop2 {w0 w : World} {d e : Ent} {H : List Ent} (h : St w0 w (d :: e :: H)) (hn : e.nw = true) : St w0 w (d :: H) := by
 refine ⟨h.os, h.tape, h.output, h.size, fun b hb hne => h.old b hb fun c hc hf => ?_, fun c hc => h.has c ?_, fun c hc => h.new c ?_, fun i j ei ej b hi hj h1 h2 => ?_⟩
 ·
  rcases List.mem_cons.1 hc with rfl | hc
  ·
   exact hne c (List.mem_cons_self) hf
  ·
   rcases List.mem_cons.1 hc with rfl | hc
   ·
    rw [hn] at hf; cases hf
   ·
    exact hne c (List.mem_cons_of_mem _ hc) hf
 ·
  rcases List.mem_cons.1 hc with rfl | hc
  ·
   exact List.mem_cons_self
  ·
   exact List.mem_cons_of_mem _ (List.mem_cons_of_mem _ hc)
 ·
  rcases List.mem_cons.1 hc with rfl | hc
  ·
   exact List.mem_cons_self
  ·
   exact List.mem_cons_of_mem _ (List.mem_cons_of_mem _ hc)
 ·
  have up : ∀ i x, (d :: H)[i]? = some x → (d :: e :: H)[if i = 0 then 0 else i + 1]? = some x := fun i x hx => by
   cases i with
   | zero => simpa using hx
   | succ i => simpa using hx
  have := h.once _ _ ei ej b (up i ei hi) (up j ej hj) h1 h2
  split at this <;> split at this <;> omega
def blk (t : TypeId) (cs : List Value) : Obj := .cells cs.toArray t (0, 0)
theorem cell_blk {w : World} {b i : Nat} {t : TypeId} {cs : List Value} {fr : Nat × Nat} (h : w.heap[b]? = some (.cells cs.toArray t fr)) : w.cell? ⟨b, i, none⟩ = cs[i]? := by
 simp [World.cell?, h]
theorem St.cell {w0 w : World} {H : List Ent} (h : St w0 w H) {k i : Nat} {nw : Bool} {b : Nat} {t : TypeId} {cs : List Value} {v : Value} (hk : H[k]? = some ⟨nw, some b, blk t cs⟩) (hv : cs[i]? = some v) : w.cell? ⟨b, i, none⟩ = some v :=
 (cell_blk (h.has _ (List.mem_of_getElem? hk) b rfl)).trans hv
structure Rd (w : World) (v : Value) (xs : List Value) : Prop where
 is : ∃ A c, v = .slice A xs.length c ∧ xs.length ≤ c ∧ c ≤ 9223372036854775807 ∧ (0 < xs.length → ∃ b o, A = some ⟨b, o, none⟩ ∧ ∀ i u, xs[i]? = some u → w.cell? ⟨b, o + i, none⟩ = some u)
def Value.at? : Value → Option Nat
 | .slice (some a) _ _ => some a.block
 | _ => none
theorem Rd.nil (w : World) : Rd w (.slice none 0 0) [] := ⟨none, 0, rfl, Nat.le_refl _, by omega, fun h => absurd h (by simp)⟩
theorem cell_lt {w : World} {b i : Nat} {u : Value} (h : w.cell? ⟨b, i, none⟩ = some u) : b < w.heap.size := by
 rcases Nat.lt_or_ge b w.heap.size with hlt | hge
 ·
  exact hlt
 ·
  simp [World.cell?, Array.getElem?_eq_none hge] at h
theorem cell_same {w w' : World} {b i : Nat} (h : w'.heap[b]? = w.heap[b]?) : w'.cell? ⟨b, i, none⟩ = w.cell? ⟨b, i, none⟩ := by simp [World.cell?, h]
theorem Rd.keep {w w' : World} {v : Value} {xs : List Value} (h : Rd w v xs) (hk : ∀ b, Value.at? v = some b → b < w.heap.size → w'.heap[b]? = w.heap[b]?) : Rd w' v xs := by
 obtain ⟨A, c, rfl, h1, h1', h2⟩ := h.is
 refine ⟨A, c, rfl, h1, h1', fun hp => ?_⟩
 obtain ⟨b, o, rfl, hc⟩ := h2 hp
 refine ⟨b, o, rfl, fun i u hu => ?_⟩
 have := hc i u hu
 rw [cell_same (hk b rfl (cell_lt this))]
 exact this
theorem Rd.ext {w w' : World} {v : Value} {xs : List Value} (h : Rd w v xs) (hx : Ext w w') : Rd w' v xs := h.keep fun b _ hb => hx.block b hb
theorem St.rdOf {w0 w : World} {H : List Ent} (h : St w0 w H) {k : Nat} {nw : Bool} {b : Nat} {t : TypeId} {cs : List Value} (hk : H[k]? = some ⟨nw, some b, blk t cs⟩) (o n c : Nat) (hn : o + n ≤ cs.length) (hc : n ≤ c) (hc' : c ≤ 9223372036854775807) :
  Rd w (.slice (some ⟨b, o, none⟩) n c) ((cs.drop o).take n) := by
 have hl : ((cs.drop o).take n).length = n := by simp; omega
 refine ⟨some ⟨b, o, none⟩, c, by rw [hl], by rw [hl]; exact hc, hc', fun _ => ⟨b, o, rfl, fun i u hu => ?_⟩⟩
 refine h.cell hk ?_
 rw [List.getElem?_take] at hu
 split at hu
 ·
  rw [List.getElem?_drop] at hu; exact hu
 ·
  cases hu
end
end Go.Fw
set_option linter.unusedVariables false
set_option linter.unusedSimpArgs false
namespace Go.Fw
open Go Go.RowKit
def vB (x : UInt8) : Value := .int .u8 (x.toNat : Int)
def vW (x : UInt32) : Value := .int .u32 (x.toNat : Int)
def vD (x : UInt64) : Value := .int .u64 (x.toNat : Int)
def vI (n : Nat) : Value := .int .i64 (n : Int)
section
variable {P : Program} {a : Act} {o : Oper} {w : World}
def Gv (P : Program) (o : Oper) (a : Act) (w : World) (v : Value) : Prop := (execOp a.eval o).run P w = .ok (.value v) w
theorem run_sizeOf {e : TypeId} {n : Nat} (h : (P.info? e).map (·.size) = some n) (w : World) : (sizeOf e).run P w = .ok n w := by
 cases hi : P.info? e with
 | none => rw [hi] at h; cases h
 | some i => rw [hi] at h; injection h with h; simp [sizeOf, typeInfo, hi, h]
theorem run_zeroValue {e : TypeId} {z : Value} (h : (P.info? e).map (·.zero) = some (some z)) (w : World) : (zeroValue e).run P w = .ok z w := by
 cases hi : P.info? e with
 | none => rw [hi] at h; cases h
 | some i => rw [hi] at h; injection h with h; simp [zeroValue, typeInfo, hi, h]
theorem run_und {t : TypeId} {d : TypeDesc} (h : P.underlying t = some d) (w : World) : (underlying t).run P w = .ok d w := by
 simp [underlying, h]
theorem add_lit (b o n : Nat) : (⟨b, o, none⟩ : Addr).add n = ⟨b, o + n, none⟩ := by
 unfold Addr.add; split <;> simp_all
theorem gv_move {x : Operand} {v : Value} (ho : o.op = .move x) (hx : a.eval x = v) : Gv P o a w v := by
 unfold Gv execOp; rw [ho]; simp [hx]
theorem gv_assign {x : Operand} {v : Value} (ho : o.op = .assign x) (hx : a.eval x = v) : Gv P o a w v := by
 unfold Gv execOp; rw [ho]; simp [hx]
theorem gv_pick {c x y : Operand} {b : Bool} {v : Value} (ho : o.op = .pick c x y) (hc : a.eval c = .bool b) (hv : (if b then a.eval x else a.eval y) = v) : Gv P o a w v := by
 unfold Gv execOp; rw [ho]; simp [hc, asBool, hv]
theorem gv_not {t : TypeId} {x : Operand} {b : Bool} (ho : o.op = .unOp .not t x) (hx : a.eval x = .bool b) : Gv P o a w (.bool !b) := by
 unfold Gv execOp; rw [ho]; simp [hx, Op.unary]
theorem gv_nilCheck {x : Operand} {ad : Addr} (ho : o.op = .nilCheck x) (hx : a.eval x = .pointer (some ad)) : Gv P o a w (.pointer (some ad)) := by
 unfold Gv execOp; rw [ho]; simp [hx]
theorem gv_extract {x : Operand} {vs : Array Value} {i : Nat} {v : Value} (ho : o.op = .extract x i) (hx : a.eval x = .tuple vs) (hi : vs[i]? = some v) : Gv P o a w v := by
 unfold Gv execOp; rw [ho]; simp [hx, Instr.extract, hi]
theorem eqGuard_int (op : BinOp) (t : TypeId) (x y : Operand) (k k' : IntKind) (p q : Int) (w : World) : (eqGuard op t x y (.int k p) (.int k' q)).run P w = .ok () w := by
 unfold eqGuard; split <;> rfl
section arith
variable {op : BinOp} {t t' : TypeId} {x y : Operand} {k : IntKind} {p q : Int}
theorem gv_int (ho : o.op = .binOp op t x y t') (hx : a.eval x = .int k p) (hy : a.eval y = .int k q) {v : Value} (hr : (binOp op t (.int k p) (.int k q)).run P w = .ok v w) : Gv P o a w v := by
 unfold Gv execOp; rw [ho]; simp [hx, hy, eqGuard_int, hr]
theorem wrap_i64_id {n : Int} (h1 : -9223372036854775808 ≤ n) (h2 : n ≤ 9223372036854775807) : IntKind.i64.wrap n = n := by
 rw [IntKind.wrap_i64]; omega
theorem gv_add (ho : o.op = .binOp .add t x y t') (hx : a.eval x = .int .i64 p) (hy : a.eval y = .int .i64 q) (h1 : -9223372036854775808 ≤ p + q) (h2 : p + q ≤ 9223372036854775807) : Gv P o a w (.int .i64 (p + q)) :=
 gv_int ho hx hy (by simp [binOp, Op.intArith, wrap_i64_id h1 h2])
theorem gv_sub (ho : o.op = .binOp .sub t x y t') (hx : a.eval x = .int .i64 p) (hy : a.eval y = .int .i64 q) (h1 : -9223372036854775808 ≤ p - q) (h2 : p - q ≤ 9223372036854775807) : Gv P o a w (.int .i64 (p - q)) :=
 gv_int ho hx hy (by simp [binOp, Op.intArith, wrap_i64_id h1 h2])
theorem gv_mul (ho : o.op = .binOp .mul t x y t') (hx : a.eval x = .int .i64 p) (hy : a.eval y = .int .i64 q) (h1 : -9223372036854775808 ≤ p * q) (h2 : p * q ≤ 9223372036854775807) : Gv P o a w (.int .i64 (p * q)) :=
 gv_int ho hx hy (by simp [binOp, Op.intArith, wrap_i64_id h1 h2])
theorem gv_nadd {m n : Nat} (ho : o.op = .binOp .add t x y t') (hx : a.eval x = vI m) (hy : a.eval y = vI n) (h : m + n ≤ 9223372036854775807) : Gv P o a w (vI (m + n)) := by
 have := gv_add (P := P) (w := w) ho hx hy (by omega) (by omega)
 rwa [← Int.natCast_add] at this
theorem gv_nsub {m n : Nat} (ho : o.op = .binOp .sub t x y t') (hx : a.eval x = vI m) (hy : a.eval y = vI n) (h : n ≤ m) (h2 : m ≤ 9223372036854775807) : Gv P o a w (vI (m - n)) := by
 have := gv_sub (P := P) (w := w) ho hx hy (by omega) (by omega)
 rwa [← Int.ofNat_sub h] at this
theorem gv_nmul {m n : Nat} (ho : o.op = .binOp .mul t x y t') (hx : a.eval x = vI m) (hy : a.eval y = vI n) (h : m * n ≤ 9223372036854775807) : Gv P o a w (vI (m * n)) := by
 have hc : ((m : Int) * (n : Int)) = ((m * n : Nat) : Int) := (Int.natCast_mul m n).symm
 have := gv_mul (P := P) (w := w) ho hx hy (by rw [hc]; omega) (by rw [hc]; omega)
 rwa [hc] at this
theorem gv_nquo {m n : Nat} (ho : o.op = .binOp .quo t x y t') (hx : a.eval x = vI m) (hy : a.eval y = vI n) (h0 : 0 < n) (h : m ≤ 9223372036854775807) : Gv P o a w (vI (m / n)) := by
 have hd : (m : Int).tdiv (n : Int) = ((m / n : Nat) : Int) := by
  rw [Int.tdiv_eq_ediv_of_nonneg (by omega)]; rfl
 have hl : m / n ≤ m := Nat.div_le_self m n
 refine gv_int ho hx hy ?_
 have hn : ¬ ((n : Int) = 0) := by omega
 simp only [binOp, Op.intDiv, hn, if_false, ne_eq, not_true_eq_false, hd]
 rw [wrap_i64_id (by generalize m / n = r at *; omega) (by generalize m / n = r at *; omega)]
 rfl
theorem gv_nrem {m n : Nat} (ho : o.op = .binOp .rem t x y t') (hx : a.eval x = vI m) (hy : a.eval y = vI n) (h0 : 0 < n) : Gv P o a w (vI (m % n)) := by
 have hd : (m : Int).tmod (n : Int) = ((m % n : Nat) : Int) := by
  rw [Int.tmod_eq_emod_of_nonneg (by omega)]; rfl
 refine gv_int ho hx hy ?_
 have hn : ¬ ((n : Int) = 0) := by omega
 simp only [binOp, Op.intDiv, hn, if_false, ne_eq, not_true_eq_false, hd]
 rfl
theorem gv_rem (ho : o.op = .binOp .rem t x y t') (hx : a.eval x = .int .i64 p) (hy : a.eval y = .int .i64 q) (h0 : q ≠ 0) : Gv P o a w (.int .i64 (p.tmod q)) := by
 refine gv_int ho hx hy ?_
 simp only [binOp, Op.intDiv, h0, if_false, ne_eq, not_true_eq_false]
 rfl
theorem beq_dec (p q : Int) : (p == q) = decide (p = q) := rfl
theorem gv_lss (ho : o.op = .binOp .lss t x y t') (hx : a.eval x = .int k p) (hy : a.eval y = .int k q) : Gv P o a w (.bool (decide (p < q))) := gv_int ho hx hy (by simp [binOp, Op.intCmp])
theorem gv_leq (ho : o.op = .binOp .leq t x y t') (hx : a.eval x = .int k p) (hy : a.eval y = .int k q) : Gv P o a w (.bool (decide (p ≤ q))) := gv_int ho hx hy (by simp [binOp, Op.intCmp])
theorem gv_gtr (ho : o.op = .binOp .gtr t x y t') (hx : a.eval x = .int k p) (hy : a.eval y = .int k q) : Gv P o a w (.bool (decide (q < p))) := gv_int ho hx hy (by simp [binOp, Op.intCmp])
theorem gv_geq (ho : o.op = .binOp .geq t x y t') (hx : a.eval x = .int k p) (hy : a.eval y = .int k q) : Gv P o a w (.bool (decide (q ≤ p))) := gv_int ho hx hy (by simp [binOp, Op.intCmp])
theorem gv_eql (ho : o.op = .binOp .eql t x y t') (hx : a.eval x = .int k p) (hy : a.eval y = .int k q) : Gv P o a w (.bool (decide (p = q))) := gv_int ho hx hy (by simp only [binOp, ne_eq, not_true_eq_false, if_false, Op.intCmp, Sem.run_pure, beq_dec])
theorem gv_neq (ho : o.op = .binOp .neq t x y t') (hx : a.eval x = .int k p) (hy : a.eval y = .int k q) : Gv P o a w (.bool (decide (p ≠ q))) := gv_int ho hx hy (by simp only [binOp, ne_eq, not_true_eq_false, if_false, Op.intCmp, Sem.run_pure, bne, beq_dec, decide_not])
theorem gv_lssF (ho : o.op = .binOp .lss t x y t') (hx : a.eval x = .int k p) (hy : a.eval y = .int k q) (h : ¬ (p < q)) : Gv P o a w (.bool false) := by have := gv_lss (P := P) (w := w) ho hx hy; rwa [decide_eq_false h] at this
theorem gv_gtrT (ho : o.op = .binOp .gtr t x y t') (hx : a.eval x = .int k p) (hy : a.eval y = .int k q) (h : q < p) : Gv P o a w (.bool true) := by have := gv_gtr (P := P) (w := w) ho hx hy; rwa [decide_eq_true h] at this
theorem gv_gtrF (ho : o.op = .binOp .gtr t x y t') (hx : a.eval x = .int k p) (hy : a.eval y = .int k q) (h : ¬ (q < p)) : Gv P o a w (.bool false) := by have := gv_gtr (P := P) (w := w) ho hx hy; rwa [decide_eq_false h] at this
theorem gv_eqlT (ho : o.op = .binOp .eql t x y t') (hx : a.eval x = .int k p) (hy : a.eval y = .int k q) (h : p = q) : Gv P o a w (.bool true) := by have := gv_eql (P := P) (w := w) ho hx hy; rwa [decide_eq_true h] at this
theorem gv_eqlF (ho : o.op = .binOp .eql t x y t') (hx : a.eval x = .int k p) (hy : a.eval y = .int k q) (h : ¬ (p = q)) : Gv P o a w (.bool false) := by have := gv_eql (P := P) (w := w) ho hx hy; rwa [decide_eq_false h] at this
theorem gv_neqT (ho : o.op = .binOp .neq t x y t') (hx : a.eval x = .int k p) (hy : a.eval y = .int k q) (h : p ≠ q) : Gv P o a w (.bool true) := by have := gv_neq (P := P) (w := w) ho hx hy; rwa [decide_eq_true h] at this
theorem gv_neqF (ho : o.op = .binOp .neq t x y t') (hx : a.eval x = .int k p) (hy : a.eval y = .int k q) (h : ¬ (p ≠ q)) : Gv P o a w (.bool false) := by have := gv_neq (P := P) (w := w) ho hx hy; rwa [decide_eq_false h] at this
end arith
section bytes
variable {op : BinOp} {t t' : TypeId} {x y : Operand}
theorem u8_wrap (n : Nat) : IntKind.u8.wrap (n : Int) = ((n % 256 : Nat) : Int) := by
 simp [IntKind.wrap, IntKind.bits, IntKind.signed]
theorem u32_wrap (n : Nat) : IntKind.u32.wrap (n : Int) = ((n % 4294967296 : Nat) : Int) := by
 simp [IntKind.wrap, IntKind.bits, IntKind.signed]
theorem u64_wrap (n : Nat) : IntKind.u64.wrap (n : Int) = ((n % 18446744073709551616 : Nat) : Int) := by
 simp [IntKind.wrap, IntKind.bits, IntKind.signed]
theorem bv_of (n k : Nat) (h : k < 2 ^ n) : (BitVec.ofInt n (k : Int)).toNat = k := by
 rw [BitVec.ofInt_natCast, BitVec.toNat_ofNat]; exact Nat.mod_eq_of_lt h
theorem gv_b_and {m n : UInt8} (ho : o.op = .binOp .and t x y t') (hx : a.eval x = vB m) (hy : a.eval y = vB n) : Gv P o a w (vB (m &&& n)) := by
 refine gv_int ho hx hy ?_
 have h1 := bv_of 8 m.toNat m.toNat_lt
 have h2 := bv_of 8 n.toNat n.toNat_lt
 have h3 : m.toNat &&& n.toNat < 2 ^ 8 := Nat.and_lt_two_pow _ n.toNat_lt
 show Result.ok (Value.int .u8 (IntKind.u8.wrap ((BitVec.ofInt 8 (m.toNat : Int) &&& BitVec.ofInt 8 (n.toNat : Int)).toNat : Int))) w = _
 rw [BitVec.toNat_and, h1, h2, u8_wrap, Nat.mod_eq_of_lt h3, vB, UInt8.toNat_and]
theorem gv_b_xor {m n : UInt8} (ho : o.op = .binOp .xor t x y t') (hx : a.eval x = vB m) (hy : a.eval y = vB n) : Gv P o a w (vB (m ^^^ n)) := by
 refine gv_int ho hx hy ?_
 have h1 := bv_of 8 m.toNat m.toNat_lt
 have h2 := bv_of 8 n.toNat n.toNat_lt
 have h3 : m.toNat ^^^ n.toNat < 2 ^ 8 := Nat.xor_lt_two_pow m.toNat_lt n.toNat_lt
 show Result.ok (Value.int .u8 (IntKind.u8.wrap ((BitVec.ofInt 8 (m.toNat : Int) ^^^ BitVec.ofInt 8 (n.toNat : Int)).toNat : Int))) w = _
 rw [BitVec.toNat_xor, h1, h2, u8_wrap, Nat.mod_eq_of_lt h3, vB, UInt8.toNat_xor]
theorem gv_b_add {m n : UInt8} (ho : o.op = .binOp .add t x y t') (hx : a.eval x = vB m) (hy : a.eval y = vB n) : Gv P o a w (vB (m + n)) := by
 refine gv_int ho hx hy ?_
 simp only [binOp, Op.intArith, ne_eq, not_true_eq_false, if_false, ← Int.natCast_add, u8_wrap, vB, UInt8.toNat_add]
 rfl
theorem gv_shift (ho : o.op = .binOp op t x y t') (hop : op = .shl ∨ op = .shr) {k k' : IntKind} {p q : Int} (hx : a.eval x = .int k p) (hy : a.eval y = .int k' q) {v : Value} (hr : (Op.shift op k p k' q).run P w = .ok v w) : Gv P o a w v := by
 unfold Gv execOp; rw [ho]
 rcases hop with rfl | rfl <;> simp [hx, hy, eqGuard_int, binOp, hr]
theorem gv_b_shl {m : UInt8} {k' : IntKind} {n : Nat} (ho : o.op = .binOp .shl t x y t') (hx : a.eval x = vB m) (hy : a.eval y = .int k' (n : Int)) (hn : n < 8) : Gv P o a w (vB (m <<< (UInt8.ofNat n))) := by
 refine gv_shift ho (.inl rfl) hx hy ?_
 have h0 : ¬ ((n : Int) < 0) := by omega
 have h8 : min n 8 = n := by omega
 have hc : ((m.toNat : Int) * 2 ^ n) = ((m.toNat * 2 ^ n : Nat) : Int) := by simp
 simp only [Op.shift, h0, if_false, Int.toNat_natCast, IntKind.bits, h8, hc, u8_wrap, vB]
 rw [UInt8.toNat_shiftLeft]
 have : (UInt8.ofNat n).toNat % 8 = n := by simp; omega
 rw [this, Nat.shiftLeft_eq]
 rfl
theorem gv_n_xor {m n : Nat} (ho : o.op = .binOp .xor t x y t') (hx : a.eval x = vI m) (hy : a.eval y = vI n) (h1 : m < 9223372036854775808) (h2 : n < 9223372036854775808) : Gv P o a w (vI (m ^^^ n)) := by
 refine gv_int ho hx hy ?_
 have h3 : m ^^^ n < 2 ^ 63 := Nat.xor_lt_two_pow (by omega) (by omega)
 show Result.ok (Value.int .i64 (IntKind.i64.wrap ((BitVec.ofInt 64 (m : Int) ^^^ BitVec.ofInt 64 (n : Int)).toNat : Int))) w = _
 rw [BitVec.toNat_xor, bv_of 64 m (by omega), bv_of 64 n (by omega), wrap_i64_id (by omega) (by omega)]; rfl
theorem gv_n_and {m n : Nat} (ho : o.op = .binOp .and t x y t') (hx : a.eval x = vI m) (hy : a.eval y = vI n) (h1 : m < 9223372036854775808) (h2 : n < 9223372036854775808) : Gv P o a w (vI (m &&& n)) := by
 refine gv_int ho hx hy ?_
 have h3 : m &&& n < 2 ^ 63 := Nat.and_lt_two_pow _ (by omega)
 show Result.ok (Value.int .i64 (IntKind.i64.wrap ((BitVec.ofInt 64 (m : Int) &&& BitVec.ofInt 64 (n : Int)).toNat : Int))) w = _
 rw [BitVec.toNat_and, bv_of 64 m (by omega), bv_of 64 n (by omega), wrap_i64_id (by omega) (by omega)]; rfl
theorem gv_n_or {m n : Nat} (ho : o.op = .binOp .or t x y t') (hx : a.eval x = vI m) (hy : a.eval y = vI n) (h1 : m < 9223372036854775808) (h2 : n < 9223372036854775808) : Gv P o a w (vI (m ||| n)) := by
 refine gv_int ho hx hy ?_
 have h3 : m ||| n < 2 ^ 63 := Nat.or_lt_two_pow (by omega) (by omega)
 show Result.ok (Value.int .i64 (IntKind.i64.wrap ((BitVec.ofInt 64 (m : Int) ||| BitVec.ofInt 64 (n : Int)).toNat : Int))) w = _
 rw [BitVec.toNat_or, bv_of 64 m (by omega), bv_of 64 n (by omega), wrap_i64_id (by omega) (by omega)]; rfl
theorem gv_n_shl {m n : Nat} {k' : IntKind} (ho : o.op = .binOp .shl t x y t') (hx : a.eval x = vI m) (hy : a.eval y = .int k' (n : Int)) (hn : n < 64) (h : m * 2 ^ n ≤ 9223372036854775807) : Gv P o a w (vI (m * 2 ^ n)) := by
 refine gv_shift ho (.inl rfl) hx hy ?_
 have h0 : ¬ ((n : Int) < 0) := by omega
 have h8 : min n 64 = n := by omega
 have hc : ((m : Int) * 2 ^ n) = ((m * 2 ^ n : Nat) : Int) := by simp
 simp only [Op.shift, h0, if_false, Int.toNat_natCast, IntKind.bits, h8, hc]
 rw [wrap_i64_id (by omega) (by omega)]; rfl
theorem gv_n_shr {m n : Nat} {k' : IntKind} (ho : o.op = .binOp .shr t x y t') (hx : a.eval x = vI m) (hy : a.eval y = .int k' (n : Int)) (hn : n < 64) : Gv P o a w (vI (m / 2 ^ n)) := by
 refine gv_shift ho (.inr rfl) hx hy ?_
 have h0 : ¬ ((n : Int) < 0) := by omega
 have h8 : min n 64 = n := by omega
 have hc : ((m : Int).fdiv (2 ^ n)) = ((m / 2 ^ n : Nat) : Int) := by
  rw [Int.fdiv_eq_ediv_of_nonneg _ (by exact_mod_cast Nat.zero_le (2 ^ n))]; norm_cast
 simp only [Op.shift, h0, if_false, Int.toNat_natCast, IntKind.bits, h8, hc]
 rfl
end bytes
section conv
variable {s d : TypeId} {x : Operand}
theorem gv_conv {k k' : IntKind} {n : Int} (ho : o.op = .convert s d x) (hs : P.underlying s = some (.int k)) (hd : P.underlying d = some (.int k')) (hx : a.eval x = .int k n) : Gv P o a w (.int k' (k'.wrap n)) := by
 unfold Gv execOp; rw [ho]; simp [hx, convert, run_und hs, run_und hd, Conv.intToInt]
theorem gv_conv_b_i {m : UInt8} (ho : o.op = .convert s d x) (hs : P.underlying s = some (.int .u8)) (hd : P.underlying d = some (.int .i64)) (hx : a.eval x = vB m) : Gv P o a w (vI m.toNat) := by
 have := gv_conv (w := w) ho hs hd hx
 rwa [wrap_i64_id (by omega) (by have := m.toNat_lt; omega)] at this
theorem gv_conv_i_b {n : Nat} (ho : o.op = .convert s d x) (hs : P.underlying s = some (.int .i64)) (hd : P.underlying d = some (.int .u8)) (hx : a.eval x = vI n) : Gv P o a w (vB (UInt8.ofNat n)) := by
 have := gv_conv (w := w) ho hs hd hx
 rw [u8_wrap] at this
 have e : (UInt8.ofNat n).toNat = n % 256 := by simp
 unfold vB
 rw [e]
 exact this
end conv
section addr
variable {t e : TypeId} {x i : Operand} {n sz : Nat} {b off : Nat} {q : Nat}
theorem gv_indexArr (ho : o.op = .indexAddr t x i) (ht : P.underlying t = some (.array n e)) (hz : (P.info? e).map (·.size) = some sz) (hx : a.eval x = .pointer (some ⟨b, off, none⟩)) (hi : a.eval i = vI q) (h : q < n) :
  Gv P o a w (.pointer (some ⟨b, off + q * sz, none⟩)) := by
 unfold Gv execOp; rw [ho]
 have h1 : (0 : Int) ≤ (q : Int) ∧ (q : Int) < (n : Int) := ⟨by omega, by omega⟩
 have h2 := Nat.not_le.2 h
 simp [h2, hx, hi, vI, Instr.indexAt, asIntOf, run_und ht, Instr.sureAddr, run_sizeOf hz, h1, add_lit]
theorem gv_indexSl {len c : Nat} (ho : o.op = .indexAddr t x i) (ht : P.underlying t = some (.slice e)) (hz : (P.info? e).map (·.size) = some sz) (hx : a.eval x = .slice (some ⟨b, off, none⟩) len c) (hi : a.eval i = vI q) (h : q < len) :
  Gv P o a w (.pointer (some ⟨b, off + q * sz, none⟩)) := by
 unfold Gv execOp; rw [ho]
 have h1 : (0 : Int) ≤ (q : Int) ∧ (q : Int) < (len : Int) := ⟨by omega, by omega⟩
 have h2 := Nat.not_le.2 h
 simp [h2, hx, hi, vI, Instr.indexAt, asIntOf, run_und ht, Instr.sureAddr, run_sizeOf hz, h1, add_lit]
theorem gv_field {s : TypeId} {fs : Array Field} {f : Field} {j r : Nat} (ho : o.op = .fieldAddr s x j) (hs : P.underlying s = some (.struct fs)) (hf : fs[j]? = some f) (hr : f.offset = r) (hz : (P.info? f.type).map (·.size) = some sz) (h0 : sz ≠ 0) (hx : a.eval x = .pointer (some ⟨b, off, none⟩)) :
  Gv P o a w (.pointer (some ⟨b, off + r, none⟩)) := by
 subst hr
 unfold Gv execOp; rw [ho]
 simp [hx, Instr.fieldAt, run_und hs, hf, Instr.sureAddr, fieldPlace, run_sizeOf hz, h0, add_lit]
end addr
theorem run_isAgg_false {t : TypeId} {d : TypeDesc} (ht : P.underlying t = some d) (hd : (match d with | .struct _ | .array _ _ => true | _ => false) = false) (w : World) : (isAgg t).run P w = .ok false w := by
 simp only [isAgg, Sem.run_bind, run_und ht, Result.andThen_ok]
 split <;> simp_all
theorem run_isAgg_true {t : TypeId} {d : TypeDesc} (ht : P.underlying t = some d) (hd : (match d with | .struct _ | .array _ _ => true | _ => false) = true) (w : World) : (isAgg t).run P w = .ok true w := by
 simp only [isAgg, Sem.run_bind, run_und ht, Result.andThen_ok]
 split <;> simp_all
theorem gv_load {t : TypeId} {d : TypeDesc} {x : Operand} {b i : Nat} {v : Value} (ho : o.op = .load t x) (ht : P.underlying t = some d) (hd : (match d with | .struct _ | .array _ _ => true | _ => false) = false) (hx : a.eval x = .pointer (some ⟨b, i, none⟩)) (hc : w.cell? ⟨b, i, none⟩ = some v) : Gv P o a w v := by
 unfold Gv execOp; rw [ho]
 simp [hx, Instr.loadAt, Instr.sureAddr, loadVar, run_isAgg_false ht hd, load, Sem.run, hc]
theorem gv_loadAgg {t : TypeId} {d : TypeDesc} {x : Operand} {b i : Nat} {vs : List Value} (ho : o.op = .load t x) (ht : P.underlying t = some d) (hd : (match d with | .struct _ | .array _ _ => true | _ => false) = true) (hz : (P.info? t).map (·.size) = some vs.length) (hx : a.eval x = .pointer (some ⟨b, i, none⟩))
  (hc : ∀ j u, vs[j]? = some u → w.cell? ⟨b, i + j, none⟩ = some u) : Gv P o a w (.agg vs.toArray) := by
 unfold Gv execOp; rw [ho]
 have hl := run_loadCells_list (P := P) w ⟨b, i, none⟩ vs (fun j u hu => by rw [add_lit]; exact hc j u hu)
 simp [hx, Instr.loadAt, Instr.sureAddr, loadVar, run_isAgg_true ht hd, run_sizeOf hz, hl]
theorem gv_indexAgg {t e : TypeId} {d : TypeDesc} {x i : Operand} {n q : Nat} {cs : Array Value} {v : Value} (ho : o.op = .index t x i) (ht : P.underlying t = some (.array n e)) (he : P.underlying e = some d) (hd : (match d with | .struct _ | .array _ _ => true | _ => false) = false) (hz : (P.info? e).map (·.size) = some 1)
  (hx : a.eval x = .agg cs) (hi : a.eval i = vI q) (h : q < n) (hv : cs[q]? = some v) : Gv P o a w v := by
 unfold Gv execOp; rw [ho]
 have h1 : (0 : Int) ≤ (q : Int) ∧ (q : Int) < (n : Int) := ⟨by omega, by omega⟩
 have h2 := Nat.not_le.2 h
 simp [h2, hx, hi, vI, Instr.index, asIntOf, run_und ht, h1, run_sizeOf hz, part, run_isAgg_false he hd, hv]
theorem gv_indexAggB {t e : TypeId} {d : TypeDesc} {x i : Operand} {n : Nat} {q : UInt8} {cs : Array Value} {v : Value} (ho : o.op = .index t x i) (ht : P.underlying t = some (.array n e)) (he : P.underlying e = some d) (hd : (match d with | .struct _ | .array _ _ => true | _ => false) = false) (hz : (P.info? e).map (·.size) = some 1)
  (hx : a.eval x = .agg cs) (hi : a.eval i = vB q) (h : q.toNat < n) (hv : cs[q.toNat]? = some v) : Gv P o a w v := by
 unfold Gv execOp; rw [ho]
 have h1 : (0 : Int) ≤ (q.toNat : Int) ∧ (q.toNat : Int) < (n : Int) := ⟨by omega, by omega⟩
 have h2 := Nat.not_le.2 h
 simp [h2, hx, hi, vB, Instr.index, asIntOf, run_und ht, h1, run_sizeOf hz, part, run_isAgg_false he hd, hv]
theorem gv_len {t e : TypeId} {A : Option Addr} {n c : Nat} {x : Operand} (ho : o.op = .call { callee := .builtin .len, args := #[x], argTypes := #[t] }) (ht : P.underlying t = some (.slice e)) (hx : a.eval x = .slice A n c) : Gv P o a w (vI n) := by
 unfold Gv execOp; rw [ho]
 simp [hx, resolve, invoke, builtin, Builtin.len_, run_und ht, goInt, vI]
theorem gv_lenStr {t : TypeId} {s : ByteArray} {x : Operand} (ho : o.op = .call { callee := .builtin .len, args := #[x], argTypes := #[t] }) (ht : P.underlying t = some .string) (hx : a.eval x = .string s) : Gv P o a w (vI s.size) := by
 unfold Gv execOp; rw [ho]
 simp [hx, resolve, invoke, builtin, Builtin.len_, run_und ht, goInt, vI]
theorem eqGuard_ptr (op : BinOp) (t : TypeId) (x y : Operand) (p q : Option Addr) (w : World) : (eqGuard op t x y (.pointer p) (.pointer q)).run P w = .ok () w := by
 unfold eqGuard; split <;> rfl
theorem gv_eqlNil {t t' e : TypeId} {x y : Operand} {p : Option Addr} (ho : o.op = .binOp .eql t x y t') (ht : P.underlying t = some (.pointer e)) (hx : a.eval x = .pointer p) (hy : a.eval y = .pointer none) : Gv P o a w (.bool p.isNone) := by
 have he : (Op.equal t (.pointer p) (.pointer none)).run P w = .ok p.isNone w := by
  show (Op.equalIn (9999 + 1) t (.pointer p) (.pointer none)).run P w = _
  unfold Op.equalIn
  cases p <;> simp [run_und ht]
 unfold Gv execOp; rw [ho]
 simp only [hx, hy, binOp, Sem.run_bind, eqGuard_ptr, Result.andThen_ok, he, Sem.run_pure]
theorem gv_neqNil {t t' e : TypeId} {x y : Operand} {p : Option Addr} (ho : o.op = .binOp .neq t x y t') (ht : P.underlying t = some (.pointer e)) (hx : a.eval x = .pointer p) (hy : a.eval y = .pointer none) : Gv P o a w (.bool p.isSome) := by
 have he : (Op.equal t (.pointer p) (.pointer none)).run P w = .ok p.isNone w := by
  show (Op.equalIn (9999 + 1) t (.pointer p) (.pointer none)).run P w = _
  unfold Op.equalIn
  cases p <;> simp [run_und ht]
 unfold Gv execOp; rw [ho]
 simp only [hx, hy, binOp, Sem.run_bind, eqGuard_ptr, Result.andThen_ok, he, Sem.run_pure]
 cases p <;> rfl
end
end Go.Fw
set_option linter.unusedVariables false
set_option linter.unusedSimpArgs false
namespace Go.Fw
open Go Go.RowKit
section
variable {P : Program} {ops : Array Oper} {Q : Exit → Act → World → Prop} {N : Nat} {a : Act} {m : List (Nat × Value)} {o : Oper} {w w0 : World} {K : Act → World → Prop} {rest : List Oper} {H : List Ent}
def Stp (P : Program) (ops : Array Oper) (Q : Exit → Act → World → Prop) (o : Oper) (a : Act) (w : World) (K : Act → World → Prop) : Prop :=
 if Region.wanted o (yielded ops a.tmps) then o.wp P a w K Q ∨ (o.asks P a w ∧ LetsOut Q) else K (a.put o.dst undef) w
theorem wpList_stp (h : Stp P ops Q o a w (wpList P ops Q rest)) : wpList P ops Q (o :: rest) a w := h
theorem run_stp {n : Nat} (hr : Region.ready .any ops (upto ops.size n) = [n]) (ho : ops[n]? = some o) (h : Stp P ops Q o a w (Run P ops Q (n + 1))) : Run P ops Q n a w :=
 run_seq hr (by unfold wpOp; rw [ho]; exact h)
theorem wanted_none (hg : o.guard = none) : Region.wanted o (yielded ops a.tmps) = true := by simp [Region.wanted, hg]
theorem yielded_of (hF : Fr N a m) {j t : Nat} {b : Bool} (hj : (ops[j]?).bind (·.dst) = some t) (hl : look t m = some (.bool b)) : yielded ops a.tmps j = some b := by
 have h := hF.get t _ hl
 unfold yielded
 rw [hj]
 simp only [slot, Array.getD_eq_getD_getElem?] at h
 cases ht : a.tmps[t]? with
 | none => rw [ht] at h; simp [undef] at h
 | some v => rw [ht] at h; simp only [Option.getD_some] at h; subst h; simp [ht]
theorem wanted_of (hF : Fr N a m) {j t : Nat} {b : Bool} (hg : o.guard = some (j, b)) (hj : (ops[j]?).bind (·.dst) = some t) (hl : look t m = some (.bool b)) : Region.wanted o (yielded ops a.tmps) = true := by
 simp [Region.wanted, hg, yielded_of hF hj hl]
theorem unwanted_of (hF : Fr N a m) {j t : Nat} {b c : Bool} (hg : o.guard = some (j, b)) (hj : (ops[j]?).bind (·.dst) = some t) (hl : look t m = some (.bool c)) (hne : (c == b) = false) : Region.wanted o (yielded ops a.tmps) = false := by
 simp only [Region.wanted, hg, yielded_of hF hj hl]
 simpa using hne
theorem stp_wp (hw : Region.wanted o (yielded ops a.tmps) = true) (h : o.wp P a w K Q) : Stp P ops Q o a w K := by
 unfold Stp; rw [if_pos hw]; exact .inl h
theorem stp_skip (hF : Fr N a m) (hw : Region.wanted o (yielded ops a.tmps) = false) {d : Nat} (hd : o.dst = some d) (hN : Nat.blt d N = true) (h : ∀ a', Fr N a' ((d, undef) :: m) → K a' w) : Stp P ops Q o a w K := by
 unfold Stp; rw [if_neg (by rw [hw]; exact Bool.false_ne_true), hd]; exact h _ (hF.put _ hN)
theorem stp_gv (hF : Fr N a m) (hw : Region.wanted o (yielded ops a.tmps) = true) {d : Nat} {v : Value} (hd : o.dst = some d) (hN : Nat.blt d N = true) (hv : Gv P o a w v) (h : ∀ a', Fr N a' ((d, v) :: m) → K a' w) : Stp P ops Q o a w K := by
 refine stp_wp hw ?_
 unfold Oper.wp
 rw [hv]
 show K (a.put o.dst v) w
 rw [hd]
 exact h _ (hF.put v hN)
theorem stp_val (hF : Fr N a m) (hw : Region.wanted o (yielded ops a.tmps) = true) {d : Nat} {v : Value} {w' : World} (hd : o.dst = some d) (hN : Nat.blt d N = true) (hv : (execOp a.eval o).run P w = .ok (.value v) w') (h : ∀ a', Fr N a' ((d, v) :: m) → K a' w') : Stp P ops Q o a w K := by
 refine stp_wp hw ?_
 unfold Oper.wp
 rw [hv]
 show K (a.put o.dst v) w'
 rw [hd]
 exact h _ (hF.put v hN)
theorem stp_unit (hF : Fr N a m) (hw : Region.wanted o (yielded ops a.tmps) = true) {w' : World} (hd : o.dst = none) (hv : (execOp a.eval o).run P w = .ok .skip w') (h : K a w') : Stp P ops Q o a w K := by
 refine stp_wp hw ?_
 unfold Oper.wp
 rw [hv]
 show K (a.put o.dst undef) w'
 rw [hd]
 exact h
def Evs (a : Act) : List Operand → List Value → Prop
 | [], [] => True
 | x :: xs, v :: vs => a.eval x = v ∧ Evs a xs vs
 | _, _ => False
theorem Evs.nil {a : Act} : Evs a [] [] := trivial
theorem Evs.cons {a : Act} {x : Operand} {v : Value} {xs : List Operand} {vs : List Value} (hx : a.eval x = v) (h : Evs a xs vs) : Evs a (x :: xs) (v :: vs) := ⟨hx, h⟩
theorem Evs.map : ∀ {xs : List Operand} {vs : List Value}, Evs a xs vs → xs.map a.eval = vs
 | [], [], _ => rfl
 | x :: xs, v :: vs, h => by rw [List.map_cons, h.1, Evs.map h.2]
 | [], _ :: _, h => h.elim
 | _ :: _, [], h => h.elim
structure CallOk (P : Program) (f : FuncId) : Prop where
 ok : ∃ fn, P.funcs[f]? = some fn ∧ (fn.name == "runtime.NumGoroutine") = false ∧ fn.body.isNone = false
theorem run_callFunc {f : FuncId} (h : CallOk P f) (args : Array Value) (w : World) : (callFunc f args).run P w = .ok (.enter f args) w := by
 obtain ⟨fn, h1, h2, h3⟩ := h.ok
 show (Sem.run P (callFunc f args) w) = _
 unfold callFunc
 simp only [program, Sem.run_bind, Sem.run, Result.andThen_ok, h1, h2, h3, Bool.false_eq_true, if_false]
 rfl
theorem run_callOp {f : FuncId} {xs : List Operand} {vs : List Value} {ats : Array TypeId} (hf : CallOk P f) (ho : o.op = .call { callee := .value (.func f), args := xs.toArray, argTypes := ats }) (hx : Evs a xs vs) :
  (execOp a.eval o).run P w = .ok (.enter f vs.toArray) w := by
 unfold execOp
 rw [ho]
 have hm := hx.map
 simp [resolve, Act.eval, Deferred.ofValue, invoke, run_callFunc hf, hm]
theorem stp_call {f : FuncId} {xs : List Operand} {vs : List Value} {ats : Array TypeId} {R : Ending → World → Prop} (hF : Fr N a m) (hw : Region.wanted o (yielded ops a.tmps) = true) {d : Nat} (hd : o.dst = some d) (hN : Nat.blt d N = true) (hf : CallOk P f)
  (ho : o.op = .call { callee := .value (.func f), args := xs.toArray, argTypes := ats }) (hx : Evs a xs vs) (hc : Calls P f vs.toArray w R)
  (h : ∀ e w', R e w' → ∃ v, e = .returned v ∧ ∀ a', Fr N a' ((d, v) :: m) → K a' w') : Stp P ops Q o a w K := by
 refine stp_wp hw ?_
 unfold Oper.wp
 rw [run_callOp hf ho hx]
 refine Calls.mono hc fun e w' hr => ?_
 obtain ⟨v, rfl, hk⟩ := h e w' hr
 show K (a.put o.dst v) w'
 rw [hd]
 exact hk _ (hF.put v hN)
theorem run_storeVar {t : TypeId} {b i : Nat} {T : TypeId} {cs vs : List Value} {v : Value} (hz : (P.info? t).map (·.size) = some vs.length) (hv : v.cells = vs.toArray) (h1 : ∀ u ∈ vs, u.oneCell' = true) (hb : w.heap[b]? = some (blk T cs)) (hl : i + vs.length ≤ cs.length) :
  (storeVar t ⟨b, i, none⟩ v).run P w = .ok () (w.setRow b (cs.take i ++ vs ++ cs.drop (i + vs.length)).toArray) := by
 have h2 := run_storeCells_at P b i T vs 0 cs.toArray w hb (by simpa using hl) h1
 simp only [Nat.add_zero] at h2
 simp [storeVar, run_sizeOf hz, hv, h2]
theorem St.setRow {w0 w : World} {H : List Ent} (h : St w0 w H) {k : Nat} {nw : Bool} {b : Nat} {T : TypeId} {cs cs' : List Value} (hk : H[k]? = some ⟨nw, some b, blk T cs⟩) : St w0 (w.setRow b cs'.toArray) (H.set k ⟨nw, some b, blk T cs'⟩) := by
 have hb := h.has _ (List.mem_of_getElem? hk) b rfl
 exact h.turn hk rfl rfl rfl (by simp) (setRow_heap w b cs.toArray _ T _ hb) fun c _ hc => setRow_other w b c _ hc
theorem stp_store {t : TypeId} {x y : Operand} {b i : Nat} {v : Value} {k : Nat} {nw : Bool} {T : TypeId} {cs : List Value} (hF : Fr N a m) (hw : Region.wanted o (yielded ops a.tmps) = true) (hd : o.dst = none) (ho : o.op = .store t x y)
  (hz : (P.info? t).map (·.size) = some 1) (hx : a.eval x = .pointer (some ⟨b, i, none⟩)) (hy : a.eval y = v) (hv : v.oneCell' = true) (hS : St w0 w H) (hk : H[k]? = some ⟨nw, some b, blk T cs⟩) (hi : i < cs.length)
  (h : ∀ w', St w0 w' (H.set k ⟨nw, some b, blk T (cs.set i v)⟩) → K a w') : Stp P ops Q o a w K := by
 have hb := hS.has _ (List.mem_of_getElem? hk) b rfl
 have hvc : v.cells = [v].toArray := by cases v <;> simp_all [Value.cells, Value.oneCell']
 refine stp_unit hF hw hd (w' := w.setRow b (cs.set i v).toArray) ?_ (h _ (hS.setRow hk))
 unfold execOp
 rw [ho]
 have hs := run_storeVar (P := P) (w := w) (t := t) (b := b) (i := i) (T := T) (cs := cs) (vs := [v]) (v := v) (by simpa using hz) hvc (by simpa using hv) hb (by simp; omega)
 have he : cs.take i ++ [v] ++ cs.drop (i + [v].length) = cs.set i v := by
  rw [List.set_eq_take_append_cons_drop, if_pos hi]; simp
 rw [he] at hs
 simp [hx, hy, Instr.storeAt, Instr.sureAddr, hs]
theorem stp_storeAgg {t : TypeId} {x y : Operand} {b i : Nat} {vs : List Value} {k : Nat} {nw : Bool} {T : TypeId} {cs : List Value} (hF : Fr N a m) (hw : Region.wanted o (yielded ops a.tmps) = true) (hd : o.dst = none) (ho : o.op = .store t x y)
  (hz : (P.info? t).map (·.size) = some vs.length) (hx : a.eval x = .pointer (some ⟨b, i, none⟩)) (hy : a.eval y = .agg vs.toArray) (hv : ∀ u ∈ vs, u.oneCell' = true) (hS : St w0 w H) (hk : H[k]? = some ⟨nw, some b, blk T cs⟩) (hi : i + vs.length ≤ cs.length)
  (h : ∀ w', St w0 w' (H.set k ⟨nw, some b, blk T (cs.take i ++ vs ++ cs.drop (i + vs.length))⟩) → K a w') : Stp P ops Q o a w K := by
 have hb := hS.has _ (List.mem_of_getElem? hk) b rfl
 refine stp_unit hF hw hd (w' := w.setRow b (cs.take i ++ vs ++ cs.drop (i + vs.length)).toArray) ?_ (h _ (hS.setRow hk))
 unfold execOp
 rw [ho]
 have hs := run_storeVar (P := P) (w := w) (t := t) (b := b) (i := i) (T := T) (cs := cs) (vs := vs) (v := .agg vs.toArray) hz rfl hv hb hi
 simp only [hx, hy, Instr.storeAt, Instr.sureAddr, Sem.run_bind, Sem.run_pure, Result.andThen_ok, hs]
theorem run_newVar (t : TypeId) (v : Value) (w : World) : (newVar t v).run P w = .ok ⟨w.heap.size, 0, none⟩ (w.alloc (.cells v.cells t)) := by
 rfl
theorem run_allocOp {e : TypeId} {z : Value} {cs : List Value} (ho : o.op = .alloc e) (hz : (P.info? e).map (·.zero) = some (some z)) (hc : z.cells = cs.toArray) :
  (execOp a.eval o).run P w = .ok (.value (.pointer (some ⟨w.heap.size, 0, none⟩))) (w.alloc (blk e cs)) := by
 unfold execOp
 rw [ho]
 simp [Instr.alloc, run_zeroValue hz, run_newVar, hc, blk]
theorem stp_alloc {e : TypeId} {z : Value} {cs : List Value} {d : Nat} (hF : Fr N a m) (hw : Region.wanted o (yielded ops a.tmps) = true) (hd : o.dst = some d) (hN : Nat.blt d N = true) (ho : o.op = .alloc e) (hz : (P.info? e).map (·.zero) = some (some z)) (hc : z.cells = cs.toArray) (hS : St w0 w H)
  (h : ∀ b a' w', Fr N a' ((d, .pointer (some ⟨b, 0, none⟩)) :: m) → St w0 w' (⟨true, some b, blk e cs⟩ :: H) → K a' w') : Stp P ops Q o a w K :=
 stp_val hF hw hd hN (run_allocOp ho hz hc) fun a' hF' => h _ a' _ hF' (hS.alloc _)
theorem run_boxOp {e : TypeId} {x : Operand} {v : Value} {cs : List Value} (ho : o.op = .box e x) (hx : a.eval x = v) (hc : v.cells = cs.toArray) :
  (execOp a.eval o).run P w = .ok (.value (.pointer (some ⟨w.heap.size, 0, none⟩))) (w.alloc (blk e cs)) := by
 unfold execOp
 rw [ho]
 simp [Instr.box, run_newVar, hx, hc, blk]
theorem stp_box {e : TypeId} {x : Operand} {v : Value} {cs : List Value} {d : Nat} (hF : Fr N a m) (hw : Region.wanted o (yielded ops a.tmps) = true) (hd : o.dst = some d) (hN : Nat.blt d N = true) (ho : o.op = .box e x) (hx : a.eval x = v) (hc : v.cells = cs.toArray) (hS : St w0 w H)
  (h : ∀ b a' w', Fr N a' ((d, .pointer (some ⟨b, 0, none⟩)) :: m) → St w0 w' (⟨true, some b, blk e cs⟩ :: H) → K a' w') : Stp P ops Q o a w K :=
 stp_val hF hw hd hN (run_boxOp ho hx hc) fun a' hF' => h _ a' _ hF' (hS.alloc _)
structure Ty (P : Program) (e : TypeId) (z : Value) (sz by_ : Nat) : Prop where
 info : (P.info? e).map (fun i => (i.zero, i.size, i.bytes)) = some (some z, sz, by_)
theorem Ty.get {e : TypeId} {z : Value} {sz by_ : Nat} (h : Ty P e z sz by_) : ∃ i, P.info? e = some i ∧ i.zero = some z ∧ i.size = sz ∧ i.bytes = by_ := by
 obtain ⟨i, hi, hh⟩ := Option.map_eq_some_iff.1 h.info
 simp only [Prod.mk.injEq] at hh
 exact ⟨i, hi, hh.1, hh.2.1, hh.2.2⟩
theorem Ty.size {e : TypeId} {z : Value} {sz by_ : Nat} (h : Ty P e z sz by_) : (P.info? e).map (·.size) = some sz := by
 obtain ⟨i, hi, _, h2, _⟩ := h.get
 rw [hi]; simp [h2]
theorem madeCells_one (z : Value) (n : Nat) (hz : z.cells = #[z]) : madeCells z.cells n = (List.replicate n z).toArray := by
 apply Array.ext
 ·
  simp [madeCells]
 ·
  intro i h1 h2
  simp [madeCells, hz, Nat.mod_one]
theorem run_makeOp {t e : TypeId} {x y : Operand} {z : Value} {by_ n : Nat} (ho : o.op = .makeSlice t x y) (ht : P.underlying t = some (.slice e)) (hy : Ty P e z 1 by_) (hz : z.cells = #[z]) (hx : a.eval x = vI n) (hx' : a.eval y = vI n) (hb : by_ * n ≤ 140737488355328) (hn : n ≤ 140737488355328) :
  (execOp a.eval o).run P w = .ok (.value (.slice (some ⟨w.heap.size, 0, none⟩) n n)) (w.alloc (blk e (List.replicate n z))) := by
 obtain ⟨i, hi, h1, h2, h3⟩ := hy.get
 unfold execOp
 rw [ho]
 have hh : ((i.bytes : Int) * (n : Int)) = ((by_ * n : Nat) : Int) := by rw [h3]; exact (Int.natCast_mul _ _).symm
 have hr := run_make (P := P) w t e i z ht hi h1 .i64 .i64 n n (by omega) (by omega) (by rw [hh]; omega) (by omega)
 simp only [Int.toNat_natCast, h2, Nat.mul_one, madeCells_one z n hz] at hr
 simp [hx, hx', vI, hr, blk]
theorem stp_make {t e : TypeId} {x y : Operand} {z : Value} {by_ n : Nat} {d : Nat} (hF : Fr N a m) (hw : Region.wanted o (yielded ops a.tmps) = true) (hd : o.dst = some d) (hN : Nat.blt d N = true) (ho : o.op = .makeSlice t x y) (ht : P.underlying t = some (.slice e)) (hy : Ty P e z 1 by_) (hz : z.cells = #[z])
  (hx : a.eval x = vI n) (hx' : a.eval y = vI n) (hb : by_ * n ≤ 140737488355328) (hn : n ≤ 140737488355328) (hS : St w0 w H)
  (h : ∀ b a' w', Fr N a' ((d, .slice (some ⟨b, 0, none⟩) n n) :: m) → St w0 w' (⟨true, some b, blk e (List.replicate n z)⟩ :: H) → K a' w') : Stp P ops Q o a w K :=
 stp_val hF hw hd hN (run_makeOp ho ht hy hz hx hx' hb hn) fun a' hF' => h _ a' _ hF' (hS.alloc _)
def ownV (ob : Option Nat) (n c : Nat) : Value :=
 match ob with
 | none => .slice none 0 0
 | some b => .slice (some ⟨b, 0, none⟩) n c
theorem St.addNil (h : St w0 w H) (o : Obj) : St w0 w (⟨true, none, o⟩ :: H) := h.attach h.lts h.size none o fun b hb => by cases hb
theorem St.swap {w' : World} (h : St w0 w H) {k : Nat} {e : Ent} (hk : H[k]? = some e) (hn : e.nw = true) (hx : Ext w w') (ob : Option Nat) (o : Obj) (hb : ∀ b, ob = some b → w.heap.size ≤ b ∧ w'.heap[b]? = some o) : St w0 w' (H.set k ⟨true, ob, o⟩) := by
 have hkl : k < H.length := (List.getElem?_eq_some_iff.1 hk).1
 have hat : ∀ i d, (H.set k ⟨true, ob, o⟩)[i]? = some d → (i = k ∧ d = ⟨true, ob, o⟩) ∨ (i ≠ k ∧ H[i]? = some d) := fun i d hi => by
  rw [List.getElem?_set] at hi
  by_cases hik : k = i
  ·
   subst hik
   rw [if_pos rfl, if_pos hkl] at hi
   injection hi with hi
   exact .inl ⟨rfl, hi.symm⟩
  ·
   rw [if_neg hik] at hi
   exact .inr ⟨fun e => hik e.symm, hi⟩
 have h' := h.ext hx
 refine ⟨h'.os, h'.tape, h'.output, h'.size, fun c hc hne => h'.old c hc fun d hd hf => ?_, fun d hd c hbe => ?_, fun d hd hn' c hbe => ?_, fun i j ei ej c hi hj hbi hbj => ?_⟩
 ·
  obtain ⟨i, hi⟩ := List.getElem?_of_mem hd
  have hik : i ≠ k := by rintro rfl; rw [hk] at hi; injection hi with hi; subst hi; rw [hn] at hf; cases hf
  exact hne d (List.mem_of_getElem? (i := i) (by rw [List.getElem?_set, if_neg (fun e => hik e.symm)]; exact hi)) hf
 ·
  obtain ⟨i, hi⟩ := List.getElem?_of_mem hd
  rcases hat i d hi with ⟨rfl, rfl⟩ | ⟨_, hi'⟩
  ·
   exact (hb c hbe).2
  ·
   exact h'.has d (List.mem_of_getElem? hi') c hbe
 ·
  obtain ⟨i, hi⟩ := List.getElem?_of_mem hd
  rcases hat i d hi with ⟨rfl, rfl⟩ | ⟨_, hi'⟩
  ·
   have := (hb c hbe).1; have := h.size; omega
  ·
   exact h'.new d (List.mem_of_getElem? hi') hn' c hbe
 ·
  rcases hat i ei hi with ⟨rfl, rfl⟩ | ⟨hik, hi'⟩ <;> rcases hat j ej hj with ⟨rfl, rfl⟩ | ⟨hjk, hj'⟩
  ·
   rfl
  ·
   have := h.lt (List.mem_of_getElem? hj') hbj; have := (hb c hbi).1; omega
  ·
   have := h.lt (List.mem_of_getElem? hi') hbi; have := (hb c hbj).1; omega
  ·
   exact h.once i j ei ej c hi' hj' hbi hbj
theorem set_self {H : List Ent} {k : Nat} {e : Ent} (hk : H[k]? = some e) : H.set k e = H := by
 apply List.ext_getElem?
 intro i
 rw [List.getElem?_set]
 by_cases h : k = i
 ·
  subst h; rw [if_pos rfl, if_pos (List.getElem?_eq_some_iff.1 hk).1, hk]
 ·
  rw [if_neg h]
theorem run_append_St {t ty e : TypeId} {z : Value} {by_ : Nat} (ht : P.underlying t = some (.slice e)) (hy : Ty P e z 1 by_) (hzc : z.cells.size = 1) {ob : Option Nat} {xs pad ys : List Value} {v : Value} (hS : St w0 w H) {k : Nat} (hk : H[k]? = some ⟨true, ob, blk e (xs ++ pad)⟩)
  (hob : ob = none → xs = [] ∧ pad = []) (hcap : xs.length + pad.length ≤ 9223372036854775807) (hr : Rd w v ys) (h1 : ∀ u ∈ ys, u.oneCell' = true) (hb : (xs.length + ys.length) * by_ ≤ 140737488355328) (hn : xs.length + ys.length ≤ 140737488355328) :
  ∃ ob' pad' w', (Builtin.append_ #[t, t] ty #[ownV ob xs.length (xs.length + pad.length), v]).run P w = .ok (ownV ob' (xs.length + ys.length) (xs.length + ys.length + pad'.length)) w' ∧
   (ob' = none → xs ++ ys = [] ∧ pad' = []) ∧ xs.length + ys.length + pad'.length ≤ 9223372036854775807 ∧ St w0 w' (H.set k ⟨true, ob', blk e ((xs ++ ys) ++ pad')⟩) := by
 obtain ⟨i, hi, h2, h3, h4⟩ := hy.get
 obtain ⟨A, c, rfl, hc1, hc2, hrd⟩ := hr.is
 have hown : w.ownsRow 0 e 1 (ownV ob xs.length (xs.length + pad.length)) xs.length xs := by
  refine ⟨by simp, ?_⟩
  cases ob with
  | none => obtain ⟨rfl, rfl⟩ := hob rfl; exact .inl ⟨rfl, rfl⟩
  | some b =>
   refine .inr ⟨b, xs.length + pad.length, (xs ++ pad).toArray, rfl, Nat.zero_le _, hS.has _ (List.mem_of_getElem? hk) b rfl, by omega, by simpa [maxLen] using hcap, by simp, by simp⟩
 cases hys : ys with
 | nil =>
  subst hys
  refine ⟨ob, pad, w, ?_, fun h => by simpa using hob h, by simpa using hcap, by simpa [set_self hk] using hS⟩
  cases ob with
  | none =>
   obtain ⟨rfl, rfl⟩ := hob rfl
   cases A <;> simp [ownV, Builtin.append_, run_und ht, run_sizeOf hy.size, Builtin.lenOf, Builtin.firstCells, loadCells, loadCellsFrom]
  | some b =>
   cases A <;> simp [ownV, Builtin.append_, run_und ht, run_sizeOf hy.size, Builtin.lenOf, Builtin.firstCells, loadCells, loadCellsFrom, storeCells]
 | cons y ys' =>
  rw [← hys]
  have hpos : 0 < ys.length := by rw [hys]; simp
  obtain ⟨b, off, rfl, hcell⟩ := hrd hpos
  obtain ⟨v', w', hrun, hown', hg, _, hblk⟩ := run_append_own_at (P := P) w 0 t ty e i z 1 by_ ht hi h2 h3 h4 hzc (by omega) _ _ _ hown ⟨b, off, none⟩ ys.length c ys (by simp) (fun j u hu => by rw [add_lit]; exact hcell j u hu) h1
   (by simp only [maxLen]; omega) hb (Nat.zero_le _)
  rcases hown'.2 with ⟨_, h0⟩ | ⟨g, cap, cur, rfl, _, hh, hle, hm, hcs, htk⟩
  ·
   omega
  ·
   have hsplit : cur = ((xs ++ ys) ++ cur.toList.drop (xs.length + ys.length)).toArray := by
    apply Array.ext'
    rw [← htk]
    simp
   have hpad : (cur.toList.drop (xs.length + ys.length)).length = cap - (xs.length + ys.length) := by
    rw [List.length_drop, Array.length_toList, hcs]; simp
   have hcapeq : xs.length + ys.length + (cur.toList.drop (xs.length + ys.length)).length = cap := by rw [hpad]; omega
   refine ⟨some g, cur.toList.drop (xs.length + ys.length), w', (by rw [hcapeq]; exact hrun), fun h => (by cases h), (by rw [hcapeq]; simpa [maxLen] using hm), ?_⟩
   have hh' : w'.heap[g]? = some (blk e ((xs ++ ys) ++ cur.toList.drop (xs.length + ys.length))) := by
    unfold blk; rw [← hsplit]; exact hh
   rcases hblk with hsame | hnew
   ·
    cases ob with
    | none => simp [ownV, Value.ownBlock] at hsame
    | some b0 =>
     have hgb : g = b0 := by simpa [ownV, Value.ownBlock] using hsame
     subst hgb
     exact hS.turn hk hg.os hg.tape hg.output hg.size hh' fun c hc hne => hg.block c hc (by simp [ownV, Value.ownBlock, hne])
   ·
    have hgn : g = w.heap.size := by simpa [Value.ownBlock] using hnew
    by_cases hob0 : ob = none
    ·
     subst hob0
     refine hS.swap hk rfl ⟨hg.os, hg.tape, hg.output, hg.size, fun c hc => hg.block c hc (by simp [ownV, Value.ownBlock])⟩ (some g) _ fun b hb => ?_
     injection hb with hb
     subst hb
     exact ⟨by omega, hh'⟩
    ·
     obtain ⟨b0, rfl⟩ := Option.ne_none_iff_exists'.1 hob0
     have hdrop : St w0 w' (H.set k ⟨true, some g, blk e ((xs ++ ys) ++ cur.toList.drop (xs.length + ys.length))⟩) := by
      have hkl : k < H.length := (List.getElem?_eq_some_iff.1 hk).1
      have hlt : b0 < w.heap.size := hS.lt (List.mem_of_getElem? hk) rfl
      have hS1 : St w0 w (H.set k ⟨true, none, blk e []⟩) := hS.swap hk rfl (Ext.refl w) none _ fun b hb => by cases hb
      have hk1 : (H.set k ⟨true, none, blk e []⟩)[k]? = some ⟨true, none, blk e []⟩ := by rw [List.getElem?_set, if_pos rfl, if_pos hkl]
      have hne : ∀ d ∈ H.set k ⟨true, none, blk e []⟩, d.ob ≠ some b0 := by
       intro d hd hdb
       obtain ⟨j, hj⟩ := List.getElem?_of_mem hd
       rw [List.getElem?_set] at hj
       by_cases hjk : k = j
       ·
        subst hjk
        rw [if_pos rfl, if_pos hkl] at hj
        injection hj with hj
        subst hj
        cases hdb
       ·
        rw [if_neg hjk] at hj
        exact hjk (hS.once k j _ d b0 hk hj rfl hdb)
      have hnew0 : w0.heap.size ≤ b0 := hS.new _ (List.mem_of_getElem? hk) rfl b0 rfl
      have hS2 : St w0 w' (H.set k ⟨true, none, blk e []⟩) :=
       ⟨hg.os.trans hS1.os, hg.tape.trans hS1.tape, hg.output.trans hS1.output, Nat.le_trans hS1.size hg.size,
        fun c hc hn => (hg.block c (Nat.lt_of_lt_of_le hc hS1.size) (by simp [ownV, Value.ownBlock]; omega)).trans (hS1.old c hc hn),
        fun d hd c hdc => (hg.block c (hS1.lt hd hdc) (by simp only [ownV, Value.ownBlock, ne_eq, Option.some.injEq]; rintro rfl; exact hne d hd hdc)).trans (hS1.has d hd c hdc), hS1.new, hS1.once⟩
      have hlts : ∀ d ∈ H.set k ⟨true, none, blk e []⟩, ∀ c, d.ob = some c → c < w.heap.size := hS1.lts
      have := St.attach (w := w) hS2 hlts hS.size (some g) (blk e ((xs ++ ys) ++ cur.toList.drop (xs.length + ys.length))) fun b hb => by
       injection hb with hb
       subst hb
       exact ⟨by omega, hh'⟩
      refine ⟨this.os, this.tape, this.output, this.size, fun c hc hn => this.old c hc fun d hd hf => ?_, fun d hd => this.has d ?_, fun d hd => this.new d ?_, fun i j ei ej c hi hj h1 h2 => ?_⟩
      ·
       rcases List.mem_cons.1 hd with rfl | hd
       ·
        cases hf
       ·
        obtain ⟨j, hj⟩ := List.getElem?_of_mem hd
        rw [List.getElem?_set] at hj
        by_cases hjk : k = j
        ·
         subst hjk
         rw [if_pos rfl, if_pos hkl] at hj
         injection hj with hj
         subst hj
         cases hf
        ·
         rw [if_neg hjk] at hj
         exact hn d (List.mem_of_getElem? (i := j) (by rw [List.getElem?_set, if_neg hjk]; exact hj)) hf
      ·
       obtain ⟨j, hj⟩ := List.getElem?_of_mem hd
       rw [List.getElem?_set] at hj
       by_cases hjk : k = j
       ·
        subst hjk
        rw [if_pos rfl, if_pos hkl] at hj
        injection hj with hj
        subst hj
        exact List.mem_cons_self
       ·
        rw [if_neg hjk] at hj
        exact List.mem_cons_of_mem _ (List.mem_of_getElem? (i := j) (by rw [List.getElem?_set, if_neg hjk]; exact hj))
      ·
       obtain ⟨j, hj⟩ := List.getElem?_of_mem hd
       rw [List.getElem?_set] at hj
       by_cases hjk : k = j
       ·
        subst hjk
        rw [if_pos rfl, if_pos hkl] at hj
        injection hj with hj
        subst hj
        exact List.mem_cons_self
       ·
        rw [if_neg hjk] at hj
        exact List.mem_cons_of_mem _ (List.mem_of_getElem? (i := j) (by rw [List.getElem?_set, if_neg hjk]; exact hj))
      ·
       have place : ∀ i d, (H.set k ⟨true, some g, blk e ((xs ++ ys) ++ cur.toList.drop (xs.length + ys.length))⟩)[i]? = some d →
         ((⟨true, some g, blk e ((xs ++ ys) ++ cur.toList.drop (xs.length + ys.length))⟩ : Ent) :: H.set k ⟨true, none, blk e []⟩)[if i = k then 0 else i + 1]? = some d := fun i d hi => by
        rw [List.getElem?_set] at hi
        by_cases hik : k = i
        ·
         subst hik
         rw [if_pos rfl, if_pos hkl] at hi
         simpa using hi
        ·
         rw [if_neg hik] at hi
         rw [if_neg (fun e => hik e.symm)]
         simp only [List.getElem?_cons_succ]
         rw [List.getElem?_set, if_neg hik]
         exact hi
       have := this.once _ _ ei ej c (place i ei hi) (place j ej hj) h1 h2
       split at this <;> split at this <;> omega
     exact hdrop
theorem run_appendOp {x y : Operand} {t : TypeId} {s v r : Value} {w' : World} (ho : o.op = .call { callee := .builtin .append, args := #[x, y], argTypes := #[t, t] }) (hx : a.eval x = s) (hy : a.eval y = v) (hr : (Builtin.append_ #[t, t] o.type #[s, v]).run P w = .ok r w') :
  (execOp a.eval o).run P w = .ok (.value r) w' := by
 unfold execOp
 rw [ho]
 simp [resolve, invoke, builtin, hx, hy, hr]
theorem stp_append {x y : Operand} {t e : TypeId} {z : Value} {by_ : Nat} {ob : Option Nat} {xs pad ys : List Value} {v : Value} {d k : Nat} (hF : Fr N a m) (hw : Region.wanted o (yielded ops a.tmps) = true) (hd : o.dst = some d) (hN : Nat.blt d N = true)
  (ho : o.op = .call { callee := .builtin .append, args := #[x, y], argTypes := #[t, t] }) (ht : P.underlying t = some (.slice e)) (hty : Ty P e z 1 by_) (hzc : z.cells.size = 1)
  (hx : a.eval x = ownV ob xs.length (xs.length + pad.length)) (hy : a.eval y = v) (hS : St w0 w H) (hk : H[k]? = some ⟨true, ob, blk e (xs ++ pad)⟩) (hob : ob = none → xs = [] ∧ pad = []) (hcap : xs.length + pad.length ≤ 9223372036854775807)
  (hr : Rd w v ys) (h1 : ∀ u ∈ ys, u.oneCell' = true) (hb : (xs.length + ys.length) * by_ ≤ 140737488355328) (hn : xs.length + ys.length ≤ 140737488355328)
  (h : ∀ ob' pad' a' w', Fr N a' ((d, ownV ob' (xs.length + ys.length) (xs.length + ys.length + pad'.length)) :: m) → (ob' = none → xs ++ ys = [] ∧ pad' = []) → xs.length + ys.length + pad'.length ≤ 9223372036854775807 →
   St w0 w' (H.set k ⟨true, ob', blk e ((xs ++ ys) ++ pad')⟩) → K a' w') : Stp P ops Q o a w K := by
 obtain ⟨ob', pad', w', hrun, h2, h3, h4⟩ := run_append_St (ty := o.type) ht hty hzc hS hk hob hcap hr h1 hb hn
 exact stp_val hF hw hd hN (run_appendOp ho hx hy hrun) fun a' hF' => h ob' pad' a' w' hF' h2 h3 h4
variable {fl : List Nat} {KK : Act → Prop} {i : Nat}
theorem dw_gv (hF : Fr N a m) (hfl : fl.contains i = false) (hw : Region.wanted o (yielded ops a.tmps) = true) {d : Nat} {v : Value} (hd : o.dst = some d) (hN : Nat.blt d N = true) (hv : ∀ w', Ext w w' → Gv P o a w' v) (h : ∀ a', Fr N a' ((d, v) :: m) → dwalk P ops w fl KK (i + 1) rest a') :
  dwalk P ops w fl KK i (o :: rest) a := by
 unfold dwalk
 rw [if_neg (by simpa using hfl)]
 exact .inl ⟨hw, v, fun w' hx => .inl (hv w' hx), by rw [hd]; exact h _ (hF.put v hN)⟩
theorem dw_skip (hF : Fr N a m) (hfl : fl.contains i = false) (hw : Region.wanted o (yielded ops a.tmps) = false) {d : Nat} (hd : o.dst = some d) (hN : Nat.blt d N = true) (h : ∀ a', Fr N a' ((d, undef) :: m) → dwalk P ops w fl KK (i + 1) rest a') :
  dwalk P ops w fl KK i (o :: rest) a := by
 unfold dwalk
 rw [if_neg (by simpa using hfl)]
 exact .inr ⟨hw, by rw [hd]; exact h _ (hF.put _ hN)⟩
theorem dw_call {f : FuncId} {xs : List Operand} {vs : List Value} {ats : Array TypeId} (hF : Fr N a m) (hfl : fl.contains i = false) (hw : Region.wanted o (yielded ops a.tmps) = true) {d : Nat} {v : Value} (hd : o.dst = some d) (hN : Nat.blt d N = true) (hf : CallOk P f)
  (ho : o.op = .call { callee := .value (.func f), args := xs.toArray, argTypes := ats }) (hx : Evs a xs vs) (hc : ∀ w', Ext w w' → Calls P f vs.toArray w' fun e w'' => e = .returned v ∧ Ext w' w'')
  (h : ∀ a', Fr N a' ((d, v) :: m) → dwalk P ops w fl KK (i + 1) rest a') : dwalk P ops w fl KK i (o :: rest) a := by
 unfold dwalk
 rw [if_neg (by simpa using hfl)]
 exact .inl ⟨hw, v, fun w' hx' => .inr (.inr ⟨f, _, run_callOp hf ho hx, hc w' hx'⟩), by rw [hd]; exact h _ (hF.put v hN)⟩
theorem dw_fl (hfl : fl.contains i = true) (h : dwalk P ops w fl KK (i + 1) rest a) : dwalk P ops w fl KK i (o :: rest) a := by
 unfold dwalk
 rw [if_pos (by simpa using hfl)]
 exact h
theorem dw_nil (h : KK a) : dwalk P ops w fl KK i [] a := h
theorem dwalk_mono {KK' : Act → Prop} (hk : ∀ A, KK A → KK' A) : ∀ (l : List Oper) (i : Nat) (a : Act), dwalk P ops w fl KK i l a → dwalk P ops w fl KK' i l a
 | [], _, a, h => hk a h
 | o :: l, i, a, h => by
  unfold dwalk at h ⊢
  split
  ·
   rename_i hf; rw [if_pos hf] at h; exact dwalk_mono hk l _ _ h
  ·
   rename_i hf
   rw [if_neg hf] at h
   rcases h with ⟨hw, v, hv, h⟩ | ⟨hw, h⟩
   ·
    exact .inl ⟨hw, v, hv, dwalk_mono hk l _ _ h⟩
   ·
    exact .inr ⟨hw, dwalk_mono hk l _ _ h⟩
theorem run_head0 {n0 n : Nat} (l : List Oper) (hF : Fr N a m) (hB : headB ops N n0 n [] = true) (hl : (ops.toList.drop n0).take (n - n0) = l)
  (h : dwalk P ops w [] (fun A => ∀ a' w', (∀ mm, Fr N A mm → Fr N a' mm) → Ext w w' → Run P ops Q n a' w') n0 l a) : Run P ops Q n0 a w := by
 refine run_head N n0 n [] (fun _ _ _ => True) l hB hl hF.size (fun _ _ _ _ _ _ => trivial)
  (dwalk_mono (fun A hA => ⟨fun i o _ _ _ hf => (by cases hf), fun a' w' hx hs hd hsl _ => hA a' w' (fun mm hm => ⟨hs, hd.trans hF.dfs, fun t v hv => ?_⟩) hx⟩) _ _ _ h)
 rw [hsl t fun i o _ _ _ hf => (by cases hf)]
 exact hm.get t v hv
theorem run_head1 {n0 n : Nat} (l : List Oper) (i1 d1 : Nat) (o1 : Oper) (R : Value → World → Prop) (hF : Fr N a m) (hB : headB ops N n0 n [i1] = true) (hl : (ops.toList.drop n0).take (n - n0) = l) (ho1 : ops[i1]? = some o1) (hd1 : o1.dst = some d1) (hR : Lasts R)
  (h : dwalk P ops w [i1] (fun A => FO P w o1 A R ∧ ∀ a' w' v, R v w' → (∀ mm, Fr N A mm → Fr N a' ((d1, v) :: mm)) → Ext w w' → Run P ops Q n a' w') n0 l a) (h1 : n0 ≤ i1) (h2 : i1 < n) : Run P ops Q n0 a w := by
 refine run_head N n0 n [i1] (fun _ => R) l hB hl hF.size (fun _ => hR)
  (dwalk_mono (fun A hA => ⟨fun i o _ _ ho hf => ?_, fun a' w' hx hs hd hsl hr => ?_⟩) _ _ _ h)
 ·
  have : i = i1 := by simpa using hf
  subst this
  have : o = o1 := Option.some.inj (ho.symm.trans ho1)
  subst this
  exact hA.1
 ·
  refine hA.2 a' w' (slot a' d1) (hr i1 o1 d1 h1 h2 ho1 (by simp) hd1) (fun mm hm => ⟨hs, hd.trans hF.dfs, fun t v hv => ?_⟩) hx
  by_cases ht : t = d1
  ·
   subst ht
   rw [look_cons_eq] at hv
   injection hv
  ·
   rw [look_cons_ne ht] at hv
   rw [hsl t fun i o _ _ ho hf hdt => ?_]
   ·
    exact hm.get t v hv
   ·
    have : i = i1 := by simpa using hf
    subst this
    have : o = o1 := Option.some.inj (ho.symm.trans ho1)
    subst this
    rw [hd1] at hdt
    injection hdt with hdt
    exact ht hdt.symm
end
end Go.Fw
set_option linter.unusedVariables false
set_option linter.unusedSimpArgs false
namespace Go.Fw
open Go Go.RowKit
section
variable {P : Program} {ops : Array Oper} {Q : Exit → Act → World → Prop} {N : Nat} {a : Act} {m : List (Nat × Value)} {o : Oper} {w w0 : World} {K : Act → World → Prop} {rest : List Oper} {H : List Ent}
theorem wp_cut {x y : Code} (Φ : Act → World → Prop) (h1 : x.wp P (Exit.then Φ Q) a w) (h2 : ∀ a w, Φ a w → y.wp P Q a w) : (Code.seq x y).wp P Q a w := by
 refine wp_seq (Code.wp_mono (fun e a w h => ?_) h1)
 cases e <;> first | exact h2 _ _ h | exact h
theorem cond_dec {p : Prop} [Decidable p] {c : Operand} {x y : Code} (hc : a.eval c = .bool (decide p)) (h1 : p → x.wp P Q a w) (h2 : ¬ p → y.wp P Q a w) : (Code.cond c x y).wp P Q a w := by
 by_cases h : p
 ·
  exact wp_cond_true (by rw [hc, decide_eq_true h]) (h1 h)
 ·
  exact wp_cond_false (by rw [hc, decide_eq_false h]) (h2 h)
theorem wp_region_draw {id : Nat} {l : List Oper} (hm : P.follows .mixedOrders = true) (h : ∀ w', Ext w w' → Run P l.toArray Q 0 a w') : (Code.region id l.toArray true).wp P Q a w :=
 wp_region_run hm (h _ (Ext.drew w))
theorem wp_loop_n {c : Code} (I : Nat → Act → World → Prop) (n0 : Nat) (h0 : I n0 a w) (round : ∀ n a w, I n a w → c.wp P (Exit.then (fun a' w' => ∃ n', n' < n ∧ I n' a' w') Q) a w) : (Code.loop c).wp P Q a w := by
 have least : ∀ a w, (∃ n, I n a w) → ∃ n, I n a w ∧ ∀ k, k < n → ¬ I k a w := by
  intro a w ⟨n, hn⟩
  induction n using Nat.strongRecOn with
  | _ n ih =>
   by_cases h : ∃ k, k < n ∧ I k a w
   ·
    obtain ⟨k, hk, hI⟩ := h
    exact ih k hk hI
   ·
    exact ⟨n, hn, fun k hk hI => h ⟨k, hk, hI⟩⟩
 let μ : Act → World → Nat := fun a w => Classical.epsilon fun n => I n a w ∧ ∀ k, k < n → ¬ I k a w
 have hμ : ∀ a w, (∃ n, I n a w) → I (μ a w) a w ∧ ∀ k, k < μ a w → ¬ I k a w := fun a w h => Classical.epsilon_spec (least a w h)
 refine wp_loop (fun a w => ∃ n, I n a w) μ ⟨n0, h0⟩ fun a w hI => ?_
 refine Code.wp_mono (fun e a' w' h => ?_) (round _ a w (hμ a w hI).1)
 cases e with
 | normal =>
  obtain ⟨n', hlt, hn'⟩ := h
  refine ⟨⟨n', hn'⟩, Nat.lt_of_le_of_lt (Nat.le_of_not_lt fun hc => (hμ a' w' ⟨n', hn'⟩).2 n' hc hn') hlt⟩
 | _ => exact h
theorem then_normal {K : Act → World → Prop} (h : K a w) : Exit.then K Q .normal a w := h
theorem then_ret {K : Act → World → Prop} (h : Q .ret a w) : Exit.then K Q .ret a w := h
theorem then_exit {K : Act → World → Prop} {i : Nat} (h : Q (.exit i) a w) : Exit.then K Q (.exit i) a w := h
theorem block_normal {i : Nat} (h : Q .normal a w) : Exit.inBlock i Q .normal a w := h
theorem block_ret {i : Nat} (h : Q .ret a w) : Exit.inBlock i Q .ret a w := h
theorem block_exit {i : Nat} (h : Q .normal a w) : Exit.inBlock i Q (.exit i) a w := by simp only [Exit.inBlock, if_true]; exact h
theorem block_exit_ne {i j : Nat} (h0 : j ≠ i) (h : Q (.exit j) a w) : Exit.inBlock i Q (.exit j) a w := by simp only [Exit.inBlock, if_neg h0]; exact h
theorem ret1 {fn : Func} {R : Ending → World → Prop} {t : Nat} {v : Value} (hF : Fr N a m) (hr : fn.results = #[.tmp t]) (hl : look t m = some v) (h : R (.returned v) w) : bodyPost P fn R .ret a w :=
 bodyPost_ret (v := v) (by rw [results_tmp hr]; exact congrArg (fun x => Result.ok x w) (hF.get t v hl)) hF.dfs h
theorem ret2 {fn : Func} {R : Ending → World → Prop} {t u : Nat} {v x : Value} (hF : Fr N a m) (hr : fn.results = #[.tmp t, .tmp u]) (hl : look t m = some v) (hl' : look u m = some x) (h : R (.returned (.tuple #[v, x])) w) : bodyPost P fn R .ret a w :=
 bodyPost_ret (v := .tuple #[v, x]) (by rw [results_tmp2 hr]; have h1 := hF.get t v hl; have h2 := hF.get u x hl'; unfold slot at h1 h2; rw [h1, h2]) hF.dfs h
theorem end0 {fn : Func} {R : Ending → World → Prop} (hF : Fr N a m) (hr : fn.results = #[]) (h : R (.returned (.tuple #[])) w) : bodyPost P fn R .normal a w :=
 bodyPost_end (v := .tuple #[]) (results_none hr _ _ _) hF.dfs h
theorem retCell {fn : Func} {R : Ending → World → Prop} {t : Nat} {ty : TypeId} {d : TypeDesc} {b k : Nat} {nw : Bool} {T : TypeId} {vs : List Value} (hF : Fr N a m) (hr : fn.results = #[.cell t ty]) (ht : P.underlying ty = some d) (hd : (match d with | .struct _ | .array _ _ => true | _ => false) = true)
  (hz : (P.info? ty).map (·.size) = some vs.length) (hl : look t m = some (.pointer (some ⟨b, 0, none⟩))) (hS : St w0 w H) (hk : H[k]? = some ⟨nw, some b, blk T vs⟩) (h : R (.returned (.agg vs.toArray)) w) : bodyPost P fn R .ret a w := by
 have h1 := hF.get t _ hl
 unfold slot at h1
 have h2 := run_loadVar_row (P := P) w b T ty vs.toArray (0, 0) d (hS.has _ (List.mem_of_getElem? hk) b rfl) ht hd (by simpa using hz)
 exact bodyPost_ret (v := .agg vs.toArray) (by
  have h1' : a.tmps[t]?.getD undef = .pointer (some ⟨b, 0, none⟩) := by rw [← h1, Array.getD_eq_getD_getElem?]
  simp [results, hr, h1', asAddr, h2]) hF.dfs h
def blkB (t : TypeId) (l : List UInt8) : Obj := blk t (l.map vB)
def blkN (t : TypeId) (l : List Nat) : Obj := blk t (l.map vI)
def blkW (t : TypeId) (l : List UInt32) : Obj := blk t (l.map vW)
def blkD (t : TypeId) (l : List UInt64) : Obj := blk t (l.map vD)
theorem cell_ix {b i j : Nat} {v : Value} (h : w.cell? ⟨b, j, none⟩ = some v) (e : i = j) : w.cell? ⟨b, i, none⟩ = some v := by rw [e]; exact h
theorem map_at {α : Type} {f : α → Value} {l : List α} {i : Nat} (h : i < l.length) (d : α) : (l.map f)[i]? = some (f (l.getD i d)) := by
 rw [List.getElem?_map, List.getElem?_eq_getElem h, List.getD_eq_getElem?_getD, List.getElem?_eq_getElem h]; rfl
theorem St.cellB (hS : St w0 w H) {k : Nat} {nw : Bool} {b : Nat} {t : TypeId} {l : List UInt8} (hk : H[k]? = some ⟨nw, some b, blkB t l⟩) (j : Nat) (hj : j < l.length) : w.cell? ⟨b, j, none⟩ = some (vB (l.getD j 0)) := hS.cell hk (map_at hj 0)
theorem St.cellN (hS : St w0 w H) {k : Nat} {nw : Bool} {b : Nat} {t : TypeId} {l : List Nat} (hk : H[k]? = some ⟨nw, some b, blkN t l⟩) (j : Nat) (hj : j < l.length) : w.cell? ⟨b, j, none⟩ = some (vI (l.getD j 0)) := hS.cell hk (map_at hj 0)
theorem St.cellW (hS : St w0 w H) {k : Nat} {nw : Bool} {b : Nat} {t : TypeId} {l : List UInt32} (hk : H[k]? = some ⟨nw, some b, blkW t l⟩) (j : Nat) (hj : j < l.length) : w.cell? ⟨b, j, none⟩ = some (vW (l.getD j 0)) := hS.cell hk (map_at hj 0)
theorem St.cellD (hS : St w0 w H) {k : Nat} {nw : Bool} {b : Nat} {t : TypeId} {l : List UInt64} (hk : H[k]? = some ⟨nw, some b, blkD t l⟩) (j : Nat) (hj : j < l.length) : w.cell? ⟨b, j, none⟩ = some (vD (l.getD j 0)) := hS.cell hk (map_at hj 0)
theorem one_map {α : Type} {f : α → Value} (hf : ∀ x, (f x).oneCell' = true) (l : List α) : ∀ u ∈ l.map f, u.oneCell' = true := by
 intro u hu
 obtain ⟨x, _, rfl⟩ := List.mem_map.1 hu
 exact hf x
theorem one_B (l : List UInt8) : ∀ u ∈ l.map vB, u.oneCell' = true := one_map (fun _ => rfl) l
theorem one_N (l : List Nat) : ∀ u ∈ l.map vI, u.oneCell' = true := one_map (fun _ => rfl) l
theorem one_D (l : List UInt64) : ∀ u ∈ l.map vD, u.oneCell' = true := one_map (fun _ => rfl) l
section stores
variable {t : TypeId} {x y : Operand} {b i : Nat} {k : Nat} {nw : Bool} {T : TypeId}
theorem stp_storeAt {v : Value} {cs : List Value} (j : Nat) (hF : Fr N a m) (hw : Region.wanted o (yielded ops a.tmps) = true) (hd : o.dst = none) (ho : o.op = .store t x y) (hz : (P.info? t).map (·.size) = some 1)
  (hx : a.eval x = .pointer (some ⟨b, i, none⟩)) (hij : i = j) (hy : a.eval y = v) (hv : v.oneCell' = true) (hS : St w0 w H) (hk : H[k]? = some ⟨nw, some b, blk T cs⟩) (hi : j < cs.length) (h : ∀ w', St w0 w' (H.set k ⟨nw, some b, blk T (cs.set j v)⟩) → K a w') : Stp P ops Q o a w K := by
 subst hij
 exact stp_store hF hw hd ho hz hx hy hv hS hk hi h
theorem stp_storeB {v : UInt8} {l : List UInt8} (j : Nat) (hF : Fr N a m) (hw : Region.wanted o (yielded ops a.tmps) = true) (hd : o.dst = none) (ho : o.op = .store t x y) (hz : (P.info? t).map (·.size) = some 1)
  (hx : a.eval x = .pointer (some ⟨b, i, none⟩)) (hij : i = j) (hy : a.eval y = vB v) (hS : St w0 w H) (hk : H[k]? = some ⟨nw, some b, blkB T l⟩) (hi : j < l.length) (h : ∀ w', St w0 w' (H.set k ⟨nw, some b, blkB T (l.set j v)⟩) → K a w') : Stp P ops Q o a w K :=
 stp_storeAt j hF hw hd ho hz hx hij hy rfl hS hk (by simpa using hi) fun w' h' => h w' (by unfold blkB; rw [List.map_set]; exact h')
theorem stp_storeN {v : Nat} {l : List Nat} (j : Nat) (hF : Fr N a m) (hw : Region.wanted o (yielded ops a.tmps) = true) (hd : o.dst = none) (ho : o.op = .store t x y) (hz : (P.info? t).map (·.size) = some 1)
  (hx : a.eval x = .pointer (some ⟨b, i, none⟩)) (hij : i = j) (hy : a.eval y = vI v) (hS : St w0 w H) (hk : H[k]? = some ⟨nw, some b, blkN T l⟩) (hi : j < l.length) (h : ∀ w', St w0 w' (H.set k ⟨nw, some b, blkN T (l.set j v)⟩) → K a w') : Stp P ops Q o a w K :=
 stp_storeAt j hF hw hd ho hz hx hij hy rfl hS hk (by simpa using hi) fun w' h' => h w' (by unfold blkN; rw [List.map_set]; exact h')
theorem stp_storeW {v : UInt32} {l : List UInt32} (j : Nat) (hF : Fr N a m) (hw : Region.wanted o (yielded ops a.tmps) = true) (hd : o.dst = none) (ho : o.op = .store t x y) (hz : (P.info? t).map (·.size) = some 1)
  (hx : a.eval x = .pointer (some ⟨b, i, none⟩)) (hij : i = j) (hy : a.eval y = vW v) (hS : St w0 w H) (hk : H[k]? = some ⟨nw, some b, blkW T l⟩) (hi : j < l.length) (h : ∀ w', St w0 w' (H.set k ⟨nw, some b, blkW T (l.set j v)⟩) → K a w') : Stp P ops Q o a w K :=
 stp_storeAt j hF hw hd ho hz hx hij hy rfl hS hk (by simpa using hi) fun w' h' => h w' (by unfold blkW; rw [List.map_set]; exact h')
theorem stp_storeD {v : UInt64} {l : List UInt64} (j : Nat) (hF : Fr N a m) (hw : Region.wanted o (yielded ops a.tmps) = true) (hd : o.dst = none) (ho : o.op = .store t x y) (hz : (P.info? t).map (·.size) = some 1)
  (hx : a.eval x = .pointer (some ⟨b, i, none⟩)) (hij : i = j) (hy : a.eval y = vD v) (hS : St w0 w H) (hk : H[k]? = some ⟨nw, some b, blkD T l⟩) (hi : j < l.length) (h : ∀ w', St w0 w' (H.set k ⟨nw, some b, blkD T (l.set j v)⟩) → K a w') : Stp P ops Q o a w K :=
 stp_storeAt j hF hw hd ho hz hx hij hy rfl hS hk (by simpa using hi) fun w' h' => h w' (by unfold blkD; rw [List.map_set]; exact h')
theorem stp_storeAll {cs vs : List Value} (hF : Fr N a m) (hw : Region.wanted o (yielded ops a.tmps) = true) (hd : o.dst = none) (ho : o.op = .store t x y) (hz : (P.info? t).map (·.size) = some vs.length)
  (hx : a.eval x = .pointer (some ⟨b, 0, none⟩)) (hy : a.eval y = .agg vs.toArray) (hv : ∀ u ∈ vs, u.oneCell' = true) (hS : St w0 w H) (hk : H[k]? = some ⟨nw, some b, blk T cs⟩) (hl : vs.length = cs.length) (h : ∀ w', St w0 w' (H.set k ⟨nw, some b, blk T vs⟩) → K a w') : Stp P ops Q o a w K :=
 stp_storeAgg hF hw hd ho hz hx hy hv hS hk (by omega) fun w' h' => h w' (by
  have e : cs.take 0 ++ vs ++ cs.drop (0 + vs.length) = vs := by simp [hl]
  rw [e] at h'; exact h')
theorem stp_storeAggAt {vs cs : List Value} (j : Nat) (hF : Fr N a m) (hw : Region.wanted o (yielded ops a.tmps) = true) (hd : o.dst = none) (ho : o.op = .store t x y) (hz : (P.info? t).map (·.size) = some vs.length)
  (hx : a.eval x = .pointer (some ⟨b, i, none⟩)) (hij : i = j) (hy : a.eval y = .agg vs.toArray) (hv : ∀ u ∈ vs, u.oneCell' = true) (hS : St w0 w H) (hk : H[k]? = some ⟨nw, some b, blk T cs⟩) (hi : j + vs.length ≤ cs.length)
  (h : ∀ w', St w0 w' (H.set k ⟨nw, some b, blk T (cs.take j ++ vs ++ cs.drop (j + vs.length))⟩) → K a w') : Stp P ops Q o a w K := by
 subst hij
 exact stp_storeAgg hF hw hd ho hz hx hy hv hS hk hi h
end stores
def splice {α : Type} (K : List α) (o : Nat) (t : List α) : List α := K.take o ++ t ++ K.drop (o + t.length)
theorem splice_len {α : Type} {K t : List α} {o : Nat} (h : o + t.length ≤ K.length) : (splice K o t).length = K.length := by simp [splice]; omega
theorem splice_map {α : Type} {f : α → Value} {K t : List α} {o : Nat} {R : List Value} (h : o + t.length ≤ K.length) :
  (K.map f ++ R).take o ++ t.map f ++ (K.map f ++ R).drop (o + (t.map f).length) = (splice K o t).map f ++ R := by
 simp only [splice, List.map_append, List.length_map]
 rw [List.take_append_of_le_length (by simp; omega), List.drop_append_of_le_length (by simp; omega)]
 simp [List.map_take, List.map_drop]
theorem part_map {α : Type} {f : α → Value} {K : List α} {o n : Nat} {R : List Value} (h : o + n ≤ K.length) :
  ((K.map f ++ R).drop o).take (((K.drop o).take n).map f).length = ((K.drop o).take n).map f := by
 rw [List.drop_append_of_le_length (by simp; omega)]
 have hl : (((K.drop o).take n).map f).length = n := by simp; omega
 rw [hl, List.take_append_of_le_length (by simp; omega)]
 simp [List.map_take, List.map_drop]
theorem part_map0 {α : Type} {f : α → Value} {K : List α} {o n : Nat} (h : o + n ≤ K.length) : ((K.map f).drop o).take (((K.drop o).take n).map f).length = ((K.drop o).take n).map f := by
 have := part_map (f := f) (R := []) h
 rwa [List.append_nil] at this
theorem arr_at {α : Type} {f : α → Value} {l : List α} {i : Nat} (h : i < l.length) (d : α) : ((l.map f).toArray)[i]? = some (f (l.getD i d)) := by
 rw [List.getElem?_toArray]; exact map_at h d
theorem part_len {α : Type} {f : α → Value} {K : List α} {o n : Nat} (h : o + n ≤ K.length) : (((K.drop o).take n).map f).length = n := by simp; omega
theorem set_map {α : Type} {f : α → Value} {K : List α} {i : Nat} {v : α} {R : List Value} (h : i < K.length) : (K.map f ++ R).set i (f v) = (K.set i v).map f ++ R := by
 rw [List.set_append, if_pos (by simpa using h), List.map_set]
theorem set_map2 {α : Type} {f : α → Value} {A B : List Value} {K : List α} {i n : Nat} {v : α} (hA : A.length = n) (h : i < K.length) : (A ++ (K.map f ++ B)).set (n + i) (f v) = A ++ ((K.set i v).map f ++ B) := by
 rw [List.set_append, if_neg (by omega), show n + i - A.length = i by omega, set_map h]
theorem at_map {α : Type} {f : α → Value} {K : List α} {i : Nat} {R : List Value} (h : i < K.length) (d : α) : (K.map f ++ R)[i]? = some (f (K.getD i d)) := by
 rw [List.getElem?_append_left (by simpa using h)]; exact map_at h d
theorem at_map2 {α : Type} {f : α → Value} {A B : List Value} {K : List α} {i n : Nat} (hA : A.length = n) (h : i < K.length) (d : α) : (A ++ (K.map f ++ B))[n + i]? = some (f (K.getD i d)) := by
 rw [List.getElem?_append_right (by omega), show n + i - A.length = i by omega]; exact at_map h d
def FlB (w : World) (e : TypeId) (cs : List Value) : Value → World → Prop := fun v w' => ∃ b, v = .pointer (some ⟨b, 0, none⟩) ∧ w.heap.size ≤ b ∧ w'.heap[b]? = some (blk e cs)
theorem FlB.lasts (w : World) (e : TypeId) (cs : List Value) : Lasts (FlB w e cs) := fun v w1 w2 ⟨b, hv, hb, hh⟩ hx => ⟨b, hv, hb, (hx.block b (heap_lt hh)).trans hh⟩
theorem fo_alloc {e : TypeId} {z : Value} {cs : List Value} (ho : o.op = .alloc e) (hz : (P.info? e).map (·.zero) = some (some z)) (hc : z.cells = cs.toArray) : FO P w o a (FlB w e cs) := fun w1 hx =>
 .inl ⟨_, _, run_allocOp ho hz hc, Ext.alloc _ _, ⟨_, rfl, hx.size, heap_alloc_new w1 _⟩⟩
def FlS (w : World) (e : TypeId) (n : Nat) (cs : List Value) : Value → World → Prop := fun v w' => ∃ b, v = .slice (some ⟨b, 0, none⟩) n n ∧ w.heap.size ≤ b ∧ w'.heap[b]? = some (blk e cs)
theorem FlS.lasts (w : World) (e : TypeId) (n : Nat) (cs : List Value) : Lasts (FlS w e n cs) := fun v w1 w2 ⟨b, hv, hb, hh⟩ hx => ⟨b, hv, hb, (hx.block b (heap_lt hh)).trans hh⟩
theorem St.float {w' : World} (hS : St w0 w H) (hx : Ext w w') {b : Nat} {o : Obj} (h1 : w.heap.size ≤ b) (h2 : w'.heap[b]? = some o) : St w0 w' (⟨true, some b, o⟩ :: H) :=
 (hS.ext hx).attach hS.lts hS.size _ _ fun c hc => by
  injection hc with hc
  subst hc
  exact ⟨h1, h2⟩
theorem Ext.keep {w' : World} (h : Ext w w') {b : Nat} {o : Obj} (hb : w.heap[b]? = some o) : w'.heap[b]? = some o := (h.block b (heap_lt hb)).trans hb
theorem cell_of {b i : Nat} {T : TypeId} {cs : List Value} {v : Value} (hb : w.heap[b]? = some (blk T cs)) (hv : cs[i]? = some v) : w.cell? ⟨b, i, none⟩ = some v := (cell_blk hb).trans hv
theorem Rd.isB {v : Value} {l : List UInt8} (h : Rd w v (l.map vB)) : ∃ A c, v = .slice A l.length c ∧ l.length ≤ c ∧ c ≤ 9223372036854775807 ∧ (0 < l.length → ∃ b o, A = some ⟨b, o, none⟩ ∧ ∀ i, i < l.length → w.cell? ⟨b, o + i, none⟩ = some (vB (l.getD i 0))) := by
 obtain ⟨A, c, hv, h1, h2, h3⟩ := h.is
 rw [List.length_map] at hv h1 h3
 refine ⟨A, c, hv, h1, h2, fun hp => ?_⟩
 obtain ⟨b, o, hA, hc⟩ := h3 hp
 exact ⟨b, o, hA, fun i hi => hc i _ (map_at hi 0)⟩
theorem Rd.rdcell {b o n c : Nat} {xs : List Value} (h : Rd w (.slice (some ⟨b, o, none⟩) n c) xs) {j : Nat} {u : Value} (hu : xs[j]? = some u) : w.cell? ⟨b, o + j, none⟩ = some u := by
 obtain ⟨A, c', hv, _, _, hc⟩ := h.is
 injection hv with hA _ _
 subst hA
 have hj : j < xs.length := (List.getElem?_eq_some_iff.1 hu).1
 obtain ⟨b', o', hA, hc⟩ := hc (by omega)
 injection hA with hA
 injection hA with h1 h2 _
 subst h1; subst h2
 exact hc j u hu
theorem Rd.cellB {b o n c : Nat} {l : List UInt8} (h : Rd w (.slice (some ⟨b, o, none⟩) n c) (l.map vB)) (i : Nat) (hi : i < l.length) : w.cell? ⟨b, o + i, none⟩ = some (vB (l.getD i 0)) := by
 obtain ⟨A, c', hv, _, _, hc⟩ := h.isB
 injection hv with hA _ _
 subst hA
 obtain ⟨b', o', hA, hc⟩ := hc (by omega)
 injection hA with hA
 injection hA with h1 h2 _
 subst h1; subst h2
 exact hc i hi
theorem gv_toArr {t e : TypeId} {x : Operand} {n len c : Nat} {A : Option Addr} (ho : o.op = .sliceToArrayPointer t x) (ht : P.underlying t = some (.array n e)) (hx : a.eval x = .slice A len c) (hl : n ≤ len) : Gv P o a w (.pointer A) := by
 unfold Gv execOp; rw [ho]
 have := Nat.not_lt.2 hl
 simp [hx, Instr.arrayAt, run_und ht, this]
theorem gv_pickT {c x y : Operand} {v : Value} (ho : o.op = .pick c x y) (hc : a.eval c = .bool true) (hv : a.eval x = v) : Gv P o a w v := gv_pick ho hc (by simpa using hv)
theorem gv_pickF {c x y : Operand} {v : Value} (ho : o.op = .pick c x y) (hc : a.eval c = .bool false) (hv : a.eval y = v) : Gv P o a w v := gv_pick ho hc (by simpa using hv)
def EvP (a : Act) : List (Nat × Operand) → List (Nat × Value) → Prop
 | [], [] => True
 | (i, x) :: l, (j, v) :: m => (i = j ∧ a.eval x = v) ∧ EvP a l m
 | _, _ => False
theorem EvP.nil : EvP a [] [] := trivial
theorem EvP.cons {x : Operand} {v : Value} {i : Nat} {l : List (Nat × Operand)} {pl : List (Nat × Value)} (hx : a.eval x = v) (h : EvP a l pl) : EvP a ((i, x) :: l) ((i, v) :: pl) := ⟨⟨rfl, hx⟩, h⟩
theorem EvP.map : ∀ {l : List (Nat × Operand)} {pl : List (Nat × Value)}, EvP a l pl → l.map (fun p => (p.1, a.eval p.2)) = pl
 | [], [], _ => rfl
 | (i, x) :: l, (j, v) :: m, h => by obtain ⟨⟨rfl, rfl⟩, h2⟩ := h; rw [List.map_cons, EvP.map h2]
 | [], _ :: _, h => h.elim
 | _ :: _, [], h => h.elim
theorem foldl_zip (o : Nat) : ∀ (vs : List Value) (k : Nat) (zs : List Value), o + k + vs.length ≤ zs.length →
  (vs.zipIdx k).foldl (fun (cs : Array Value) p => cs.setIfInBounds (o + p.2) p.1) zs.toArray = (zs.take (o + k) ++ vs ++ zs.drop (o + k + vs.length)).toArray
 | [], k, zs, _ => by simp
 | v :: vs, k, zs, h => by
  simp only [List.length_cons] at h
  rw [List.zipIdx_cons, List.foldl_cons]
  have e : zs.toArray.setIfInBounds (o + k) v = (zs.set (o + k) v).toArray := by simp
  rw [e, foldl_zip o vs (k + 1) (zs.set (o + k) v) (by simp; omega)]
  congr 1
  have h1 : (zs.set (o + k) v).take (o + (k + 1)) = zs.take (o + k) ++ [v] := by
   rw [show o + (k + 1) = (o + k) + 1 by omega, List.take_set, List.take_succ_eq_append_getElem (by omega)]
   have hm : min (o + k) zs.length = o + k := Nat.min_eq_left (by omega)
   rw [List.set_append, if_neg (by simp [hm])]
   simp [hm]
  have h2 : (zs.set (o + k) v).drop (o + (k + 1) + vs.length) = zs.drop (o + k + (v :: vs).length) := by
   rw [List.drop_set, if_pos (by omega)]
   simp only [List.length_cons]
   congr 1
   omega
  rw [h1, h2]
  simp
theorem fill_cons {place : Nat → Option (Nat × Nat)} {zs vs : List Value} {i off : Nat} {v : Value} {rest : List (Nat × Value)} (hp : place i = some (off, vs.length)) (hv : v.cells = vs.toArray) (h : off + vs.length ≤ zs.length) :
  Instr.fill place zs.toArray ((i, v) :: rest) = Instr.fill place (splice zs off vs).toArray rest := by
 rw [Instr.fill, hp]
 simp only [hv]
 rw [if_neg (by simp; omega)]
 congr 1
 have := foldl_zip off vs 0 zs (by simpa using h)
 rw [← Array.foldl_toList]
 simpa [splice] using this
theorem fill_nil {place : Nat → Option (Nat × Nat)} {zs : Array Value} : Instr.fill place zs [] = some zs := rfl
theorem run_buildStr {t : TypeId} {fs : Array Field} {places : Array (Nat × Nat)} {z : Value} {zs cs : Array Value} {pl : List (Nat × Value)} (ht : P.underlying t = some (.struct fs)) (hz : (P.info? t).map (·.zero) = some (some z)) (hzs : z.cells = zs)
  (hpl : ∀ w, (fs.mapM fun f => (do pure (f.offset, ← sizeOf f.type) : Sem (Nat × Nat))).run P w = .ok places w) (hf : Instr.fill (places[·]?) zs pl = some cs) : (Instr.build t pl.toArray).run P w = .ok (.agg cs) w := by
 simp only [Instr.build, Sem.run_bind, run_zeroValue hz, Result.andThen_ok, run_und ht, hzs]
 rw [hpl w]
 simp only [Result.andThen_ok, hf, Sem.run_pure]
theorem run_buildArr {t e : TypeId} {n sz : Nat} {z : Value} {zs cs : Array Value} {pl : List (Nat × Value)} (ht : P.underlying t = some (.array n e)) (hs : (P.info? e).map (·.size) = some sz) (hz : (P.info? t).map (·.zero) = some (some z)) (hzs : z.cells = zs)
  (hf : Instr.fill (fun i => some (i * sz, sz)) zs pl = some cs) : (Instr.build t pl.toArray).run P w = .ok (.agg cs) w := by
 simp only [Instr.build, Sem.run_bind, run_zeroValue hz, Result.andThen_ok, run_und ht, run_sizeOf hs, hzs, hf, Sem.run_pure]
theorem gv_build {t : TypeId} {l : List (Nat × Operand)} {pl : List (Nat × Value)} {v : Value} (ho : o.op = .build t l.toArray) (hp : l.map (fun p => (p.1, a.eval p.2)) = pl) (hr : (Instr.build t pl.toArray).run P w = .ok v w) : Gv P o a w v := by
 unfold Gv execOp; rw [ho]
 have : l.toArray.map (fun x => match x with | (i, x) => (i, a.eval x)) = pl.toArray := by
  rw [List.map_toArray, ← hp]
 simp only [this, Sem.run_bind, hr, Result.andThen_ok, Sem.run_pure]
theorem gv_loadPart {t : TypeId} {d : TypeDesc} {x : Operand} {b i k : Nat} {nw : Bool} {T : TypeId} {cs vs : List Value} (ho : o.op = .load t x) (ht : P.underlying t = some d) (hd : (match d with | .struct _ | .array _ _ => true | _ => false) = true) (hz : (P.info? t).map (·.size) = some vs.length)
  (hx : a.eval x = .pointer (some ⟨b, i, none⟩)) (hS : St w0 w H) (hk : H[k]? = some ⟨nw, some b, blk T cs⟩) (hv : (cs.drop i).take vs.length = vs) : Gv P o a w (.agg vs.toArray) :=
 gv_loadAgg ho ht hd hz hx fun j u hu => hS.cell hk (by
  rw [← hv, List.getElem?_take] at hu
  split at hu
  ·
   rw [List.getElem?_drop] at hu; exact hu
  ·
   cases hu)
theorem gv_loadPartAt {t : TypeId} {d : TypeDesc} {x : Operand} {b i j k : Nat} {nw : Bool} {T : TypeId} {cs vs : List Value} (ho : o.op = .load t x) (ht : P.underlying t = some d) (hd : (match d with | .struct _ | .array _ _ => true | _ => false) = true) (hz : (P.info? t).map (·.size) = some vs.length)
  (hx : a.eval x = .pointer (some ⟨b, i, none⟩)) (hij : i = j) (hS : St w0 w H) (hk : H[k]? = some ⟨nw, some b, blk T cs⟩) (hv : (cs.drop j).take vs.length = vs) : Gv P o a w (.agg vs.toArray) := by
 subst hij
 exact gv_loadPart ho ht hd hz hx hS hk hv
theorem gv_loadAll {t : TypeId} {d : TypeDesc} {x : Operand} {b k : Nat} {nw : Bool} {T : TypeId} {cs : List Value} (ho : o.op = .load t x) (ht : P.underlying t = some d) (hd : (match d with | .struct _ | .array _ _ => true | _ => false) = true) (hz : (P.info? t).map (·.size) = some cs.length)
  (hx : a.eval x = .pointer (some ⟨b, 0, none⟩)) (hS : St w0 w H) (hk : H[k]? = some ⟨nw, some b, blk T cs⟩) : Gv P o a w (.agg cs.toArray) :=
 gv_loadPart ho ht hd hz hx hS hk (by simp)
end
end Go.Fw

namespace Go.Fw
open Go Go.RowKit
section
variable {P : Program} {ops : Array Oper} {Q : Exit → Act → World → Prop} {N : Nat} {m : List (Nat × Value)} {a : Act} {w : World} {o : Oper} {rest : List Oper}
theorem wg (hF : Fr N a m) (hg : o.guard = none) {d : Nat} {v : Value} (hd : o.dst = some d) (hN : Nat.blt d N = true) (hv : Gv P o a w v) (h : ∀ a', Fr N a' ((d, v) :: m) → wpList P ops Q rest a' w) : wpList P ops Q (o :: rest) a w := wpList_stp (stp_gv hF (wanted_none hg) hd hN hv h)
theorem dg {fl : List Nat} {KK : Act → Prop} {i : Nat} (hF : Fr N a m) (hfl : fl.contains i = false) (hg : o.guard = none) {d : Nat} {v : Value} (hd : o.dst = some d) (hN : Nat.blt d N = true) (hv : ∀ w', Ext w w' → Gv P o a w' v) (h : ∀ a', Fr N a' ((d, v) :: m) → dwalk P ops w fl KK (i + 1) rest a') : dwalk P ops w fl KK i (o :: rest) a := dw_gv hF hfl (wanted_none hg) hd hN hv h
theorem wN (h : Q .normal a w) : wpList P ops Q [] a w := h
theorem wR {id : Nat} {l : List Oper} (h : wpList P l.toArray Q l a w) : (Code.region id l.toArray false).wp P Q a w := wp_region_lit h
theorem wK {x y : Code} (h : ∀ K : Act → World → Prop, (∀ a w, y.wp P Q a w → K a w) → x.wp P (Exit.then K Q) a w) : (Code.seq x y).wp P Q a w := wp_seq_k h
theorem tN {K : Act → World → Prop} (h : K a w) : Exit.then K Q .normal a w := h
end
end Go.Fw
set_option linter.unusedVariables false
set_option linter.unusedSimpArgs false
namespace Go.Fw
open Go Go.RowKit
section
variable {P : Program} {N : Nat} {a : Act} {m : List (Nat × Value)} {o : Oper} {w w0 w' : World} {H : List Ent}
theorem St.reorder {H' : List Ent} (h : St w0 w H) (hm : ∀ e, e ∈ H' ↔ e ∈ H) (ho : ∀ (i j : Nat) (ei ej : Ent) (b : Nat), H'[i]? = some ei → H'[j]? = some ej → ei.ob = some b → ej.ob = some b → i = j) : St w0 w H' :=
 ⟨h.os, h.tape, h.output, h.size, fun b hb hn => h.old b hb fun e he => hn e ((hm e).2 he), fun e he => h.has e ((hm e).1 he), fun e he => h.new e ((hm e).1 he), ho⟩
theorem St.move (h : St w0 w H) {k : Nat} {e : Ent} (hk : H[k]? = some e) : St w0 w (e :: H.eraseIdx k) := by
 have hkl : k < H.length := (List.getElem?_eq_some_iff.1 hk).1
 have back : ∀ (i : Nat) (d : Ent), (e :: H.eraseIdx k)[i]? = some d → ∃ j, H[j]? = some d ∧ j = (if i = 0 then k else if i ≤ k then i - 1 else i) := by
  intro i d hd
  cases i with
  | zero => simp only [List.getElem?_cons_zero, Option.some.injEq] at hd; subst hd; exact ⟨k, hk, by simp⟩
  | succ i =>
   simp only [List.getElem?_cons_succ, List.getElem?_eraseIdx] at hd
   by_cases hik : i < k
   ·
    rw [if_pos hik] at hd
    exact ⟨i, hd, by rw [if_neg (by omega), if_pos (by omega)]; omega⟩
   ·
    rw [if_neg hik] at hd
    exact ⟨i + 1, hd, by rw [if_neg (by omega), if_neg (by omega)]⟩
 refine h.reorder (fun d => ⟨fun hd => ?_, fun hd => ?_⟩) fun i j ei ej b hi hj h1 h2 => ?_
 ·
  obtain ⟨i, hi⟩ := List.getElem?_of_mem hd
  obtain ⟨j, hj, _⟩ := back i d hi
  exact List.mem_of_getElem? hj
 ·
  obtain ⟨j, hj⟩ := List.getElem?_of_mem hd
  by_cases hjk : j = k
  ·
   subst hjk
   rw [hk] at hj
   injection hj with hj
   subst hj
   exact List.mem_cons_self
  ·
   refine List.mem_cons_of_mem _ (List.mem_of_getElem? (i := if j < k then j else j - 1) ?_)
   rw [List.getElem?_eraseIdx]
   by_cases hjk' : j < k
   ·
    rw [if_pos hjk', if_pos hjk']; exact hj
   ·
    rw [if_neg hjk', if_neg (by omega), show j - 1 + 1 = j by omega]; exact hj
 ·
  obtain ⟨x, hx, ex⟩ := back i ei hi
  obtain ⟨y, hy, ey⟩ := back j ej hj
  have := h.once x y ei ej b hx hy h1 h2
  split at ex <;> split at ey <;> (try split at ex) <;> (try split at ey) <;> omega
theorem St.join {M : List Ent} (h : St w0 w H) (hc : St w w' M) (hn : ∀ e ∈ M, e.nw = true) : St w0 w' (M ++ H) := by
 have h' := h.ext (hc.toExt hn)
 refine ⟨h'.os, h'.tape, h'.output, h'.size, fun b hb hne => h'.old b hb fun e he => hne e (List.mem_append_right _ he), fun e he b hb => ?_, fun e he hw b hb => ?_, fun i j ei ej b hi hj h1 h2 => ?_⟩
 ·
  rcases List.mem_append.1 he with he | he
  ·
   exact hc.has e he b hb
  ·
   exact h'.has e he b hb
 ·
  rcases List.mem_append.1 he with he | he
  ·
   have := hc.new e he hw b hb; have := h.size; omega
  ·
   exact h'.new e he hw b hb
 ·
  have part : ∀ (i : Nat) (e : Ent), (M ++ H)[i]? = some e → (i < M.length ∧ M[i]? = some e) ∨ (M.length ≤ i ∧ H[i - M.length]? = some e) := fun i e hi => by
   by_cases hl : i < M.length
   ·
    rw [List.getElem?_append_left hl] at hi; exact .inl ⟨hl, hi⟩
   ·
    rw [List.getElem?_append_right (by omega)] at hi; exact .inr ⟨by omega, hi⟩
  rcases part i ei hi with ⟨a1, a2⟩ | ⟨a1, a2⟩ <;> rcases part j ej hj with ⟨b1, b2⟩ | ⟨b1, b2⟩
  ·
   exact hc.once i j ei ej b a2 b2 h1 h2
  ·
   have := hc.new ei (List.mem_of_getElem? a2) (hn _ (List.mem_of_getElem? a2)) b h1
   have := h.lt (List.mem_of_getElem? b2) h2
   omega
  ·
   have := hc.new ej (List.mem_of_getElem? b2) (hn _ (List.mem_of_getElem? b2)) b h2
   have := h.lt (List.mem_of_getElem? a2) h1
   omega
  ·
   have := h.once _ _ ei ej b a2 b2 h1 h2; omega
def SRd (w0 : World) (T : List Ent) (v : Value) (xs : List Value) : Prop := ∀ w H, St w0 w H → (∀ e ∈ H, e.nw = true) → (∀ e ∈ T, e ∈ H) → Rd w v xs
theorem SRd.old {T : List Ent} {v : Value} {xs : List Value} (h : Rd w0 v xs) : SRd w0 T v xs := fun w H hS hn _ => h.ext (hS.toExt hn)
theorem SRd.mono {T T' : List Ent} {v : Value} {xs : List Value} (h : SRd w0 T v xs) (ht : ∀ e ∈ T, e ∈ T') : SRd w0 T' v xs := fun w H hS hn hs => h w H hS hn fun e he => hs e (ht e he)
theorem SRd.ent {T : List Ent} {nw : Bool} {b : Nat} {t : TypeId} {cs : List Value} (he : ⟨nw, some b, blk t cs⟩ ∈ T) (o n c : Nat) (hn : o + n ≤ cs.length) (hc : n ≤ c) (hc' : c ≤ 9223372036854775807) : SRd w0 T (.slice (some ⟨b, o, none⟩) n c) ((cs.drop o).take n) := fun w H hS _ hs => by
 obtain ⟨k, hk⟩ := List.getElem?_of_mem (hs _ he)
 exact hS.rdOf hk o n c hn hc hc'
theorem SRd.nil {T : List Ent} : SRd w0 T (.slice none 0 0) [] := fun w _ _ _ _ => Rd.nil w
theorem SRd.arr {T : List Ent} {nw : Bool} {b : Nat} {t : TypeId} {l : List UInt8} {n : Nat} (he : ⟨nw, some b, blkB t l⟩ ∈ T) (hl : l.length = n) (hn : n ≤ 9223372036854775807) : SRd w0 T (.slice (some ⟨b, 0, none⟩) n n) (l.map vB) := by
 have := SRd.ent (w0 := w0) (cs := l.map vB) he 0 n n (by simp [hl]) (Nat.le_refl _) hn
 rwa [List.drop_zero, List.take_of_length_le (by simp [hl])] at this
theorem SRd.own {T : List Ent} {nw : Bool} {ob : Option Nat} {t : TypeId} {xs pad : List Value} (he : ⟨nw, ob, blk t (xs ++ pad)⟩ ∈ T) (hob : ob = none → xs = [] ∧ pad = []) (hc : xs.length + pad.length ≤ 9223372036854775807) : SRd w0 T (ownV ob xs.length (xs.length + pad.length)) xs := by
 cases ob with
 | none => obtain ⟨rfl, rfl⟩ := hob rfl; exact SRd.nil
 | some b =>
  have := SRd.ent (w0 := w0) he 0 xs.length (xs.length + pad.length) (by simp) (by omega) hc
  simpa [ownV] using this
theorem own_some {α β : Type} {ob : Option Nat} {xs : List α} {pad : List β} (hob : ob = none → xs = [] ∧ pad = []) (h : 0 < xs.length) : ∃ b, ob = some b := by
 cases ob with
 | none => rw [(hob rfl).1] at h; cases h
 | some b => exact ⟨b, rfl⟩
theorem nw_nil : ∀ e ∈ ([] : List Ent), e.nw = true := fun _ h => by cases h
theorem nw_cons {e : Ent} {T : List Ent} (h : e.nw = true) (ht : ∀ d ∈ T, d.nw = true) : ∀ d ∈ e :: T, d.nw = true := fun d hd => by
 rcases List.mem_cons.1 hd with rfl | hd
 ·
  exact h
 ·
  exact ht d hd
theorem gv_lenOwn {t e : TypeId} {ob : Option Nat} {n c : Nat} {x : Operand} (ho : o.op = .call { callee := .builtin .len, args := #[x], argTypes := #[t] }) (ht : P.underlying t = some (.slice e)) (hx : a.eval x = ownV ob n c) (hob : ob = none → n = 0) : Gv P o a w (vI n) := by
 cases ob with
 | none => rw [hob rfl]; exact gv_len ho ht hx
 | some b => exact gv_len ho ht hx
def cutV (A : Option Addr) (n c lo : Nat) : Value := .slice (if c = lo then A else A.map (·.add lo)) (n - lo) (c - lo)
theorem gv_sliceLo {t e : TypeId} {x y : Operand} {A : Option Addr} {n c lo : Nat} (ho : o.op = .slice t x (some y) none none) (ht : P.underlying t = some (.slice e)) (hz : (P.info? e).map (·.size) = some 1) (hx : a.eval x = .slice A n c) (hy : a.eval y = vI lo) (h : lo ≤ n) : Gv P o a w (cutV A n c lo) := by
 unfold Gv execOp; rw [ho]
 have h1 : (0 : Int) ≤ (lo : Int) ∧ (lo : Int) ≤ (n : Int) := ⟨by omega, by omega⟩
 simp [hx, hy, vI, Instr.sliceAt, Instr.slice, run_und ht, Instr.sliceBounds, Instr.sliceBound, asIntOf, h1, h, Fw.run_sizeOf hz, cutV]
theorem gv_sliceHi {t e : TypeId} {x y : Operand} {A : Option Addr} {n c hi : Nat} (ho : o.op = .slice t x none (some y) none) (ht : P.underlying t = some (.slice e)) (hz : (P.info? e).map (·.size) = some 1) (hx : a.eval x = .slice A n c) (hy : a.eval y = vI hi) (h : hi ≤ c) : Gv P o a w (.slice A hi c) := by
 unfold Gv execOp; rw [ho]
 have h1 : (0 : Int) ≤ (hi : Int) ∧ (hi : Int) ≤ (c : Int) := ⟨by omega, by omega⟩
 by_cases hc : c = 0
 ·
  have : hi = 0 := by omega
  subst this; subst hc
  simp [hx, hy, vI, Instr.sliceAt, Instr.slice, run_und ht, Instr.sliceBounds, Instr.sliceBound, asIntOf, Fw.run_sizeOf hz]
 ·
  cases A <;> simp [hx, hy, vI, Instr.sliceAt, Instr.slice, run_und ht, Instr.sliceBounds, Instr.sliceBound, asIntOf, h1, h, Fw.run_sizeOf hz, hc, Addr.add]
theorem gv_sliceArr {t e : TypeId} {x : Operand} {n b off : Nat} (ho : o.op = .slice t x none none none) (ht : P.underlying t = some (.array n e)) (hz : (P.info? e).map (·.size) = some 1) (hx : a.eval x = .pointer (some ⟨b, off, none⟩)) : Gv P o a w (.slice (some ⟨b, off, none⟩) n n) := by
 unfold Gv execOp; rw [ho]
 by_cases hn : n = 0 <;> simp [hx, Instr.sliceAt, run_und ht, Instr.sureAddr, Instr.sliceBounds, Fw.run_sizeOf hz, hn, Addr.add]
theorem Rd.cutLo {A : Option Addr} {n c lo : Nat} {xs : List Value} (h : Rd w (.slice A n c) xs) (hl : lo ≤ n) : Rd w (cutV A n c lo) (xs.drop lo) := by
 obtain ⟨A', c', hv, h1, h2, h3⟩ := h.is
 injection hv with hA hn hc
 subst hA; subst hc; subst hn
 have hlen : (xs.drop lo).length = xs.length - lo := by simp
 refine ⟨_, c - lo, by rw [hlen]; rfl, by omega, by omega, fun hp => ?_⟩
 obtain ⟨b, o, hA, hcell⟩ := h3 (by omega)
 subst hA
 refine ⟨b, o + lo, by rw [if_neg (by omega)]; simp [add_lit], fun i u hu => ?_⟩
 rw [Nat.add_assoc]
 exact hcell (lo + i) u (by rw [← hu, List.getElem?_drop])
theorem Rd.cutHi {A : Option Addr} {n c hi : Nat} {xs : List Value} (h : Rd w (.slice A n c) xs) (hl : hi ≤ n) : Rd w (.slice A hi c) (xs.take hi) := by
 obtain ⟨A', c', hv, h1, h2, h3⟩ := h.is
 injection hv with hA hn hc
 subst hA; subst hc; subst hn
 have hlen : (xs.take hi).length = hi := by simp; omega
 refine ⟨A, c, by rw [hlen], by omega, h2, fun hp => ?_⟩
 obtain ⟨b, o, hA, hcell⟩ := h3 (by omega)
 refine ⟨b, o, hA, fun i u hu => hcell i u ?_⟩
 rw [List.getElem?_take] at hu
 split at hu
 ·
  exact hu
 ·
  cases hu
theorem SRd.cutLo {T : List Ent} {A : Option Addr} {n c lo : Nat} {xs : List Value} (h : SRd w0 T (.slice A n c) xs) (hl : lo ≤ n) : SRd w0 T (cutV A n c lo) (xs.drop lo) := fun w H hS hn hs => (h w H hS hn hs).cutLo hl
theorem SRd.cutHi {T : List Ent} {A : Option Addr} {n c hi : Nat} {xs : List Value} (h : SRd w0 T (.slice A n c) xs) (hl : hi ≤ n) : SRd w0 T (.slice A hi c) (xs.take hi) := fun w H hS hn hs => (h w H hS hn hs).cutHi hl
end
end Go.Fw
set_option linter.unusedVariables false
namespace Go.Fw
open Go Go.RowKit Go.ChangeShapes Go.WideShapes
theorem cells_bytes {cs : List Value} (h : ∀ v ∈ cs, ∃ n : Int, v = .int .u8 n ∧ IntKind.u8.has n) : ∃ bl : List UInt8, bl.length = cs.length ∧ cs = bl.map vB := by
 induction cs with
 | nil => exact ⟨[], rfl, rfl⟩
 | cons v cs ih =>
  obtain ⟨bl, h1, h2⟩ := ih fun u hu => h u (List.mem_cons_of_mem _ hu)
  obtain ⟨n, rfl, hn⟩ := h v List.mem_cons_self
  have hb : 0 ≤ n ∧ n ≤ 255 := hn
  refine ⟨UInt8.ofNat n.toNat :: bl, by simp [h1], ?_⟩
  rw [h2, List.map_cons]
  congr 1
  unfold vB
  congr 1
  rw [UInt8.toNat_ofNat']
  omega
end Go.Fw
namespace Go.Fw
open Go Go.RowKit Go.ChangeShapes Go.WideShapes
theorem rd_ints {w : World} {a : Addr} {len cap : Nat} {zs : List Int} (hl : len ≤ cap) (hm : cap ≤ maxLen) (hz : zs.length = cap) (hc : ∀ i, i < zs.length → w.cell? (a.add i) = some (.int .u8 (zs.getD i 0))) (hwf : ∀ n ∈ zs, (Lit.int .u8 n).wf = true) : ∃ l : List UInt8, Rd w (.slice (some a) len cap) (l.map vB) := by
 obtain ⟨l, h1, h2⟩ := cells_bytes (cs := (zs.take len).map (Value.int .u8)) fun v hv => by
  obtain ⟨n, hn, rfl⟩ := List.mem_map.1 hv
  refine ⟨n, rfl, ?_⟩
  have := bounds_u8 (hwf n (List.mem_of_mem_take hn))
  exact this
 rw [List.length_map, List.length_take, hz, Nat.min_eq_left hl] at h1
 refine ⟨l, ?_⟩
 rw [← h2]
 refine ⟨some a, cap, by simp [hz, Nat.min_eq_left hl], by simp [hz]; omega, ?_, fun hp => ?_⟩
 ·
  have : maxLen = 9223372036854775807 := rfl
  omega
 ·
  have hp' : 0 < zs.length := by simp at hp; omega
  obtain ⟨b, off, rfl, hj⟩ := ints_at hc hp'
  refine ⟨b, off, rfl, fun i v hv => ?_⟩
  have hi : i < zs.length := by
   have := (List.getElem?_eq_some_iff.1 hv).1
   simp at this; omega
  rw [hj i hi, ← hv]
  have hi' : i < len := by
   have := (List.getElem?_eq_some_iff.1 hv).1
   simp at this; omega
  simp [hi', List.getD_eq_getElem?_getD, List.getElem?_eq_getElem hi]
end Go.Fw
namespace Go.Fw
open Go Go.RowKit Go.ChangeShapes Go.WideShapes
theorem open_i64 {P : Program} {w : World} {r : Reach} {base : Nat} {t : TypeId} {v : Value} (ht : P.underlying t = some (.int .i64)) (h : Value.okWide P w r base t v) : ∃ p : Int, v = .int .i64 p ∧ -9223372036854775808 ≤ p ∧ p ≤ 9223372036854775807 := by
 simp only [Value.okWide, ht, Cell.okWide] at h
 cases v <;> simp [Cell.ok, ht] at h
 obtain ⟨rfl, h⟩ := h
 exact ⟨_, rfl, h⟩
end Go.Fw
set_option linter.unusedVariables false
set_option linter.unusedSimpArgs false
namespace Go.Fw
open Go Go.RowKit Go.ChangeShapes Go.WideShapes Go.Deep
theorem weights_all {H : Type} {P : Program} {e : TypeId} : ∀ {l : List (DataW H)} {d : DataW H}, d ∈ l → ∀ n ∈ d.weights P e, n ∈ DataW.weightsAll P e l
 | x :: l, d, hd, n, hn => by
  simp only [DataW.weightsAll, List.mem_append]
  rcases List.mem_cons.1 hd with rfl | hd
  ·
   exact .inl hn
  ·
   exact .inr (weights_all hd n hn)
theorem rd_ints_len {w : World} {a : Addr} {len cap : Nat} {zs : List Int} (hl : len ≤ cap) (hm : cap ≤ maxLen) (hz : zs.length = cap) (hc : ∀ i, i < zs.length → w.cell? (a.add i) = some (.int .u8 (zs.getD i 0))) (hwf : ∀ n ∈ zs, (Lit.int .u8 n).wf = true) : ∃ l : List UInt8, Rd w (.slice (some a) len cap) (l.map vB) ∧ l.length = len := by
 obtain ⟨l, hr⟩ := rd_ints hl hm hz hc hwf
 refine ⟨l, hr, ?_⟩
 obtain ⟨A, c, h1, _⟩ := hr.is
 injection h1 with _ h2 _
 simpa using h2.symm
end Go.Fw
set_option linter.unusedVariables false
set_option linter.unusedSimpArgs false
namespace Go.Fw
open Go Go.RowKit
section guarded
variable {P : Program} {N : Nat} {a : Act} {w w0 : World} {m : List (Nat × Value)} {o : Oper} {ops : Array Oper} {K : Act → World → Prop} {Q : Exit → Act → World → Prop}
theorem stp_gvG {p : Prop} [Decidable p] (hF : Fr N a m) {j t : Nat} (hg : o.guard = some (j, true)) (hj : (ops[j]?).bind (·.dst) = some t) (hl : look t m = some (.bool (decide p))) {d : Nat} {v : Value} (hd : o.dst = some d) (hN : Nat.blt d N = true)
  (hv : p → Gv P o a w v) (h : ∀ a', Fr N a' ((d, if p then v else undef) :: m) → K a' w) : Stp P ops Q o a w K := by
 by_cases hp : p
 ·
  rw [decide_eq_true hp] at hl
  exact stp_gv hF (wanted_of hF hg hj hl) hd hN (hv hp) (by simpa [hp] using h)
 ·
  rw [decide_eq_false hp] at hl
  exact stp_skip hF (unwanted_of hF hg hj hl rfl) hd hN (by simpa [hp] using h)
theorem stp_gvG' {p : Prop} [Decidable p] (hF : Fr N a m) {j t : Nat} (hg : o.guard = some (j, false)) (hj : (ops[j]?).bind (·.dst) = some t) (hl : look t m = some (.bool (decide p))) {d : Nat} {v : Value} (hd : o.dst = some d) (hN : Nat.blt d N = true)
  (hv : ¬ p → Gv P o a w v) (h : ∀ a', Fr N a' ((d, if p then undef else v) :: m) → K a' w) : Stp P ops Q o a w K := by
 by_cases hp : p
 ·
  rw [decide_eq_true hp] at hl
  exact stp_skip hF (unwanted_of hF hg hj hl rfl) hd hN (by simpa [hp] using h)
 ·
  rw [decide_eq_false hp] at hl
  exact stp_gv hF (wanted_of hF hg hj hl) hd hN (hv hp) (by simpa [hp] using h)
theorem gv_pickAnd {p q : Prop} [Decidable p] [Decidable q] {c x y : Operand} (ho : o.op = .pick c x y) (hc : a.eval c = .bool (decide p)) (hx : a.eval x = if p then .bool (decide q) else undef) (hy : a.eval y = .bool false) : Gv P o a w (.bool (decide (p ∧ q))) := by
 refine gv_pick ho hc ?_
 by_cases hp : p
 ·
  simp [hp, hx]
 ·
  simp [hp, hy]
theorem gv_pickOr {p q : Prop} [Decidable p] [Decidable q] {c x y : Operand} (ho : o.op = .pick c x y) (hc : a.eval c = .bool (decide p)) (hx : a.eval x = .bool true) (hy : a.eval y = if p then undef else .bool (decide q)) : Gv P o a w (.bool (decide (p ∨ q))) := by
 refine gv_pick ho hc ?_
 by_cases hp : p
 ·
  simp [hp, hx]
 ·
  simp [hp, hy]
end guarded
section bytes
variable {P : Program} {N : Nat} {a : Act} {w w0 : World} {m : List (Nat × Value)} {H : List Ent} {o : Oper} {ops : Array Oper} {K : Act → World → Prop} {Q : Exit → Act → World → Prop}
abbrev vN (x : UInt8) : Value := vI x.toNat
def blkM (t : TypeId) (l : List UInt8) : Obj := blk t (l.map vN)
theorem rep_vN (n : Nat) : (List.replicate n (0 : Nat)).map vI = (List.replicate n (0 : UInt8)).map vN := by simp [vN]
theorem rep_blkM (t : TypeId) (n : Nat) : blk t ((List.replicate n (0 : Nat)).map vI) = blkM t (List.replicate n (0 : UInt8)) := by rw [rep_vN]; rfl
theorem one_M (l : List UInt8) : ∀ u ∈ l.map vN, u.oneCell' = true := one_map (fun _ => rfl) l
theorem St.cellM (hS : St w0 w H) {k : Nat} {nw : Bool} {b : Nat} {t : TypeId} {l : List UInt8} (hk : H[k]? = some ⟨nw, some b, blkM t l⟩) (j : Nat) (hj : j < l.length) : w.cell? ⟨b, j, none⟩ = some (vN (l.getD j 0)) := hS.cell hk (map_at (f := vN) hj 0)
theorem stp_storeM {t : TypeId} {x y : Operand} {b i : Nat} {k : Nat} {nw : Bool} {T : TypeId} {v : UInt8} {l : List UInt8} (j : Nat) (hF : Fr N a m) (hw : Region.wanted o (yielded ops a.tmps) = true) (hd : o.dst = none) (ho : o.op = .store t x y) (hz : (P.info? t).map (·.size) = some 1)
  (hx : a.eval x = .pointer (some ⟨b, i, none⟩)) (hij : i = j) (hy : a.eval y = vN v) (hS : St w0 w H) (hk : H[k]? = some ⟨nw, some b, blkM T l⟩) (hi : j < l.length) (h : ∀ w', St w0 w' (H.set k ⟨nw, some b, blkM T (l.set j v)⟩) → K a w') : Stp P ops Q o a w K :=
 stp_storeAt j hF hw hd ho hz hx hij hy rfl hS hk (by simpa using hi) fun w' h' => h w' (by unfold blkM; rw [List.map_set]; exact h')
theorem gv_x8 {t t' : TypeId} {x y : Operand} {m n : UInt8} (ho : o.op = .binOp .xor t x y t') (hx : a.eval x = vN m) (hy : a.eval y = vN n) : Gv P o a w (vN (m ^^^ n)) := by
 have h1 := m.toNat_lt
 have h2 := n.toNat_lt
 have := gv_n_xor (P := P) (w := w) ho hx hy (by omega) (by omega)
 unfold vN
 rwa [UInt8.toNat_xor]
theorem gv_conv_n_b {s d : TypeId} {x : Operand} {m : UInt8} (ho : o.op = .convert s d x) (hs : P.underlying s = some (.int .i64)) (hd : P.underlying d = some (.int .u8)) (hx : a.eval x = vN m) : Gv P o a w (vB m) := by
 have := gv_conv_i_b (P := P) (w := w) ho hs hd hx
 rwa [UInt8.ofNat_toNat] at this
end bytes
end Go.Fw
set_option linter.unusedVariables false
set_option linter.unusedSimpArgs false
namespace Go.Fw
open Go Go.RowKit
section
variable {P : Program} {N : Nat} {a : Act} {w w0 : World} {m : List (Nat × Value)} {H : List Ent} {o : Oper} {ops : Array Oper} {K : Act → World → Prop} {Q : Exit → Act → World → Prop} {x y : Operand} {t t' d s e : TypeId}
def sV (l : List UInt8) : Value := .string ⟨l.toArray⟩
theorem sV_toList (l : List UInt8) : (ByteArray.mk l.toArray).toList = l := by rw [ByteArray.toList_eq]
theorem beqd (l l' : List UInt8) : (l == l') = decide (l = l') := by rw [Bool.eq_iff_iff]; simp
theorem sV_size (l : List UInt8) : (ByteArray.mk l.toArray).size = l.length := by simp [ByteArray.size]
theorem gv_convStr {v : Value} {l : List UInt8} (ho : o.op = .convert s d x) (hs : P.underlying s = some (.slice e)) (he : P.underlying e = some (.int .u8)) (hd : P.underlying d = some .string) (hx : a.eval x = v) (hr : Rd w v (l.map vB)) : Gv P o a w (sV l) := by
 have key : (convert s d v).run P w = .ok (sV l) w := by
  obtain ⟨A, c, rfl, h1, h2, h3⟩ := hr.isB
  cases A with
  | none =>
   have hl : l = [] := by
    cases l with
    | nil => rfl
    | cons z l => obtain ⟨b, o, hb, _⟩ := h3 (by simp); cases hb
   subst hl
   exact run_convert_bytes_nil w s e hs he _ _ d hd
  | some A =>
   obtain ⟨b, off, sp⟩ := A
   by_cases hl : 0 < l.length
   ·
    obtain ⟨b', o', hb, hc⟩ := h3 hl
    injection hb with hb
    injection hb with hb1 hb2 hb3
    subst hb1 hb2 hb3
    have := run_convert_bytes_arg w s e hs he b off l.length c (l.map fun z => (z.toNat : Int)) (by simp) (fun i hi => by
     rw [hc i hi]
     simp [vB, List.getD_eq_getElem?_getD, List.getElem?_map, List.getElem?_eq_getElem hi]) d hd
    rw [this]
    simp [strOfNums, sV, Function.comp_def]
   ·
    have hl : l = [] := List.length_eq_zero_iff.1 (by omega)
    subst hl
    rw [run_convert_bytes_string w s d e _ _ _ hs he hd]
    have := run_bytesToString (P := P) w ⟨b, off, sp⟩ 0 c [] (by rfl)
    exact this
 simp [Gv, execOp, ho, hx, key]
theorem gv_str (op : BinOp) (ho : o.op = .binOp op t x y t') {p q v : Value} (hp : ∃ s, p = .string s) (hx : a.eval x = p) (hy : a.eval y = q) (hr : (binOp op t p q).run P w = .ok v w) : Gv P o a w v := by
 obtain ⟨s, rfl⟩ := hp
 simp [Gv, execOp, ho, hx, hy, eqGuard_at_string, hr]
theorem gv_strEql {l l' : List UInt8} (ho : o.op = .binOp .eql t x y t') (hx : a.eval x = sV l) (hy : a.eval y = sV l') : Gv P o a w (.bool (decide (l = l'))) :=
 gv_str .eql ho ⟨_, rfl⟩ hx hy (by
  show Result.ok (Value.bool ((ByteArray.mk l.toArray).toList == (ByteArray.mk l'.toArray).toList)) w = _
  rw [sV_toList, sV_toList, beqd])
theorem gv_strNeq {l l' : List UInt8} (ho : o.op = .binOp .neq t x y t') (hx : a.eval x = sV l) (hy : a.eval y = sV l') : Gv P o a w (.bool (decide (l ≠ l'))) :=
 gv_str .neq ho ⟨_, rfl⟩ hx hy (by
  show Result.ok (Value.bool (!((ByteArray.mk l.toArray).toList == (ByteArray.mk l'.toArray).toList))) w = _
  rw [sV_toList, sV_toList, beqd, decide_not])
theorem ownV_pos {ob : Option Nat} {n c hi : Nat} (h : ob = none → n = 0 ∧ c = 0) (hh : hi ≤ c) : ∃ A, ownV ob n c = .slice A n c ∧ ownV ob hi c = .slice A hi c := by
 cases ob with
 | none => obtain ⟨rfl, rfl⟩ := h rfl; obtain rfl : hi = 0 := (by omega); exact ⟨none, rfl, rfl⟩
 | some b => exact ⟨some ⟨b, 0, none⟩, rfl, rfl⟩
theorem gv_sliceHiOwn {ob : Option Nat} {n c hi : Nat} (ho : o.op = .slice t x none (some y) none) (ht : P.underlying t = some (.slice e)) (hz : (P.info? e).map (·.size) = some 1) (hx : a.eval x = ownV ob n c) (hob : ob = none → n = 0 ∧ c = 0) (hy : a.eval y = vI hi) (h : hi ≤ c) : Gv P o a w (ownV ob hi c) := by
 obtain ⟨A, h1, h2⟩ := ownV_pos hob h
 rw [h1] at hx
 rw [h2]
 exact gv_sliceHi ho ht hz hx hy h
theorem stp_build1 {v : UInt8} {z : Operand} {k : Nat} (hF : Fr N a m) (hw : Region.wanted o (yielded ops a.tmps) = true) (hd : o.dst = some k) (hN : Nat.blt k N = true) (ho : o.op = .buildSlice t 1 #[(0, z)]) (ht : P.underlying t = some (.slice e)) {by_ : Nat} (hty : Ty P e (.int .u8 0) 1 by_) (hz : a.eval z = vB v) (hS : St w0 w H)
  (h : ∀ b a' w', Fr N a' ((k, .slice (some ⟨b, 0, none⟩) 1 1) :: m) → St w0 w' (⟨true, some b, blkB e [v]⟩ :: H) → K a' w') : Stp P ops Q o a w K := by
 obtain ⟨i, h1, h2, h3, h4⟩ := hty.get
 refine stp_val hF hw hd hN (w' := w.alloc (.cells [vB v].toArray e)) ?_ fun a' hF' => h _ a' _ hF' (hS.alloc _)
 have := run_buildSlice (P := P) w t e 1 #[(0, vB v)] [vB v].toArray i (.int .u8 0) ht h1 h2 (by rw [h3]; decide) (by rw [h3]; decide) (by
  rw [h3, show (Array.range (1 * 1)).map (fun j => (Value.int .u8 0).cells[j % (Value.int .u8 0).cells.size]!) = #[.int .u8 0] from by rw [show Array.range (1 * 1) = #[0] from by decide]; simp [Value.cells]]
  refine (fill_cons (place := fun i => some (i * 1, 1)) (v := vB v) (i := 0) (rest := []) (zs := [.int .u8 0]) (vs := [vB v]) (off := 0) rfl rfl (by simp)).trans ?_
  rw [fill_nil]; rfl)
 simp [execOp, ho, hz, this]
end
end Go.Fw
namespace Go.Fw
open Go Go.RowKit
section
variable {P : Program} {N : Nat} {a : Act} {w w0 : World} {m : List (Nat × Value)} {H : List Ent} {o : Oper} {ops : Array Oper} {K : Act → World → Prop} {Q : Exit → Act → World → Prop} {x y : Operand} {t t' d s e : TypeId}
end
end Go.Fw
namespace Go.Fw
open Go Go.RowKit
section
variable {w w0 : World} {H : List Ent}
theorem rd_own_take {nw : Bool} {ob : Option Nat} {t : TypeId} {l : List UInt8} {pad : List Value} {hi n : Nat} (hS : St w0 w H) (he : ⟨nw, ob, blk t (l.map vB ++ pad)⟩ ∈ H) (hnw : ∀ e ∈ H, e.nw = true) (hob : ob = none → l = [] ∧ pad = []) (hl : l.length = n) (hc : n + pad.length ≤ 9223372036854775807) (hh : hi ≤ n) :
  Rd w (ownV ob hi (n + pad.length)) ((l.take hi).map vB) := by
 subst hl
 have h := (SRd.own (w0 := w0) (T := H) he (fun h => ⟨by rw [(hob h).1]; rfl, (hob h).2⟩) (by simpa using hc)) w H hS hnw (fun e h => h)
 rw [List.length_map] at h
 obtain ⟨A, h1, h2⟩ := ownV_pos (ob := ob) (n := l.length) (c := l.length + pad.length) (hi := hi) (fun h => by rw [(hob h).1, (hob h).2]; exact ⟨rfl, rfl⟩) (by omega)
 rw [h1] at h
 rw [h2, List.map_take]
 exact h.cutHi hh
theorem rd_own {nw : Bool} {ob : Option Nat} {t : TypeId} {l : List UInt8} {pad : List Value} {n : Nat} (hS : St w0 w H) (he : ⟨nw, ob, blk t (l.map vB ++ pad)⟩ ∈ H) (hnw : ∀ e ∈ H, e.nw = true) (hob : ob = none → l = [] ∧ pad = []) (hl : l.length = n) (hc : n + pad.length ≤ 9223372036854775807) :
  Rd w (ownV ob n (n + pad.length)) (l.map vB) := by
 subst hl
 have := rd_own_take hS he hnw hob rfl hc (Nat.le_refl _)
 rwa [List.take_length] at this
theorem rd_blkB {nw : Bool} {b n : Nat} {t : TypeId} {l : List UInt8} (hS : St w0 w H) (he : ⟨nw, some b, blkB t l⟩ ∈ H) (hl : l.length = n) (hn : n ≤ 9223372036854775807) : Rd w (.slice (some ⟨b, 0, none⟩) n n) (l.map vB) := by
 obtain ⟨k, hk⟩ := List.getElem?_of_mem he
 have := hS.rdOf hk 0 n n (by simp [hl]) (Nat.le_refl _) hn
 rwa [List.drop_zero, List.take_of_length_le (by simp [hl])] at this
def RetRd (w : World) (l : List UInt8) : Ending → World → Prop := fun e w' => ∃ v, e = .returned v ∧ Rd w' v (l.map vB) ∧ Ext w w'
theorem rep_vB (n : Nat) : List.replicate n (Value.int .u8 0) = (List.replicate n (0 : UInt8)).map vB := by
 rw [List.map_replicate]; rfl
end
end Go.Fw
namespace Go.Fw
open Go Go.RowKit
section
variable {P : Program} {a : Act} {w : World} {o : Oper} {t e : TypeId}
theorem fo_build1 {v : UInt8} {z : Operand} (ho : o.op = .buildSlice t 1 #[(0, z)]) (ht : P.underlying t = some (.slice e)) {by_ : Nat} (hty : Ty P e (.int .u8 0) 1 by_) (hz : a.eval z = vB v) : FO P w o a (FlS w e 1 [vB v]) := fun w1 hx => by
 obtain ⟨i, h1, h2, h3, h4⟩ := hty.get
 have := run_buildSlice (P := P) w1 t e 1 #[(0, vB v)] [vB v].toArray i (.int .u8 0) ht h1 h2 (by rw [h3]; decide) (by rw [h3]; decide) (by
  rw [h3, show (Array.range (1 * 1)).map (fun j => (Value.int .u8 0).cells[j % (Value.int .u8 0).cells.size]!) = #[.int .u8 0] from by rw [show Array.range (1 * 1) = #[0] from by decide]; simp [Value.cells]]
  refine (fill_cons (place := fun i => some (i * 1, 1)) (v := vB v) (i := 0) (rest := []) (zs := [.int .u8 0]) (vs := [vB v]) (off := 0) rfl rfl (by simp)).trans ?_
  rw [fill_nil]; rfl)
 refine .inl ⟨_, _, ?_, Ext.alloc w1 _, w1.heap.size, rfl, hx.size, ((St.refl w1).alloc (blk e [vB v])).has _ List.mem_cons_self _ rfl⟩
 simp [execOp, ho, hz, this]
 rfl
end
end Go.Fw
namespace Go.Fw
open Go Go.RowKit
section
variable {P : Program} {a : Act} {w : World} {o : Oper} {x y : Operand} {t t' e : TypeId}
theorem gv_strEqlT {l l' : List UInt8} (ho : o.op = .binOp .eql t x y t') (hx : a.eval x = sV l) (hy : a.eval y = sV l') (h : l = l') : Gv P o a w (.bool true) := by
 have := gv_strEql (P := P) (w := w) ho hx hy; rwa [decide_eq_true h] at this
theorem gv_strNeqF {l l' : List UInt8} (ho : o.op = .binOp .neq t x y t') (hx : a.eval x = sV l) (hy : a.eval y = sV l') (h : l = l') : Gv P o a w (.bool false) := by
 have := gv_strNeq (P := P) (w := w) ho hx hy; rwa [decide_eq_false (fun g => g h)] at this
end
end Go.Fw
set_option linter.unusedVariables false
set_option linter.unusedSimpArgs false
namespace Go.Fw
open Go Go.RowKit
section
variable {P : Program} {N : Nat} {a : Act} {w w0 : World} {m : List (Nat × Value)} {H : List Ent} {o : Oper} {ops : Array Oper} {K : Act → World → Prop} {Q : Exit → Act → World → Prop} {x y : Operand} {t e : TypeId} {z : Value} {by_ : Nat}
theorem stp_appB {ob : Option Nat} {l ml : List UInt8} {pad : List Value} {v : Value} {d k : Nat} (hF : Fr N a m) (hw : Region.wanted o (yielded ops a.tmps) = true) (hd : o.dst = some d) (hN : Nat.blt d N = true)
  (ho : o.op = .call { callee := .builtin .append, args := #[x, y], argTypes := #[t, t] }) (ht : P.underlying t = some (.slice e)) (hty : Ty P e z 1 1) (hzc : z.cells.size = 1)
  (hx : a.eval x = ownV ob l.length (l.length + pad.length)) (hy : a.eval y = v) (hS : St w0 w H) (hk : H[k]? = some ⟨true, ob, blk e (l.map vB ++ pad)⟩) (hob : ob = none → l = [] ∧ pad = []) (hcap : l.length + pad.length ≤ 9223372036854775807)
  (hr : Rd w v (ml.map vB)) (hn : l.length + ml.length ≤ 140737488355328)
  (h : ∀ ob' pad' a' w', Fr N a' ((d, ownV ob' (l ++ ml).length ((l ++ ml).length + pad'.length)) :: m) → (ob' = none → l ++ ml = [] ∧ pad' = []) → (l ++ ml).length + pad'.length ≤ 9223372036854775807 →
   St w0 w' (H.set k ⟨true, ob', blk e ((l ++ ml).map vB ++ pad')⟩) → K a' w') : Stp P ops Q o a w K := by
 refine stp_append (xs := l.map vB) (ys := ml.map vB) hF hw hd hN ho ht hty hzc (by rw [List.length_map]; exact hx) hy hS hk (fun h => ⟨by rw [(hob h).1]; rfl, (hob h).2⟩) (by rw [List.length_map]; exact hcap) hr (one_B _) (by simp only [List.length_map]; omega) (by simp only [List.length_map]; omega) fun ob' pad' a' w' hF' h2 h3 h4 => ?_
 simp only [List.length_map, ← List.length_append, ← List.map_append, List.map_eq_nil_iff] at hF' h2 h3 h4
 exact h ob' pad' a' w' hF' h2 h3 h4
theorem stp_app1 {ob : Option Nat} {l : List UInt8} {c : UInt8} {pad : List Value} {zb d k : Nat} (hF : Fr N a m) (hw : Region.wanted o (yielded ops a.tmps) = true) (hd : o.dst = some d) (hN : Nat.blt d N = true)
  (ho : o.op = .call { callee := .builtin .append, args := #[x, y], argTypes := #[t, t] }) (ht : P.underlying t = some (.slice e)) (hty : Ty P e z 1 1) (hzc : z.cells.size = 1)
  (hx : a.eval x = ownV ob l.length (l.length + pad.length)) (hy : a.eval y = .slice (some ⟨zb, 0, none⟩) 1 1) (hS : St w0 w (⟨true, some zb, blkB e [c]⟩ :: H)) (hk : H[k]? = some ⟨true, ob, blk e (l.map vB ++ pad)⟩) (hob : ob = none → l = [] ∧ pad = []) (hcap : l.length + pad.length ≤ 9223372036854775807)
  (hn : l.length + 1 ≤ 140737488355328)
  (h : ∀ ob' pad' a' w', Fr N a' ((d, ownV ob' (l ++ [c]).length ((l ++ [c]).length + pad'.length)) :: m) → (ob' = none → l ++ [c] = [] ∧ pad' = []) → (l ++ [c]).length + pad'.length ≤ 9223372036854775807 →
   St w0 w' (H.set k ⟨true, ob', blk e ((l ++ [c]).map vB ++ pad')⟩) → K a' w') : Stp P ops Q o a w K := by
 refine stp_appB (k := k + 1) (ml := [c]) hF hw hd hN ho ht hty hzc hx hy hS hk hob hcap (rd_blkB hS List.mem_cons_self rfl (by omega)) (by simpa using hn) fun ob' pad' a' w' h1 h2 h3 h4 => h ob' pad' a' w' h1 h2 h3 ?_
 rw [List.set_cons_succ] at h4
 exact h4.drop rfl
def blkX (f : Bool) (t : TypeId) (cs : List Value) : Obj := .cells cs.toArray t (if f then (cs.length, cs.length + 1) else (0, 0))
theorem St.cellX (hS : St w0 w H) {k i : Nat} {nw f : Bool} {b : Nat} {t : TypeId} {cs : List Value} {v : Value} (hk : H[k]? = some ⟨nw, some b, blkX f t cs⟩) (hv : cs[i]? = some v) : w.cell? ⟨b, i, none⟩ = some v := by
 rw [cell_blk (hS.has _ (List.mem_of_getElem? hk) b rfl)]; exact hv
theorem run_app1X {ty : TypeId} (ht : P.underlying t = some (.slice e)) (hy : Ty P e z 1 1) (hzc : z.cells.size = 1) {b zb k : Nat} {l : List UInt8} {c : UInt8} {pad : List Value} (hS : St w0 w H) (hk : H[k]? = some ⟨true, some b, blkX true e (l.map vB ++ pad)⟩)
  (hcap : l.length + pad.length ≤ 9223372036854775807) (hv : w.cell? ⟨zb, 0, none⟩ = some (vB c)) (hn : l.length + 1 ≤ 140737488355328) :
  ∃ f b' pad' w', (Builtin.append_ #[t, t] ty #[.slice (some ⟨b, 0, none⟩) l.length (l.length + pad.length), .slice (some ⟨zb, 0, none⟩) 1 1]).run P w = .ok (.slice (some ⟨b', 0, none⟩) (l ++ [c]).length ((l ++ [c]).length + pad'.length)) w' ∧
   (l ++ [c]).length + pad'.length ≤ 9223372036854775807 ∧ St w0 w' (H.set k ⟨true, some b', blkX f e ((l ++ [c]).map vB ++ pad')⟩) := by
 obtain ⟨i, hi, h2, h3, h4⟩ := hy.get
 have hnews : ∀ j u, [vB c][j]? = some u → w.cell? ((⟨zb, 0, none⟩ : Addr).add j) = some u := fun j u hu => by
  cases j with
  | zero => rw [add_lit]; simpa using (by simpa using hu ▸ hv)
  | succ j => simp at hu
 have hlen : (l ++ [c]).length = l.length + 1 := by simp
 cases pad with
 | nil =>
  have hr := run_append_grow (P := P) w t ty e i z ht hi h2 ⟨b, 0, none⟩ l.length (l.length + ([] : List Value).length) (l.map vB) (by simp [h3]) (fun j u hu => by rw [add_lit, Nat.zero_add]; exact hS.cellX hk (by simpa using hu)) ⟨zb, 0, none⟩ 1 1 [vB c] (by simp [h3]) hnews (by simp) (by omega) (growslice_fits (by simp) (by rw [h4]; omega))
  have hge := grownCap_ge w (l.length + 1) (l.length + ([] : List Value).length) e
  have hle := grownCap_le_maxLen w (l.length + 1) (l.length + ([] : List Value).length) e (by simp only [maxLen]; omega)
  obtain ⟨Z, hZ⟩ : ∃ Z : Array Value, Builtin.zeroCells z.cells (grownCap w (l.length + 1) (l.length + ([] : List Value).length) e - (l.length + 1)) = Z := ⟨_, rfl⟩
  have hZl : Z.toList.length = grownCap w (l.length + 1) (l.length + ([] : List Value).length) e - (l.length + 1) := by rw [← hZ, Array.length_toList, size_zeroCells, hzc]; omega
  rw [hZ] at hr
  refine ⟨false, w.heap.size, Z.toList, _, (by rw [hlen, hZl, show l.length + 1 + (grownCap w (l.length + 1) (l.length + ([] : List Value).length) e - (l.length + 1)) = grownCap w (l.length + 1) (l.length + ([] : List Value).length) e by omega]; exact hr), by rw [hlen, hZl]; simp only [maxLen] at hle; omega, ?_⟩
  refine hS.swap hk rfl (w' := w.drew.alloc _) ⟨rfl, rfl, rfl, by simp, fun j hj => heap_alloc_old w.drew _ hj⟩ (some w.heap.size) _ fun b' hb' => ?_
  injection hb' with hb'
  subst hb'
  refine ⟨Nat.le_refl _, (heap_alloc_new w.drew _).trans ?_⟩
  simp [blkX]
 | cons p ps =>
  have hb := hS.has _ (List.mem_of_getElem? hk) b rfl
  have hroom : l.length + 1 ≤ l.length + (p :: ps).length := by simp
  have hf := run_firstCells_some (P := P) w i.size 1 ⟨zb, 0, none⟩ 1 1 [vB c] (by simp [h3]) hnews
  have hfz : w.frozen? ⟨b, l.length, none⟩ = false := by
   simp [World.frozen?, hb, blkX]
   omega
  have hst := run_storeCells_cells (P := P) b l.length [vB c] 0 w (fun j hj => by
   simp at hj; subst hj
   rw [show l.length + 0 + 0 = l.length from rfl, hS.cellX hk (v := p) (by simp)]; rfl) (fun j hj => by simp at hj; subst hj; exact hfz) (by intro v hv; simp at hv; subst hv; rfl)
  refine ⟨true, b, ps, w.setCells b (l.length + 0) [vB c], ?_, by rw [hlen]; simp at hcap; omega, ?_⟩
  ·
   rw [hlen, show l.length + 1 + ps.length = l.length + (p :: ps).length by simp only [List.length_cons]; omega]
   simp only [h3, Nat.mul_one] at hf
   simp [Builtin.append_, run_underlying ht, sizeOf, typeInfo, hi, Builtin.lenOf, h3, hroom, hf, Addr.add_lit, hst]
  ·
   have hset : (w.setCells b (l.length + 0) [vB c]) = w.setCell ⟨b, l.length, none⟩ (vB c) := by simp [World.setCells]
   rw [hset]
   refine hS.turn hk rfl rfl rfl (by simp [World.setCell]) ?_ fun j hj hne => ?_
   ·
    have hl : (l.map vB ++ p :: ps).length = ((l ++ [c]).map vB ++ ps).length := by simp
    simp only [World.setCell, Array.getElem?_modify, hb, if_true, Option.map_some, blkX, hl]
    simp
   ·
    have hne' : ¬ b = j := fun e => hne e.symm
    simp [World.setCell, Array.getElem?_modify, hne']
theorem stp_app1X {f : Bool} {b : Nat} {l : List UInt8} {c : UInt8} {pad : List Value} {zb d k : Nat} (hF : Fr N a m) (hw : Region.wanted o (yielded ops a.tmps) = true) (hd : o.dst = some d) (hN : Nat.blt d N = true)
  (ho : o.op = .call { callee := .builtin .append, args := #[x, y], argTypes := #[t, t] }) (ht : P.underlying t = some (.slice e)) (hty : Ty P e z 1 1) (hzc : z.cells.size = 1)
  (hx : a.eval x = .slice (some ⟨b, 0, none⟩) l.length (l.length + pad.length)) (hy : a.eval y = .slice (some ⟨zb, 0, none⟩) 1 1) (hS : St w0 w (⟨true, some zb, blkB e [c]⟩ :: H)) (hk : H[k]? = some ⟨true, some b, blkX f e (l.map vB ++ pad)⟩) (hcap : l.length + pad.length ≤ 9223372036854775807)
  (hn : l.length + 1 ≤ 140737488355328)
  (h : ∀ f' b' pad' a' w', Fr N a' ((d, .slice (some ⟨b', 0, none⟩) (l ++ [c]).length ((l ++ [c]).length + pad'.length)) :: m) → (l ++ [c]).length + pad'.length ≤ 9223372036854775807 →
   St w0 w' (H.set k ⟨true, some b', blkX f' e ((l ++ [c]).map vB ++ pad')⟩) → K a' w') : Stp P ops Q o a w K := by
 cases f with
 | false =>
  refine stp_app1 (ob := some b) hF hw hd hN ho ht hty hzc hx hy hS hk (fun h => by cases h) hcap hn fun ob' pad' a' w' h1 h2 h3 h4 => ?_
  cases ob' with
  | none => have := (h2 rfl).1; simp at this
  | some b' => exact h false b' pad' a' w' h1 h3 h4
 | true =>
  obtain ⟨f', b', pad', w', hrun, h3, h4⟩ := run_app1X (ty := o.type) ht hty hzc (k := k + 1) hS hk hcap (cell_blk (hS.has _ List.mem_cons_self zb rfl)) hn
  refine stp_val hF hw hd hN (run_appendOp ho hx hy hrun) fun a' hF' => h f' b' pad' a' w' hF' h3 ?_
  rw [List.set_cons_succ] at h4
  exact h4.drop rfl
theorem stp_app0 {u : TypeId} {A : Option Addr} {n c d : Nat} (hF : Fr N a m) (hw : Region.wanted o (yielded ops a.tmps) = true) (hd : o.dst = some d) (hN : Nat.blt d N = true)
  (ho : o.op = .call { callee := .builtin .append, args := #[x, y], argTypes := #[t, u] }) (ht : P.underlying t = some (.slice e)) (hu : P.underlying u = some (.int .i64)) (hty : Ty P e z 1 1)
  (hx : a.eval x = .slice A n c) (hy : a.eval y = vI 0) (hc : n ≤ c) (h : ∀ a', Fr N a' ((d, .slice A n c) :: m) → K a' w) : Stp P ops Q o a w K := by
 obtain ⟨i, hi, h2, h3, h4⟩ := hty.get
 have hr : (Builtin.append_ #[t, u] o.type #[.slice A n c, vI 0]).run P w = .ok (.slice A n c) w := by
  cases A <;> simp [Builtin.append_, run_underlying ht, run_underlying hu, sizeOf, typeInfo, hi, vI, asInt, asIntOf, IntKind.wrap_i64, h3, h4, hc, storeCells]
 refine stp_val hF hw hd hN ?_ h
 unfold execOp
 rw [ho]
 simp [resolve, invoke, builtin, hx, hy, hr]
theorem stp_strBytes {s : TypeId} {l : List UInt8} {d : Nat} (hF : Fr N a m) (hw : Region.wanted o (yielded ops a.tmps) = true) (hd : o.dst = some d) (hN : Nat.blt d N = true)
  (ho : o.op = .convert s t x) (hs : P.underlying s = some .string) (ht : P.underlying t = some (.slice e)) (he : P.underlying e = some (.int .u8)) (hx : a.eval x = sV l) (hn : l.length ≤ 9223372036854775807) (hS : St w0 w H)
  (h : ∀ b pad a' w', Fr N a' ((d, .slice (some ⟨b, 0, none⟩) l.length (l.length + pad.length)) :: m) → l.length + pad.length ≤ 9223372036854775807 → St w0 w' (⟨true, some b, blkX true e (l.map vB ++ pad)⟩ :: H) → K a' w') : Stp P ops Q o a w K := by
 have hr := Lib.run_convert_string_bytes (P := P) w s t e ⟨l.toArray⟩ hs ht he
 rw [sV_size] at hr
 have hge := grownCap_ge w l.length 0 e
 have hle := grownCap_le_maxLen w l.length 0 e (by simp only [maxLen]; omega)
 have hcells : Lib.bytesCells w e ⟨l.toArray⟩ = (l.map vB ++ List.replicate (grownCap w l.length 0 e - l.length) (Value.int .u8 0)).toArray := by
  apply Array.ext'
  simp [Lib.bytesCells, sV_size]
  intro b _
  rfl
 have hx' : Ext w (Lib.bytesWorld w e ⟨l.toArray⟩) := ⟨rfl, rfl, rfl, by rw [Lib.bytesWorld_size]; omega, fun j hj => Lib.bytesWorld_at_old w e _ j hj⟩
 refine stp_val hF hw hd hN (v := .slice (some ⟨w.heap.size, 0, none⟩) l.length (grownCap w l.length 0 e)) (w' := Lib.bytesWorld w e ⟨l.toArray⟩) ?_ fun a' hF' => ?_
 ·
  unfold execOp
  rw [ho]
  simp [hx, sV, hr]
 ·
  refine h w.heap.size (List.replicate (grownCap w l.length 0 e - l.length) (Value.int .u8 0)) a' _ (by rw [List.length_replicate, show l.length + (grownCap w l.length 0 e - l.length) = grownCap w l.length 0 e by omega]; exact hF') (by rw [List.length_replicate]; simp only [maxLen] at hle; omega) (hS.float hx' (Nat.le_refl _) ?_)
  rw [Lib.bytesWorld_at_new, hcells]
  simp [blkX]
theorem rdX {f nw : Bool} {b n : Nat} {l : List UInt8} {pad : List Value} (hS : St w0 w H) (he : ⟨nw, some b, blkX f e (l.map vB ++ pad)⟩ ∈ H) (hl : l.length = n) (hc : n + pad.length ≤ 9223372036854775807) : Rd w (.slice (some ⟨b, 0, none⟩) n (n + pad.length)) (l.map vB) := by
 subst hl
 obtain ⟨k, hk⟩ := List.getElem?_of_mem he
 refine ⟨some ⟨b, 0, none⟩, l.length + pad.length, by simp, by simp, hc, fun _ => ⟨b, 0, rfl, fun i u hu => ?_⟩⟩
 rw [Nat.zero_add]
 exact hS.cellX hk (by rw [List.getElem?_append_left (List.getElem?_eq_some_iff.1 hu).1]; exact hu)
theorem own_rd {nw : Bool} {T : List Ent} {ob : Option Nat} {l : List UInt8} {pad : List Value} {n : Nat} (he : ⟨nw, ob, blk t (l.map vB ++ pad)⟩ ∈ T) (hob : ob = none → l = [] ∧ pad = []) (hl : l.length = n) (hc : n + pad.length ≤ 9223372036854775807) :
  SRd w0 T (ownV ob n (n + pad.length)) (l.map vB) := by
 subst hl
 have := SRd.own (w0 := w0) he (fun h => ⟨by rw [(hob h).1]; rfl, (hob h).2⟩) (by simpa using hc)
 rwa [List.length_map] at this
end
end Go.Fw
set_option linter.unusedVariables false
set_option linter.unusedSimpArgs false
namespace Go.Fw
open Go Go.RowKit
section
variable {P : Program} {a : Act} {o : Oper} {w : World} {t t' : TypeId} {x y : Operand}
theorem gv_w_and {m n : UInt32} (ho : o.op = .binOp .and t x y t') (hx : a.eval x = vW m) (hy : a.eval y = vW n) : Gv P o a w (vW (m &&& n)) := by
 refine gv_int ho hx hy ?_
 have h1 := bv_of 32 m.toNat m.toNat_lt
 have h2 := bv_of 32 n.toNat n.toNat_lt
 have h3 : m.toNat &&& n.toNat < 2 ^ 32 := Nat.and_lt_two_pow _ n.toNat_lt
 show Result.ok (Value.int .u32 (IntKind.u32.wrap ((BitVec.ofInt 32 (m.toNat : Int) &&& BitVec.ofInt 32 (n.toNat : Int)).toNat : Int))) w = _
 rw [BitVec.toNat_and, h1, h2, u32_wrap, Nat.mod_eq_of_lt h3, vW, UInt32.toNat_and]
theorem gv_w_or {m n : UInt32} (ho : o.op = .binOp .or t x y t') (hx : a.eval x = vW m) (hy : a.eval y = vW n) : Gv P o a w (vW (m ||| n)) := by
 refine gv_int ho hx hy ?_
 have h1 := bv_of 32 m.toNat m.toNat_lt
 have h2 := bv_of 32 n.toNat n.toNat_lt
 have h3 : m.toNat ||| n.toNat < 2 ^ 32 := Nat.or_lt_two_pow m.toNat_lt n.toNat_lt
 show Result.ok (Value.int .u32 (IntKind.u32.wrap ((BitVec.ofInt 32 (m.toNat : Int) ||| BitVec.ofInt 32 (n.toNat : Int)).toNat : Int))) w = _
 rw [BitVec.toNat_or, h1, h2, u32_wrap, Nat.mod_eq_of_lt h3, vW, UInt32.toNat_or]
theorem gv_w_xor {m n : UInt32} (ho : o.op = .binOp .xor t x y t') (hx : a.eval x = vW m) (hy : a.eval y = vW n) : Gv P o a w (vW (m ^^^ n)) := by
 refine gv_int ho hx hy ?_
 have h1 := bv_of 32 m.toNat m.toNat_lt
 have h2 := bv_of 32 n.toNat n.toNat_lt
 have h3 : m.toNat ^^^ n.toNat < 2 ^ 32 := Nat.xor_lt_two_pow m.toNat_lt n.toNat_lt
 show Result.ok (Value.int .u32 (IntKind.u32.wrap ((BitVec.ofInt 32 (m.toNat : Int) ^^^ BitVec.ofInt 32 (n.toNat : Int)).toNat : Int))) w = _
 rw [BitVec.toNat_xor, h1, h2, u32_wrap, Nat.mod_eq_of_lt h3, vW, UInt32.toNat_xor]
theorem gv_w_not {m : UInt32} (ho : o.op = .unOp .xor t x) (hx : a.eval x = vW m) : Gv P o a w (vW (m ^^^ (0 - 1))) := by
 have h1 := bv_of 32 m.toNat m.toNat_lt
 have h2 : (BitVec.ofInt 32 (4294967295 : Int)).toNat = 4294967295 := by decide
 have h3 : 4294967295 ^^^ m.toNat < 2 ^ 32 := Nat.xor_lt_two_pow (by decide) m.toNat_lt
 have hr : (Op.unary .xor (vW m)).run P w = .ok (vW (m ^^^ (0 - 1))) w := by
  show Result.ok (Value.int .u32 (IntKind.u32.wrap ((BitVec.ofInt 32 (4294967295 : Int) ^^^ BitVec.ofInt 32 (m.toNat : Int)).toNat : Int))) w = _
  rw [BitVec.toNat_xor, h1, h2, u32_wrap, Nat.mod_eq_of_lt h3, vW, UInt32.toNat_xor, Nat.xor_comm]; rfl
 unfold Gv execOp
 rw [ho]
 simp [hx, hr]
theorem gv_w_add {m n : UInt32} (ho : o.op = .binOp .add t x y t') (hx : a.eval x = vW m) (hy : a.eval y = vW n) : Gv P o a w (vW (m + n)) := by
 refine gv_int ho hx hy ?_
 simp only [binOp, Op.intArith, ne_eq, not_true_eq_false, if_false, ← Int.natCast_add, u32_wrap, vW, UInt32.toNat_add]
 rfl
theorem gv_w_shl {m : UInt32} {k' : IntKind} {n : Nat} (ho : o.op = .binOp .shl t x y t') (hx : a.eval x = vW m) (hy : a.eval y = .int k' (n : Int)) (hn : n < 32) : Gv P o a w (vW (m <<< (UInt32.ofNat n))) := by
 refine gv_shift ho (.inl rfl) hx hy ?_
 have h0 : ¬ ((n : Int) < 0) := by omega
 have h8 : min n 32 = n := by omega
 have hc : ((m.toNat : Int) * 2 ^ n) = ((m.toNat * 2 ^ n : Nat) : Int) := by simp
 simp only [Op.shift, h0, if_false, Int.toNat_natCast, IntKind.bits, h8, hc, u32_wrap, vW]
 rw [UInt32.toNat_shiftLeft]
 have : (UInt32.ofNat n).toNat % 32 = n := by simp; omega
 rw [this, Nat.shiftLeft_eq]
 rfl
theorem gv_w_shr {m : UInt32} {k' : IntKind} {n : Nat} (ho : o.op = .binOp .shr t x y t') (hx : a.eval x = vW m) (hy : a.eval y = .int k' (n : Int)) (hn : n < 32) : Gv P o a w (vW (m >>> (UInt32.ofNat n))) := by
 refine gv_shift ho (.inr rfl) hx hy ?_
 have h0 : ¬ ((n : Int) < 0) := by omega
 have h8 : min n 32 = n := by omega
 have hc : ((m.toNat : Int).fdiv (2 ^ n)) = ((m.toNat / 2 ^ n : Nat) : Int) := by
  rw [Int.fdiv_eq_ediv_of_nonneg _ (by exact_mod_cast Nat.zero_le (2 ^ n))]; norm_cast
 simp only [Op.shift, h0, if_false, Int.toNat_natCast, IntKind.bits, h8, hc, vW]
 rw [UInt32.toNat_shiftRight]
 have : (UInt32.ofNat n).toNat % 32 = n := by simp; omega
 rw [this, Nat.shiftRight_eq_div_pow]
 rfl
theorem gv_d_and {m n : UInt64} (ho : o.op = .binOp .and t x y t') (hx : a.eval x = vD m) (hy : a.eval y = vD n) : Gv P o a w (vD (m &&& n)) := by
 refine gv_int ho hx hy ?_
 have h1 := bv_of 64 m.toNat m.toNat_lt
 have h2 := bv_of 64 n.toNat n.toNat_lt
 have h3 : m.toNat &&& n.toNat < 2 ^ 64 := Nat.and_lt_two_pow _ n.toNat_lt
 show Result.ok (Value.int .u64 (IntKind.u64.wrap ((BitVec.ofInt 64 (m.toNat : Int) &&& BitVec.ofInt 64 (n.toNat : Int)).toNat : Int))) w = _
 rw [BitVec.toNat_and, h1, h2, u64_wrap, Nat.mod_eq_of_lt h3, vD, UInt64.toNat_and]
theorem gv_d_or {m n : UInt64} (ho : o.op = .binOp .or t x y t') (hx : a.eval x = vD m) (hy : a.eval y = vD n) : Gv P o a w (vD (m ||| n)) := by
 refine gv_int ho hx hy ?_
 have h1 := bv_of 64 m.toNat m.toNat_lt
 have h2 := bv_of 64 n.toNat n.toNat_lt
 have h3 : m.toNat ||| n.toNat < 2 ^ 64 := Nat.or_lt_two_pow m.toNat_lt n.toNat_lt
 show Result.ok (Value.int .u64 (IntKind.u64.wrap ((BitVec.ofInt 64 (m.toNat : Int) ||| BitVec.ofInt 64 (n.toNat : Int)).toNat : Int))) w = _
 rw [BitVec.toNat_or, h1, h2, u64_wrap, Nat.mod_eq_of_lt h3, vD, UInt64.toNat_or]
theorem gv_d_xor {m n : UInt64} (ho : o.op = .binOp .xor t x y t') (hx : a.eval x = vD m) (hy : a.eval y = vD n) : Gv P o a w (vD (m ^^^ n)) := by
 refine gv_int ho hx hy ?_
 have h1 := bv_of 64 m.toNat m.toNat_lt
 have h2 := bv_of 64 n.toNat n.toNat_lt
 have h3 : m.toNat ^^^ n.toNat < 2 ^ 64 := Nat.xor_lt_two_pow m.toNat_lt n.toNat_lt
 show Result.ok (Value.int .u64 (IntKind.u64.wrap ((BitVec.ofInt 64 (m.toNat : Int) ^^^ BitVec.ofInt 64 (n.toNat : Int)).toNat : Int))) w = _
 rw [BitVec.toNat_xor, h1, h2, u64_wrap, Nat.mod_eq_of_lt h3, vD, UInt64.toNat_xor]
theorem gv_d_add {m n : UInt64} (ho : o.op = .binOp .add t x y t') (hx : a.eval x = vD m) (hy : a.eval y = vD n) : Gv P o a w (vD (m + n)) := by
 refine gv_int ho hx hy ?_
 simp only [binOp, Op.intArith, ne_eq, not_true_eq_false, if_false, ← Int.natCast_add, u64_wrap, vD, UInt64.toNat_add]
 rfl
theorem gv_d_sub {m n : UInt64} (ho : o.op = .binOp .sub t x y t') (hx : a.eval x = vD m) (hy : a.eval y = vD n) : Gv P o a w (vD (m - n)) := by
 refine gv_int ho hx hy ?_
 have hm := m.toNat_lt
 have hn := n.toNat_lt
 have : IntKind.u64.wrap ((m.toNat : Int) - (n.toNat : Int)) = (((m - n).toNat : Nat) : Int) := by
  rw [UInt64.toNat_sub]
  simp only [IntKind.wrap, IntKind.bits, IntKind.signed]
  simp
  omega
 simp only [binOp, Op.intArith, ne_eq, not_true_eq_false, if_false, this, vD]
 rfl
theorem gv_d_mul {m n : UInt64} (ho : o.op = .binOp .mul t x y t') (hx : a.eval x = vD m) (hy : a.eval y = vD n) : Gv P o a w (vD (m * n)) := by
 refine gv_int ho hx hy ?_
 simp only [binOp, Op.intArith, ne_eq, not_true_eq_false, if_false, ← Int.natCast_mul, u64_wrap, vD, UInt64.toNat_mul]
 rfl
theorem gv_d_shl {m : UInt64} {k' : IntKind} {n : Nat} (ho : o.op = .binOp .shl t x y t') (hx : a.eval x = vD m) (hy : a.eval y = .int k' (n : Int)) (hn : n < 64) : Gv P o a w (vD (m <<< (UInt64.ofNat n))) := by
 refine gv_shift ho (.inl rfl) hx hy ?_
 have h0 : ¬ ((n : Int) < 0) := by omega
 have h8 : min n 64 = n := by omega
 have hc : ((m.toNat : Int) * 2 ^ n) = ((m.toNat * 2 ^ n : Nat) : Int) := by simp
 simp only [Op.shift, h0, if_false, Int.toNat_natCast, IntKind.bits, h8, hc, u64_wrap, vD]
 rw [UInt64.toNat_shiftLeft]
 have : (UInt64.ofNat n).toNat % 64 = n := by simp; omega
 rw [this, Nat.shiftLeft_eq]
 rfl
theorem gv_d_shr {m : UInt64} {k' : IntKind} {n : Nat} (ho : o.op = .binOp .shr t x y t') (hx : a.eval x = vD m) (hy : a.eval y = .int k' (n : Int)) (hn : n < 64) : Gv P o a w (vD (m >>> (UInt64.ofNat n))) := by
 refine gv_shift ho (.inr rfl) hx hy ?_
 have h0 : ¬ ((n : Int) < 0) := by omega
 have h8 : min n 64 = n := by omega
 have hc : ((m.toNat : Int).fdiv (2 ^ n)) = ((m.toNat / 2 ^ n : Nat) : Int) := by
  rw [Int.fdiv_eq_ediv_of_nonneg _ (by exact_mod_cast Nat.zero_le (2 ^ n))]; norm_cast
 simp only [Op.shift, h0, if_false, Int.toNat_natCast, IntKind.bits, h8, hc, vD]
 rw [UInt64.toNat_shiftRight]
 have : (UInt64.ofNat n).toNat % 64 = n := by simp; omega
 rw [this, Nat.shiftRight_eq_div_pow]
 rfl
end
section
variable {P : Program} {a : Act} {o : Oper} {w : World} {s d : TypeId} {x : Operand}
theorem gv_conv_b_w {m : UInt8} (ho : o.op = .convert s d x) (hs : P.underlying s = some (.int .u8)) (hd : P.underlying d = some (.int .u32)) (hx : a.eval x = vB m) : Gv P o a w (vW m.toUInt32) := by
 have := gv_conv (w := w) ho hs hd hx
 rw [u32_wrap] at this
 have hm := m.toNat_lt
 have e : m.toUInt32.toNat = m.toNat % 4294967296 := by simp <;> omega
 unfold vW
 rw [e]
 exact this
theorem gv_conv_b_d {m : UInt8} (ho : o.op = .convert s d x) (hs : P.underlying s = some (.int .u8)) (hd : P.underlying d = some (.int .u64)) (hx : a.eval x = vB m) : Gv P o a w (vD m.toUInt64) := by
 have := gv_conv (w := w) ho hs hd hx
 rw [u64_wrap] at this
 have hm := m.toNat_lt
 have e : m.toUInt64.toNat = m.toNat % 18446744073709551616 := by simp <;> omega
 unfold vD
 rw [e]
 exact this
theorem gv_conv_w_b {m : UInt32} (ho : o.op = .convert s d x) (hs : P.underlying s = some (.int .u32)) (hd : P.underlying d = some (.int .u8)) (hx : a.eval x = vW m) : Gv P o a w (vB m.toUInt8) := by
 have := gv_conv (w := w) ho hs hd hx
 rw [u8_wrap] at this
 have hm := m.toNat_lt
 have e : m.toUInt8.toNat = m.toNat % 256 := by simp
 unfold vB
 rw [e]
 exact this
theorem gv_conv_w_d {m : UInt32} (ho : o.op = .convert s d x) (hs : P.underlying s = some (.int .u32)) (hd : P.underlying d = some (.int .u64)) (hx : a.eval x = vW m) : Gv P o a w (vD m.toUInt64) := by
 have := gv_conv (w := w) ho hs hd hx
 rw [u64_wrap] at this
 have hm := m.toNat_lt
 have e : m.toUInt64.toNat = m.toNat % 18446744073709551616 := by simp <;> omega
 unfold vD
 rw [e]
 exact this
theorem gv_conv_d_b {m : UInt64} (ho : o.op = .convert s d x) (hs : P.underlying s = some (.int .u64)) (hd : P.underlying d = some (.int .u8)) (hx : a.eval x = vD m) : Gv P o a w (vB m.toUInt8) := by
 have := gv_conv (w := w) ho hs hd hx
 rw [u8_wrap] at this
 have hm := m.toNat_lt
 have e : m.toUInt8.toNat = m.toNat % 256 := by simp
 unfold vB
 rw [e]
 exact this
theorem gv_conv_d_w {m : UInt64} (ho : o.op = .convert s d x) (hs : P.underlying s = some (.int .u64)) (hd : P.underlying d = some (.int .u32)) (hx : a.eval x = vD m) : Gv P o a w (vW m.toUInt32) := by
 have := gv_conv (w := w) ho hs hd hx
 rw [u32_wrap] at this
 have hm := m.toNat_lt
 have e : m.toUInt32.toNat = m.toNat % 4294967296 := by simp
 unfold vW
 rw [e]
 exact this
theorem gv_conv_i_w {n : Nat} (ho : o.op = .convert s d x) (hs : P.underlying s = some (.int .i64)) (hd : P.underlying d = some (.int .u32)) (hx : a.eval x = vI n) : Gv P o a w (vW (UInt32.ofNat n)) := by
 have := gv_conv (w := w) ho hs hd hx
 rw [u32_wrap] at this
 have e : (UInt32.ofNat n).toNat = n % 4294967296 := by simp
 unfold vW
 rw [e]
 exact this
theorem gv_conv_i_d {n : Nat} (ho : o.op = .convert s d x) (hs : P.underlying s = some (.int .i64)) (hd : P.underlying d = some (.int .u64)) (hx : a.eval x = vI n) : Gv P o a w (vD (UInt64.ofNat n)) := by
 have := gv_conv (w := w) ho hs hd hx
 rw [u64_wrap] at this
 have e : (UInt64.ofNat n).toNat = n % 18446744073709551616 := by simp
 unfold vD
 rw [e]
 exact this
theorem gv_conv_w_i {m : UInt32} (ho : o.op = .convert s d x) (hs : P.underlying s = some (.int .u32)) (hd : P.underlying d = some (.int .i64)) (hx : a.eval x = vW m) : Gv P o a w (vI m.toNat) := by
 have := gv_conv (w := w) ho hs hd hx
 rwa [wrap_i64_id (by omega) (by have := m.toNat_lt; omega)] at this
end
end Go.Fw
namespace Go.Proofs.YtfhalnobaeogkaaDoor
open Go
theorem u3 : type_of% Tryd.underlying3 := Tryd.underlying3
theorem u4 : type_of% Tryd.underlying4 := Tryd.underlying4
theorem u5 : type_of% Tryd.underlying5 := Tryd.underlying5
theorem u9 : type_of% Tryd.underlying9 := Tryd.underlying9
theorem u22 : type_of% Tryd.underlying22 := Tryd.underlying22
theorem u24 : type_of% Tryd.underlying24 := Tryd.underlying24
theorem u25 : type_of% Tryd.underlying25 := Tryd.underlying25
theorem u32 : type_of% Tryd.underlying32 := Tryd.underlying32
theorem u33 : type_of% Tryd.underlying33 := Tryd.underlying33
theorem u35 : type_of% Tryd.underlying35 := Tryd.underlying35
theorem u37 : type_of% Tryd.underlying37 := Tryd.underlying37
theorem u40 : type_of% Tryd.underlying40 := Tryd.underlying40
theorem u44 : type_of% Tryd.underlying44 := Tryd.underlying44
theorem u47 : type_of% Tryd.underlying47 := Tryd.underlying47
theorem u50 : type_of% Tryd.underlying50 := Tryd.underlying50
theorem u53 : type_of% Tryd.underlying53 := Tryd.underlying53
theorem u55 : type_of% Tryd.underlying55 := Tryd.underlying55
theorem u64 : type_of% Tryd.underlying64 := Tryd.underlying64
theorem u76 : type_of% Tryd.underlying76 := Tryd.underlying76
theorem u94 : type_of% Tryd.underlying94 := Tryd.underlying94
theorem u98 : type_of% Tryd.underlying98 := Tryd.underlying98
theorem u102 : type_of% Tryd.underlying102 := Tryd.underlying102
theorem u125 : type_of% Tryd.underlying125 := Tryd.underlying125
theorem u126 : type_of% Tryd.underlying126 := Tryd.underlying126
theorem u127 : type_of% Tryd.underlying127 := Tryd.underlying127
theorem u128 : type_of% Tryd.underlying128 := Tryd.underlying128
theorem u129 : type_of% Tryd.underlying129 := Tryd.underlying129
theorem u131 : type_of% Tryd.underlying131 := Tryd.underlying131
theorem u135 : type_of% Tryd.underlying135 := Tryd.underlying135
theorem u136 : type_of% Tryd.underlying136 := Tryd.underlying136
theorem u143 : type_of% Tryd.underlying143 := Tryd.underlying143
theorem u147 : type_of% Tryd.underlying147 := Tryd.underlying147
theorem u148 : type_of% Tryd.underlying148 := Tryd.underlying148
theorem u150 : type_of% Tryd.underlying150 := Tryd.underlying150
theorem u153 : type_of% Tryd.underlying153 := Tryd.underlying153
theorem u154 : type_of% Tryd.underlying154 := Tryd.underlying154
theorem u156 : type_of% Tryd.underlying156 := Tryd.underlying156
theorem u160 : type_of% Tryd.underlying160 := Tryd.underlying160
theorem u162 : type_of% Tryd.underlying162 := Tryd.underlying162
theorem u163 : type_of% Tryd.underlying163 := Tryd.underlying163
theorem u165 : type_of% Tryd.underlying165 := Tryd.underlying165
end Go.Proofs.YtfhalnobaeogkaaDoor
set_option linter.unusedVariables false
set_option linter.unusedSimpArgs false
namespace Go.Proofs.YtfhalnobaeogkaaDoor
open Go Go.RowKit Go.Fw
theorem Tryd.ty5 : Ty Tryd.prog 5 (Value.int .u8 0) 1 1 := ⟨by kernel_rfl⟩
def startsL : List UInt64 := [7640891576956012808, 13503953896175478587, 4354685564936845355, 11912009170470909681, 5840696475078001361, 11170449401992604703, 2270897969802886507, 6620516959819538809]
def stepsL : List UInt64 := [4794697086780616226, 8158064640168781261, 13096744586834688815, 16840607885511220156, 4131703408338449720, 6480981068601479193, 10538285296894168987, 12329834152419229976, 15566598209576043074, 1334009975649890238, 2608012711638119052, 6128411473006802146, 8268148722764581231, 9286055187155687089, 11230858885718282805, 13951009754708518548, 16472876342353939154, 17275323862435702243, 1135362057144423861, 2597628984639134821, 3308224258029322869, 5365058923640841347, 6679025012923562964, 8573033837759648693, 10970295158949994411, 12119686244451234320, 12683024718118986047, 13788192230050041572, 14330467153632333762, 15395433587784984357, 489312712824947311, 1452737877330783856, 2861767655752347644, 3322285676063803686, 5560940570517711597, 5996557281743188959, 7280758554555802590, 8532644243296465576, 9350256976987008742, 10552545826968843579, 11727347734174303076, 12113106623233404929, 14000437183269869457, 14369950271660146224, 15101387698204529176, 15463397548674623760, 17586052441742319658, 1182934255886127544, 1847814050463011016, 2177327727835720531, 2830643537854262169, 3796741975233480872, 4115178125766777443, 5681478168544905931, 6601373596472566643, 7507060721942968483, 8399075790359081724, 8693463985226723168, 9568029438360202098, 10144078919501101548, 10430055236837252648, 11840083180663258601, 13761210420658862357, 14299343276471374635, 14566680578165727644, 15097957966210449927, 16922976911328602910, 17689382322260857208, 500013540394364858, 748580250866718886, 1242879168328830382, 1977374033974150939, 2944078676154940804, 3659926193048069267, 4368137639120453308, 4836135668995329356, 5532061633213252278, 6448918945643986474, 6902733635092675308, 7801388544844847127]
structure Glob (w : World) : Prop where
 st : ∀ i, i < 8 → w.cell? ⟨0, i, none⟩ = some (vD (startsL.getD i 0))
 sp : ∀ i, i < 80 → w.cell? ⟨1, i, none⟩ = some (vD (stepsL.getD i 0))
theorem Glob.ext {w w' : World} (h : Glob w) (hx : Ext w w') : Glob w' :=
 ⟨fun i hi => (cell_same (hx.block 0 (cell_lt (h.st i hi)))).trans (h.st i hi), fun i hi => (cell_same (hx.block 1 (cell_lt (h.sp i hi)))).trans (h.sp i hi)⟩
def rotl (x : UInt32) (k : Nat) : UInt32 := (x <<< UInt32.ofNat k) ||| (x >>> UInt32.ofNat (32 - k))
theorem and31 {k : Nat} (h : k < 32) : (UInt64.ofNat k &&& 31) = UInt64.ofNat k := by
 have : ∀ k, k < 32 → (UInt64.ofNat k &&& 31) = UInt64.ofNat k := by decide
 exact this k h
theorem toNat_small {k : Nat} (h : k < 32) : (UInt64.ofNat k).toNat = k := by rw [UInt64.toNat_ofNat']; omega
theorem sub32 {k : Nat} (h : k < 32) : ((32 : UInt64) - UInt64.ofNat k).toNat = 32 - k := by
 have : ∀ k, k < 32 → ((32 : UInt64) - UInt64.ofNat k).toNat = 32 - k := by decide
 exact this k h
theorem vD_small {k : Nat} (h : k < 32) : vD (UInt64.ofNat k) = .int .u64 (k : Int) := by rw [vD, toNat_small h]
theorem vD_sub32 {k : Nat} (h : k < 32) : vD ((32 : UInt64) - UInt64.ofNat k) = .int .u64 ((32 - k : Nat) : Int) := by rw [vD, sub32 h]
theorem rot_ok {k : Nat} (x : UInt32) (w0 : World) (h0 : 0 < k) (hk : k < 32) :
  Calls Tryd.prog 88 #[vW x, vI k] w0 fun e w' => e = .returned (vW (rotl x k)) ∧ Ext w0 w' := by
 refine calls_start 17 Tryd.func88 rfl Tryd.ntmps88 rfl fun a hF => ?_
 refine wK fun Kq1 hKq1 => ?_
 refine wR ?_
 refine wg hF rfl rfl rfl (gv_assign rfl (ev_const _ _)) fun a hF => ?_
 refine wN ?_
 refine tN (hKq1 _ _ ?_)
 refine wK fun Kq2 hKq2 => ?_
 refine wR ?_
 refine wg hF rfl rfl rfl (gv_move rfl (hF.t rfl)) fun a hF => ?_
 refine wg hF rfl rfl rfl (gv_conv_i_d rfl u3 u125 (hF.t rfl)) fun a hF => ?_
 refine wg hF rfl rfl rfl (gv_d_and (n := 31) rfl (hF.t rfl) rfl) fun a hF => ?_
 rw [and31 hk] at hF
 refine wg hF rfl rfl rfl (gv_assign rfl (hF.t rfl)) fun a hF => ?_
 rw [vD_small hk] at hF
 refine wN ?_
 refine tN (hKq2 _ _ ?_)
 refine wK fun Kq3 hKq3 => ?_
 refine wR ?_
 refine wg hF rfl rfl rfl (gv_move rfl (hF.t rfl)) fun a hF => ?_
 refine wg hF rfl rfl rfl (gv_move rfl (hF.t rfl)) fun a hF => ?_
 refine wg hF rfl rfl rfl (gv_w_shl rfl (hF.t rfl) (hF.t rfl) hk) fun a hF => ?_
 refine wg hF rfl rfl rfl (gv_move rfl (hF.t rfl)) fun a hF => ?_
 refine wg hF rfl rfl rfl (gv_move rfl (hF.t rfl)) fun a hF => ?_
 refine wg hF rfl rfl rfl (gv_d_sub (m := 32) (n := UInt64.ofNat k) rfl rfl ((hF.t rfl).trans (vD_small hk).symm)) fun a hF => ?_
 rw [vD_sub32 hk] at hF
 refine wg hF rfl rfl rfl (gv_w_shr rfl (hF.t rfl) (hF.t rfl) (by omega)) fun a hF => ?_
 refine wg hF rfl rfl rfl (gv_w_or rfl (hF.t rfl) (hF.t rfl)) fun a hF => ?_
 refine wg hF rfl rfl rfl (gv_assign rfl (hF.t rfl)) fun a hF => ?_
 refine wN ?_
 refine tN (hKq3 _ _ ?_)
 refine wp_ret ?_
 refine ret1 (fn := Tryd.f88) (t := 4) hF rfl rfl ?_
 exact ⟨rfl, Ext.refl _⟩
def pz (n : Nat) : Nat := (119 - n % 64) % 64
def lenB (n : Nat) : Nat → List UInt8
 | 0 => []
 | q + 1 => lenB n q ++ [((UInt64.ofNat n * 8) >>> UInt64.ofNat (8 * (7 - q))).toUInt8]
theorem lenB_len (n : Nat) : ∀ q, (lenB n q).length = q
 | 0 => rfl
 | q + 1 => by rw [lenB, List.length_append, lenB_len n q]; rfl
def padF (bl : List UInt8) : List UInt8 := bl ++ [128] ++ List.replicate (pz bl.length) 0 ++ lenB bl.length 8
theorem padF_len (bl : List UInt8) : (padF bl).length = bl.length + 9 + pz bl.length := by
 simp only [padF, List.length_append, List.length_replicate, lenB_len, List.length_cons, List.length_nil]; omega
theorem padF_mul (bl : List UInt8) : (padF bl).length = 64 * ((padF bl).length / 64) := by
 rw [padF_len, pz]; omega
def c1 (bl : List UInt8) (z : Nat) : List UInt8 := bl ++ [128] ++ List.replicate z 0
def c2 (bl : List UInt8) (q : Nat) : List UInt8 := bl ++ [128] ++ List.replicate (pz bl.length) 0 ++ lenB bl.length q
theorem c1_zero (bl : List UInt8) : bl ++ [128] = c1 bl 0 := by simp [c1]
theorem c1_succ (bl : List UInt8) (z : Nat) : c1 bl z ++ [0] = c1 bl (z + 1) := by rw [c1, c1, List.append_assoc, ← List.replicate_succ']
theorem c1_len (bl : List UInt8) (z : Nat) : (c1 bl z).length = bl.length + 1 + z := by simp [c1]; omega
theorem c2_zero (bl : List UInt8) : c1 bl (pz bl.length) = c2 bl 0 := by simp [c1, c2, lenB]
theorem c2_succ (bl : List UInt8) (q j : Nat) (h : j = 7 - q) : c2 bl q ++ [((UInt64.ofNat bl.length * 8) >>> UInt64.ofNat (8 * j)).toUInt8] = c2 bl (q + 1) := by rw [c2, c2, List.append_assoc, lenB, h]
theorem c2_len (bl : List UInt8) (q : Nat) : (c2 bl q).length = bl.length + 1 + pz bl.length + q := by simp [c2, lenB_len]; omega
theorem c2_pad (bl : List UInt8) : c2 bl 8 = padF bl := rfl
theorem pz_lt (n : Nat) : pz n < 64 := by unfold pz; omega
def dctr (j : Nat) : Value := .int .i64 ((j : Int) - 1)
theorem dctr_succ (j : Nat) : dctr (j + 1) = vI j := by
 unfold dctr vI
 rw [show (((j + 1 : Nat) : Int) - 1) = (j : Int) by omega]
theorem pad_ok {bv : Value} {bl : List UInt8} {w0 : World} (hb : Rd w0 bv (bl.map vB)) (hn : bl.length ≤ 1099511627776) :
  Calls Tryd.prog 87 #[bv, vI 64] w0 fun e w' => ∃ o op, e = .returned (ownV o (padF bl).length ((padF bl).length + op.length)) ∧ (o = none → padF bl = [] ∧ op = []) ∧ (padF bl).length + op.length ≤ 9223372036854775807 ∧ St w0 w' [⟨true, o, blk 5 ((padF bl).map vB ++ op)⟩] := by
 obtain ⟨Ab, cb, rfl, hb1, hb2, hbc⟩ := hb.isB
 clear hbc
 refine calls_start 44 Tryd.func87 rfl Tryd.ntmps87 rfl fun a hF => ?_
 have hS := St.refl w0
 refine wK fun Kq1 hKq1 => ?_
 refine wR ?_
 refine wg hF rfl rfl rfl (gv_assign rfl (ev_const _ _)) fun a hF => ?_
 refine wN ?_
 refine tN (hKq1 _ _ ?_)
 refine wK fun Kq2 hKq2 => ?_
 refine wR ?_
 refine wg hF rfl rfl rfl (gv_move rfl (hF.t rfl)) fun a hF => ?_
 replace hS := hS.addNil (blk 5 (([] : List UInt8).map vB ++ []))
 refine wpList_stp (stp_appB (ob := none) (l := []) (pad := []) (k := 0) hF (wanted_none rfl) rfl rfl rfl u22 Tryd.ty5 rfl (ev_const _ _) (hF.t rfl) hS rfl (fun _ => ⟨rfl, rfl⟩) (by simp) (hb) (by simp; omega) fun o op a w hF oo oc hS => ?_)
 simp only [List.nil_append] at hF oo oc hS
 refine wpList_stp (stp_build1 (v := 128) hF (wanted_none rfl) rfl rfl rfl u22 Tryd.ty5 rfl hS fun zb a w hF hS => ?_)
 refine wpList_stp (stp_app1 (k := 0) hF (wanted_none rfl) rfl rfl rfl u22 Tryd.ty5 rfl (hF.t rfl) (hF.t rfl) hS rfl oo oc (by omega) fun o op a w hF oo oc hS => ?_)
 refine wg hF rfl rfl rfl (gv_assign rfl (hF.t rfl)) fun a hF => ?_
 refine wN ?_
 refine tN (hKq2 _ _ ?_)
 refine wK fun Kq3 hKq3 => ?_
 refine wp_block ?_
 rw [c1_zero] at hF oo oc hS
 have hz0 := pz_lt bl.length
 refine wp_loop_n (fun n a w => ∃ (z : Nat) (o : Option Nat) (op : List Value), z ≤ pz bl.length ∧ n = pz bl.length - z ∧ (o = none → (c1 bl z) = [] ∧ op = []) ∧ ((c1 bl z)).length + op.length ≤ 9223372036854775807 ∧ Fr 44 a [(0, .slice Ab bl.length cb), (1, vI 64), (5, ownV o (c1 bl z).length ((c1 bl z).length + op.length))] ∧ St w0 w [⟨true, o, blk 5 (((c1 bl z)).map vB ++ op)⟩]) (pz bl.length) ⟨0, o, op, by omega, by omega, oo, oc, hF.sub ⟨rfl, rfl, rfl, trivial⟩, hS⟩ ?_
 rintro n a w ⟨z, o, op, hz, hn, oo, oc, hF, hS⟩
 have hzl := c1_len bl z
 refine wK fun Kq4 hKq4 => ?_
 refine wK fun Kq5 hKq5 => ?_
 refine wR ?_
 refine wg hF rfl rfl rfl (gv_move rfl (hF.t rfl)) fun a hF => ?_
 refine wg hF rfl rfl rfl (gv_lenOwn rfl u22 (hF.t rfl) (fun h => by rw [(oo h).1]; rfl)) fun a hF => ?_
 refine wg hF rfl rfl rfl (gv_move rfl (hF.t rfl)) fun a hF => ?_
 refine wg hF rfl rfl rfl (gv_nrem rfl (hF.t rfl) (hF.t rfl) (by omega)) fun a hF => ?_
 refine wg hF rfl rfl rfl (gv_move rfl (hF.t rfl)) fun a hF => ?_
 refine wg hF rfl rfl rfl (gv_move rfl (hF.t rfl)) fun a hF => ?_
 refine wg hF rfl rfl rfl (gv_nquo (n := 8) rfl (hF.t rfl) rfl (by omega) (by omega)) fun a hF => ?_
 refine wg hF rfl rfl rfl (gv_nsub rfl (hF.t rfl) (hF.t rfl) (by omega) (by omega)) fun a hF => ?_
 refine wg hF rfl rfl rfl (gv_neq rfl (hF.t rfl) (hF.t rfl)) fun a hF => ?_
 refine wN ?_
 refine tN (hKq5 _ _ ?_)
 refine cond_dec (hF.t rfl) (fun h19 => ?_) (fun h19 => ?_)
 ·
  refine wp_skip ?_
  refine tN (hKq4 _ _ ?_)
  refine wp_block ?_
  refine wR ?_
  refine wg hF rfl rfl rfl (gv_move rfl (hF.t rfl)) fun a hF => ?_
  refine wpList_stp (stp_build1 (v := 0) hF (wanted_none rfl) rfl rfl rfl u22 Tryd.ty5 rfl hS fun zb a w hF hS => ?_)
  refine wpList_stp (stp_app1 (k := 0) hF (wanted_none rfl) rfl rfl rfl u22 Tryd.ty5 rfl (hF.t rfl) (hF.t rfl) hS rfl oo oc (by omega) fun o op a w hF oo oc hS => ?_)
  refine wg hF rfl rfl rfl (gv_assign rfl (hF.t rfl)) fun a hF => ?_
  refine wN ?_
  refine block_normal ?_
  refine then_normal ?_
  rw [c1_succ] at hF oo oc hS
  have hlt : z < pz bl.length := by unfold pz at *; omega
  exact ⟨n - 1, by omega, z + 1, o, op, by omega, by omega, oo, oc, hF.sub ⟨rfl, rfl, rfl, trivial⟩, hS⟩
 ·
  refine wp_exit ?_
  refine then_exit ?_
  refine then_exit ?_
  refine block_exit ?_
  refine tN (hKq3 _ _ ?_)
  refine wK fun Kq6 hKq6 => ?_
  refine wR ?_
  refine wg hF rfl rfl rfl (gv_move rfl (hF.t rfl)) fun a hF => ?_
  refine wg hF rfl rfl rfl (gv_move rfl (hF.t rfl)) fun a hF => ?_
  refine wg hF rfl rfl rfl (gv_nquo (m := 64) (n := 8) rfl (hF.t rfl) rfl (by omega) (by omega)) fun a hF => ?_
  refine wg hF rfl rfl rfl (gv_nsub (n := 8) rfl (hF.t rfl) rfl (by omega) (by omega)) fun a hF => ?_
  obtain ⟨Ao, hAo, _⟩ := ownV_pos (ob := o) (n := (c1 bl z).length) (c := (c1 bl z).length + op.length) (hi := 0) (fun h => by rw [(oo h).1, (oo h).2]; exact ⟨rfl, rfl⟩) (Nat.zero_le _)
  rw [hAo] at hF
  refine wpList_stp (stp_app0 hF (wanted_none rfl) rfl rfl rfl u22 u3 Tryd.ty5 (hF.t rfl) (hF.t rfl) (by omega) fun a hF => ?_)
  rw [← hAo] at hF
  clear hAo
  refine wg hF rfl rfl rfl (gv_assign rfl (hF.t rfl)) fun a hF => ?_
  refine wN ?_
  refine tN (hKq6 _ _ ?_)
  refine wK fun Kq7 hKq7 => ?_
  refine wK fun Kq8 hKq8 => ?_
  refine wR ?_
  refine wg hF rfl rfl rfl (gv_assign rfl (ev_const _ _)) fun a hF => ?_
  refine wN ?_
  refine tN (hKq8 _ _ ?_)
  refine wp_block ?_
  obtain rfl : z = pz bl.length := by unfold pz at *; omega
  rw [c2_zero] at hF oo oc hS
  refine wp_loop_n (fun q1 a w => ∃ (q j : Nat) (o : Option Nat) (op : List Value), q + j = 8 ∧ q1 = j ∧ (o = none → (c2 bl q) = [] ∧ op = []) ∧ ((c2 bl q)).length + op.length ≤ 9223372036854775807 ∧ Fr 44 a [(0, .slice Ab bl.length cb), (1, vI 64), (5, ownV o (c2 bl q).length ((c2 bl q).length + op.length)), (6, dctr j)] ∧ St w0 w [⟨true, o, blk 5 (((c2 bl q)).map vB ++ op)⟩]) 8 ⟨0, 8, o, op, rfl, rfl, oo, oc, hF.sub ⟨rfl, rfl, rfl, rfl, trivial⟩, hS⟩ ?_
  rintro q1 a w ⟨q, j, o, op, hqj, hn, oo, oc, hF, hS⟩
  have hzl := c2_len bl q
  refine wK fun Kq9 hKq9 => ?_
  refine wK fun Kq10 hKq10 => ?_
  refine wR ?_
  refine wg hF rfl rfl rfl (gv_move rfl (hF.t rfl)) fun a hF => ?_
  refine wg hF rfl rfl rfl (gv_geq rfl (hF.t rfl) (ev_const _ _)) fun a hF => ?_
  refine wN ?_
  refine tN (hKq10 _ _ ?_)
  refine cond_dec (hF.t rfl) (fun h29 => ?_) (fun h29 => ?_)
  ·
   obtain ⟨j, rfl⟩ : ∃ i, j = i + 1 := ⟨j - 1, by omega⟩
   have hF0 := hF
   replace hF : Fr 44 a [(0, .slice Ab bl.length cb), (1, vI 64), (5, ownV o (c2 bl q).length ((c2 bl q).length + op.length)), (6, vI j)] := hF.sub ⟨rfl, rfl, rfl, congrArg some (dctr_succ j), trivial⟩
   clear hF0
   refine wp_skip ?_
   refine tN (hKq9 _ _ ?_)
   refine wK fun Kq11 hKq11 => ?_
   refine wp_block ?_
   refine wR ?_
   refine wg hF rfl rfl rfl (gv_move rfl (hF.t rfl)) fun a hF => ?_
   refine wg hF rfl rfl rfl (gv_move rfl (hF.t rfl)) fun a hF => ?_
   refine wg hF rfl rfl rfl (gv_len rfl u22 (hF.t rfl)) fun a hF => ?_
   refine wg hF rfl rfl rfl (gv_conv_i_d rfl u3 u76 (hF.t rfl)) fun a hF => ?_
   refine wg hF rfl rfl rfl (gv_d_mul (n := 8) rfl (hF.t rfl) rfl) fun a hF => ?_
   refine wg hF rfl rfl rfl (gv_move rfl (hF.t rfl)) fun a hF => ?_
   refine wg hF rfl rfl rfl (gv_nmul (m := 8) rfl rfl (hF.t rfl) (by omega)) fun a hF => ?_
   refine wg hF rfl rfl rfl (gv_d_shr rfl (hF.t rfl) (hF.t rfl) (by omega)) fun a hF => ?_
   refine wg hF rfl rfl rfl (gv_conv_d_b rfl u76 u5 (hF.t rfl)) fun a hF => ?_
   refine wpList_stp (stp_build1 (v := _) hF (wanted_none rfl) rfl rfl rfl u22 Tryd.ty5 (hF.t rfl) hS fun zb a w hF hS => ?_)
   refine wpList_stp (stp_app1 (k := 0) hF (wanted_none rfl) rfl rfl rfl u22 Tryd.ty5 rfl (hF.t rfl) (hF.t rfl) hS rfl oo oc (by omega) fun o op a w hF oo oc hS => ?_)
   refine wg hF rfl rfl rfl (gv_assign rfl (hF.t rfl)) fun a hF => ?_
   refine wN ?_
   refine block_normal ?_
   refine tN (hKq11 _ _ ?_)
   refine wR ?_
   refine wg hF rfl rfl rfl (gv_move rfl (hF.t rfl)) fun a hF => ?_
   refine wg hF rfl rfl rfl (gv_sub rfl (hF.t rfl) (ev_const _ _) (by omega) (by omega)) fun a hF => ?_
   refine wg hF rfl rfl rfl (gv_assign rfl (hF.t rfl)) fun a hF => ?_
   refine wN ?_
   refine then_normal ?_
   rw [c2_succ _ _ _ (show j = 7 - q by omega)] at hF oo oc hS
   exact ⟨q1 - 1, by omega, q + 1, j, o, op, by omega, by omega, oo, oc, hF.sub ⟨rfl, rfl, rfl, rfl, trivial⟩, hS⟩
  ·
   refine wp_exit ?_
   refine then_exit ?_
   refine then_exit ?_
   refine block_exit ?_
   refine tN (hKq7 _ _ ?_)
   refine wK fun Kq12 hKq12 => ?_
   obtain rfl : j = 0 := by omega
   obtain rfl : q = 8 := by omega
   rw [c2_pad] at hF oo oc hS
   refine wR ?_
   refine wg hF rfl rfl rfl (gv_move rfl (hF.t rfl)) fun a hF => ?_
   refine wg hF rfl rfl rfl (gv_assign rfl (hF.t rfl)) fun a hF => ?_
   refine wN ?_
   refine tN (hKq12 _ _ ?_)
   refine wp_ret ?_
   refine ret1 (fn := Tryd.f87) (t := 4) hF rfl rfl ?_
   exact ⟨o, op, rfl, oo, oc, hS⟩
end Go.Proofs.YtfhalnobaeogkaaDoor
set_option linter.unusedVariables false
set_option linter.unusedSimpArgs false
namespace Go.Fw
open Go Go.RowKit Go.ChangeShapes Go.WideShapes
theorem table_u64 {H : Type} {enc : TypeId × Value → H} {P : Program} {w : World} {base : Nat} {spare : Nat → Bool} {held : Bool} {fuel : Nat} {t e : TypeId} {n : Nat} {cs : List Value} {l : List UInt64} {p : List MemPlace} (ht : P.underlying t = some (.array n e)) (he : P.underlying e = some (.int .u64)) (hc : P.cellsOf e = 1) (hl : l.length = n)
  (h : DataW.trod enc P w base spare held fuel t cs = some (.agg (l.map fun x => .lit (.int .u64 (x.toNat : Int))), p)) : ∀ i, i < n → cs[i]? = some (vD (l.getD i 0)) := by
 intro i hi
 obtain ⟨xs, m, _, hx, _, hn, hel⟩ := DataW.trod_array ht h
 simp only [Prod.mk.injEq, DataW.agg.injEq] at hx
 have hi' := hel i hi
 rw [hc, Nat.mul_one, List.getElem?_eq_getElem (by omega)] at hi'
 obtain ⟨k, e1, e2, _⟩ := DataW.trod_int he hi'
 have hd : (l.map fun x => (DataW.lit (.int .u64 (x.toNat : Int)) : DataW H))[i]? = some (xs[i].1) := by rw [hx.1, List.getElem?_map, List.getElem?_eq_getElem (by omega)]; rfl
 rw [List.getElem?_map, List.getElem?_eq_getElem (by omega)] at hd
 simp only [Option.map_some, Option.some.injEq] at hd
 rw [e2] at hd
 injection hd with hd
 injection hd with _ hd
 have h1 : ((cs.drop i).take 1)[0]? = some (.int .u64 k) := by rw [e1]; rfl
 rw [List.getElem?_take, if_pos (by omega), List.getElem?_drop, Nat.add_zero] at h1
 rw [h1, ← hd, vD, List.getD_eq_getElem?_getD, List.getElem?_eq_getElem (by omega)]
 rfl
end Go.Fw
namespace Go.Fw
open Go Go.RowKit Go.ChangeShapes Go.WideShapes
end Go.Fw
set_option linter.unusedVariables false
set_option linter.unusedSimpArgs false
namespace Go.Proofs.YtfhalnobaeogkaaDoor
open Go Go.RowKit Go.Fw
abbrev laidL : List (String × DataW Unit) := [("tabulary/digest.steps", Rows.laid_tabulary_digest_steps), ("tabulary/digest.starts", Rows.laid_tabulary_digest_starts)]
theorem gSteps : Tryd.prog.globalNamed "tabulary/digest.steps" = some 1 := by kernel_rfl
theorem gStarts : Tryd.prog.globalNamed "tabulary/digest.starts" = some 0 := by kernel_rfl
theorem tSteps : (Tryd.prog.globals[1]?).map (·.type) = some 150 := by kernel_rfl
theorem tStarts : (Tryd.prog.globals[0]?).map (·.type) = some 148 := by kernel_rfl
theorem eSteps {H : Type} : (Rows.laid_tabulary_digest_steps : DataW H) = .agg (stepsL.map fun x => .lit (.int .u64 (x.toNat : Int))) := by kernel_rfl
theorem eStarts {H : Type} : (Rows.laid_tabulary_digest_starts : DataW H) = .agg (startsL.map fun x => .lit (.int .u64 (x.toNat : Int))) := by kernel_rfl
theorem door_met (os : Os) (args : Array Value) : laidMetH Tryd.prog laidL ((World.doorLaid Tryd.prog 19 os).forCall (fun _ _ => 0) ⟨#[], args, []⟩).memory :=
 laidMetH_of_parts3 (fuel := 8) (laidMet_of_run' 8 (by kernel_rfl) (by kernel_rfl)) (by kernel_rfl) (by kernel_rfl)
theorem glob_of_laid {W : World} (h : laidMetH Tryd.prog laidL W) : Glob W := by
 rw [MakeChecks.laidMetH_plain _ _ _ (by kernel_rfl)] at h
 obtain ⟨ps, ⟨g0, t0, cs0, f0, p0, q0, hg0, ht0, hv0, hd0, ⟨g1, t1, cs1, f1, p1, q1, hg1, ht1, hv1, hd1, _, _⟩, _⟩, _, _⟩ := h
 obtain rfl := Option.some.inj (gSteps.symm.trans hg0)
 obtain rfl := Option.some.inj (gStarts.symm.trans hg1)
 obtain rfl := Option.some.inj (tSteps.symm.trans ht0)
 obtain rfl := Option.some.inj (tStarts.symm.trans ht1)
 rw [eSteps] at hd0
 rw [eStarts] at hd1
 refine ⟨fun i hi => ?_, fun i hi => ?_⟩
 ·
  have := table_u64 u148 u76 (by kernel_rfl) rfl hd1 i hi
  have h2 := World.var?_cell hg1 hv1 i
  rw [h2]
  simpa using this
 ·
  have := table_u64 u150 u76 (by kernel_rfl) rfl hd0 i hi
  have h2 := World.var?_cell hg0 hv0 i
  rw [h2]
  simpa using this
end Go.Proofs.YtfhalnobaeogkaaDoor
set_option linter.unusedVariables false
set_option linter.unusedSimpArgs false
namespace Go.Fw
open Go Go.RowKit Go.ChangeShapes Go.WideShapes Go.Deep
theorem weights_each {H : Type} {P : Program} : ∀ {ts : List TypeId} {l : List (DataW H)} {j : Nat} {t : TypeId} {d : DataW H}, ts[j]? = some t → l[j]? = some d → ∀ n ∈ d.weights P t, n ∈ DataW.weightsEach P ts l
 | t :: ts, d :: l, 0, _, _, h1, h2, n, hn => by
  simp only [List.getElem?_cons_zero, Option.some.injEq] at h1 h2
  subst h1; subst h2
  simp only [DataW.weightsEach, List.mem_append]
  exact .inl hn
 | t :: ts, d :: l, j + 1, _, _, h1, h2, n, hn => by
  simp only [List.getElem?_cons_succ] at h1 h2
  simp only [DataW.weightsEach, List.mem_append]
  exact .inr (weights_each h1 h2 n hn)
 | [], _, _, _, _, h1, _, _, _ => by simp at h1
 | _ :: _, [], _, _, _, _, h2, _, _ => by simp at h2
structure FieldAt {H : Type} (enc : TypeId × Value → H) (P : Program) (w : World) (base : Nat) (held : Bool) (T : TypeId) (d : DataW H) (at_ : Nat × Nat) (ft : TypeId) (v : Value) : Prop where
 cell : w.cell? ⟨at_.1, at_.2, none⟩ = some v
 rd : ∃ n y, DataW.trod enc P w base (fun _ => true) held n ft [v] = some y ∧ ∀ x ∈ y.1.weights P ft, x ∈ d.weights P T
theorem open_structs {H : Type} {enc : TypeId × Value → H} {P : Program} {w : World} {base : Nat} {held : Bool} {t e : TypeId} {fs : Array Field} {k : Nat} {A : Option Addr} {len cap : Nat} {d : DataW H} {p : List MemPlace} (ht : P.underlying t = some (.slice e)) (he : P.underlying e = some (.struct fs)) (hc : P.cellsOf e = k) (hk : fs.size = k) (hk0 : 0 < k)
  (hf : ∀ (j : Nat) (f : Field), fs[j]? = some f → f.offset = j ∧ P.cellsOf f.type = 1) (h : DataW.Trod enc P w base (fun _ => true) held t (.slice A len cap) d p) :
  len ≤ cap ∧ cap ≤ maxLen ∧ (0 < len → ∃ b o, A = some ⟨b, o, none⟩ ∧ ∀ i, i < len → ∀ (j : Nat) (f : Field), fs[j]? = some f → ∃ v, FieldAt enc P w base held t d (b, o + i * k + j) f.type v) := by
 obtain ⟨fuel, hfu⟩ := h
 rcases open_slice ht hfu with ⟨hcs, _⟩ | ⟨x, l, c, m, n, D, Pl, hcs, hb, hl, hm, hmm, hx, hel⟩
 ·
  simp [Value.cells] at hcs
  obtain ⟨rfl, rfl, rfl⟩ := hcs
  exact ⟨Nat.le_refl _, by simp [maxLen], fun h => absurd h (by omega)⟩
 ·
  simp [Value.cells] at hcs
  obtain ⟨rfl, rfl, rfl⟩ := hcs
  simp only [Prod.mk.injEq] at hx
  have hm' : m = cap := by simpa using hmm
  subst hm'
  refine ⟨hl, hm, fun hpos => ?_⟩
  have each : ∀ i, i < len → ∀ (j : Nat) (f : Field), fs[j]? = some f → ∃ v, w.cell? ((x.add (i * k)).add j) = some v ∧ ∃ n y, DataW.trod enc P w base (fun _ => true) held n f.type [v] = some y ∧ ∀ q ∈ y.1.weights P f.type, q ∈ d.weights P t := by
   intro i hi j f hjf
   obtain ⟨cs', h1, h2⟩ := hel i (by omega)
   rw [hc] at h1
   obtain ⟨_, hlen, hcell⟩ := World.cells?_some h1
   obtain ⟨xs, q, hq, hxy, _, hxl, hfd⟩ := DataW.trod_struct he h2
   have hjk : j < k := by rw [← hk]; exact (Array.getElem?_eq_some_iff.1 hjf).1
   obtain ⟨ho, hcf⟩ := hf j f hjf
   have hj := hfd j f hjf
   rw [ho, hcf] at hj
   have hcj : cs'[j]? = some cs'[j] := List.getElem?_eq_getElem (by omega)
   have h1' : (cs'.drop j).take 1 = [cs'[j]] := by rw [List.drop_eq_getElem_cons (by omega)]; rfl
   rw [h1', List.getElem?_eq_getElem (by omega)] at hj
   refine ⟨cs'[j], by rw [hcell j hjk, hcj], q, _, hj, fun z hz => ?_⟩
   rw [hx.1]
   simp only [DataW.weights, ht, List.mem_cons, List.mem_append]
   refine .inr (.inl (weights_all (d := D i) (List.mem_map.2 ⟨i, List.mem_range.2 hi, rfl⟩) _ ?_))
   simp only [Prod.mk.injEq] at hxy
   rw [hxy.1]
   simp only [DataW.weights, he]
   refine weights_each (j := j) (t := f.type) (d := xs[j].1) ?_ ?_ _ hz
   ·
    rw [List.getElem?_map, Array.getElem?_toList, hjf]; rfl
   ·
    rw [List.getElem?_map, List.getElem?_eq_getElem (by omega)]; rfl
  have hf0 : fs[0]? = some fs[0] := Array.getElem?_eq_getElem (by omega)
  obtain ⟨v0, hv0, _⟩ := each 0 hpos 0 _ hf0
  obtain ⟨bb, off, spot⟩ := x
  have hspot : spot = none := by simpa [Addr.add] using World.cell?_spot hv0
  subst hspot
  refine ⟨bb, off, rfl, fun i hi j f hjf => ?_⟩
  obtain ⟨v, h1, h2⟩ := each i hi j f hjf
  rw [add_plain, add_plain] at h1
  exact ⟨v, h1, h2⟩
theorem FieldAt.int {H : Type} {enc : TypeId × Value → H} {P : Program} {w : World} {base : Nat} {held : Bool} {T : TypeId} {d : DataW H} {at_ : Nat × Nat} {ft : TypeId} {v : Value} (h : FieldAt enc P w base held T d at_ ft v) (ht : P.underlying ft = some (.int .i64)) : ∃ n : Int, v = .int .i64 n ∧ -9223372036854775808 ≤ n ∧ n ≤ 9223372036854775807 := by
 obtain ⟨_, n, y, hy, _⟩ := h
 obtain ⟨k, h1, _, h3⟩ := DataW.trod_int ht hy
 injection h1 with h1
 exact ⟨k, h1, bounds_i64 h3⟩
theorem FieldAt.str {H : Type} {enc : TypeId × Value → H} {P : Program} {w : World} {base : Nat} {held : Bool} {T : TypeId} {d : DataW H} {at_ : Nat × Nat} {ft : TypeId} {v : Value} (h : FieldAt enc P w base held T d at_ ft v) (ht : P.underlying ft = some .string) (hs : ∀ n ∈ d.weights P T, n ≤ reachBytes) : ∃ l : List UInt8, v = sV l ∧ l.length ≤ 140737488351232 := by
 obtain ⟨_, n, y, hy, hw⟩ := h
 obtain ⟨s, h1, h2, _⟩ := DataW.trod_string ht hy
 injection h1 with h1
 refine ⟨s.data.toList, h1, ?_⟩
 have := hs _ (hw s.data.toList.length (by rw [h2]; simp [DataW.weights]))
 simpa [reachBytes] using this
theorem FieldAt.bytes {H : Type} {enc : TypeId × Value → H} {P : Program} {w : World} {base : Nat} {held : Bool} {T : TypeId} {d : DataW H} {at_ : Nat × Nat} {ft b : TypeId} {v : Value} (h : FieldAt enc P w base held T d at_ ft v) (ht : P.underlying ft = some (.slice b)) (hb : P.underlying b = some (.int .u8)) (hcb : P.cellsOf b = 1) (hby : P.bytesOf b = 1) (hs : ∀ n ∈ d.weights P T, n ≤ reachBytes) :
  v.cells = #[v] ∧ ∃ l : List UInt8, Rd w v (l.map vB) ∧ l.length ≤ 140737488351232 := by
 obtain ⟨_, n, y, hy, hw⟩ := h
 rcases open_ints ht hb hcb hy with ⟨hcs, _⟩ | ⟨x, l', c', zs, hcs, _, hl', hm', hz, hy2, hcell, hwz⟩
 ·
  injection hcs with hcs _
  rw [hcs]
  exact ⟨rfl, [], Rd.nil w, by simp⟩
 ·
  injection hcs with hcs _
  rw [hcs]
  obtain ⟨l, hr, hlen⟩ := rd_ints_len hl' hm' (by simpa using hz) hcell hwz
  refine ⟨rfl, l, hr, ?_⟩
  have hq := hs ((lits IntKind.u8 (zs.take l') (H := H)).length + (lits IntKind.u8 (zs.drop l') (H := H)).length) (hw _ (by
   rw [hy2]
   simp only [DataW.weights, ht, hby, Nat.mul_one, List.mem_cons, true_or]))
  have hzl : zs.length = c' := by simpa using hz
  simp only [lits, List.length_map, List.length_take, List.length_drop, reachBytes] at hq
  rw [hlen]
  omega
end Go.Fw
set_option linter.unusedVariables false
set_option linter.unusedSimpArgs false
namespace Go.Fw
open Go Go.RowKit
section
variable {P : Program} {N : Nat} {a : Act} {w w0 : World} {m : List (Nat × Value)} {H : List Ent} {o : Oper} {ops : Array Oper} {K : Act → World → Prop} {Q : Exit → Act → World → Prop} {x y z y' : Operand} {t t' e : TypeId} {A : Option Addr} {n c l h mx : Nat}
def cut3V (A : Option Addr) (l h mx : Nat) : Value := .slice (if mx = l then A else A.map (·.add l)) (h - l) (mx - l)
theorem gv_slice3 (ho : o.op = .slice t x (some y') (some y) (some z)) (ht : P.underlying t = some (.slice e)) (hz : (P.info? e).map (·.size) = some 1) (hx : a.eval x = .slice A n c) (hl : a.eval y' = vI l) (hh : a.eval y = vI h) (hm : a.eval z = vI mx) (h1 : l ≤ h) (h2 : h ≤ mx) (h3 : mx ≤ c) : Gv P o a w (cut3V A l h mx) := by
 unfold Gv execOp; rw [ho]
 have g1 : (0 : Int) ≤ (l : Int) ∧ (l : Int) ≤ (h : Int) := ⟨by omega, by omega⟩
 have g2 : (0 : Int) ≤ (h : Int) ∧ (h : Int) ≤ (mx : Int) := ⟨by omega, by omega⟩
 have g3 : (0 : Int) ≤ (mx : Int) ∧ (mx : Int) ≤ (c : Int) := ⟨by omega, by omega⟩
 simp [hx, hl, hh, hm, vI, Instr.sliceAt, Instr.slice, run_und ht, Instr.sliceBounds, Instr.sliceBound, asIntOf, g1, g2, g3, h1, h2, h3, Fw.run_sizeOf hz, cut3V]
theorem gv_slice2 (ho : o.op = .slice t x (some y') (some y) none) (ht : P.underlying t = some (.slice e)) (hz : (P.info? e).map (·.size) = some 1) (hx : a.eval x = .slice A n c) (hl : a.eval y' = vI l) (hh : a.eval y = vI h) (h1 : l ≤ h) (h3 : h ≤ c) : Gv P o a w (cut3V A l h c) := by
 unfold Gv execOp; rw [ho]
 have g1 : (0 : Int) ≤ (l : Int) ∧ (l : Int) ≤ (h : Int) := ⟨by omega, by omega⟩
 have g3 : (0 : Int) ≤ (h : Int) ∧ (h : Int) ≤ (c : Int) := ⟨by omega, by omega⟩
 simp [hx, hl, hh, vI, Instr.sliceAt, Instr.slice, run_und ht, Instr.sliceBounds, Instr.sliceBound, asIntOf, g1, g3, h1, h3, Fw.run_sizeOf hz, cut3V]
theorem gv_sliceHM (ho : o.op = .slice t x none (some y) (some z)) (ht : P.underlying t = some (.slice e)) (hz : (P.info? e).map (·.size) = some 1) (hx : a.eval x = .slice A n c) (hh : a.eval y = vI h) (hm : a.eval z = vI mx) (h2 : h ≤ mx) (h3 : mx ≤ c) : Gv P o a w (.slice A h mx) := by
 unfold Gv execOp; rw [ho]
 have g2 : (0 : Int) ≤ (h : Int) ∧ (h : Int) ≤ (mx : Int) := ⟨by omega, by omega⟩
 have g3 : (0 : Int) ≤ (mx : Int) ∧ (mx : Int) ≤ (c : Int) := ⟨by omega, by omega⟩
 by_cases hc : mx = 0
 ·
  have : h = 0 := by omega
  subst this; subst hc
  simp [hx, hh, hm, vI, Instr.sliceAt, Instr.slice, run_und ht, Instr.sliceBounds, Instr.sliceBound, asIntOf, Fw.run_sizeOf hz]
 ·
  cases A <;> simp [hx, hh, hm, vI, Instr.sliceAt, Instr.slice, run_und ht, Instr.sliceBounds, Instr.sliceBound, asIntOf, g2, g3, h2, h3, Fw.run_sizeOf hz, hc, Addr.add]
theorem gv_sliceArrHi {b off : Nat} (ho : o.op = .slice t x none (some y) none) (ht : P.underlying t = some (.array n e)) (hz : (P.info? e).map (·.size) = some 1) (hx : a.eval x = .pointer (some ⟨b, off, none⟩)) (hh : a.eval y = vI h) (h1 : h ≤ n) : Gv P o a w (.slice (some ⟨b, off, none⟩) h n) := by
 unfold Gv execOp; rw [ho]
 have g1 : (0 : Int) ≤ (h : Int) ∧ (h : Int) ≤ (n : Int) := ⟨by omega, by omega⟩
 by_cases hn : n = 0
 ·
  have : h = 0 := by omega
  subst this; subst hn
  simp [hx, hh, vI, Instr.sliceAt, run_und ht, Instr.sureAddr, Instr.sliceBounds, Instr.sliceBound, asIntOf, Fw.run_sizeOf hz]
 ·
  simp [hx, hh, vI, Instr.sliceAt, run_und ht, Instr.sureAddr, Instr.sliceBounds, Instr.sliceBound, asIntOf, g1, h1, Fw.run_sizeOf hz, hn, Addr.add]
theorem Rd.cut3 {xs : List Value} (hr : Rd w (.slice A n c) xs) (h1 : l ≤ h) (h2 : h ≤ n) (h3 : h ≤ mx) (h4 : mx ≤ c) : Rd w (cut3V A l h mx) ((xs.take h).drop l) := by
 obtain ⟨A', c', hv, g1, g2, g3⟩ := hr.is
 injection hv with hA hn hc
 subst hA; subst hc; subst hn
 have hlen : ((xs.take h).drop l).length = h - l := by simp; omega
 refine ⟨_, mx - l, by rw [hlen]; rfl, by omega, by omega, fun hp => ?_⟩
 obtain ⟨b, o, hA, hcell⟩ := g3 (by omega)
 subst hA
 refine ⟨b, o + l, by rw [if_neg (by omega)]; simp [add_lit], fun i u hu => ?_⟩
 rw [Nat.add_assoc]
 refine hcell (l + i) u ?_
 rw [List.getElem?_drop, List.getElem?_take] at hu
 split at hu
 ·
  exact hu
 ·
  cases hu
theorem Rd.cutHM {xs : List Value} (hr : Rd w (.slice A n c) xs) (h2 : h ≤ n) (h3 : h ≤ mx) (h4 : mx ≤ c) : Rd w (.slice A h mx) (xs.take h) := by
 obtain ⟨A', c', hv, g1, g2, g3⟩ := hr.is
 injection hv with hA hn hc
 subst hA; subst hc; subst hn
 have hlen : (xs.take h).length = h := by simp; omega
 refine ⟨A, mx, by rw [hlen], by omega, by omega, fun hp => ?_⟩
 obtain ⟨b, o, hA, hcell⟩ := g3 (by omega)
 refine ⟨b, o, hA, fun i u hu => hcell i u ?_⟩
 rw [List.getElem?_take] at hu
 split at hu
 ·
  exact hu
 ·
  cases hu
theorem SRd.cut3 {T : List Ent} {xs : List Value} (hr : SRd w0 T (.slice A n c) xs) (h1 : l ≤ h) (h2 : h ≤ n) (h3 : h ≤ mx) (h4 : mx ≤ c) : SRd w0 T (cut3V A l h mx) ((xs.take h).drop l) := fun w H hS hn hs => (hr w H hS hn hs).cut3 h1 h2 h3 h4
theorem SRd.cutHM {T : List Ent} {xs : List Value} (hr : SRd w0 T (.slice A n c) xs) (h2 : h ≤ n) (h3 : h ≤ mx) (h4 : mx ≤ c) : SRd w0 T (.slice A h mx) (xs.take h) := fun w H hS hn hs => (hr w H hS hn hs).cutHM h2 h3 h4
theorem eqGuard_slice (op : BinOp) (t : TypeId) (x y : Operand) (A B : Option Addr) (n c n' c' : Nat) (w : World) : (eqGuard op t x y (.slice A n c) (.slice B n' c')).run P w = .ok () w := by
 unfold eqGuard; split <;> rfl
theorem gv_eqlNilS (ho : o.op = .binOp .eql t x y t') (ht : P.underlying t = some (.slice e)) (hx : a.eval x = .slice A n c) (hy : a.eval y = .slice none 0 0) : Gv P o a w (.bool A.isNone) := by
 have he : (Op.equal t (.slice A n c) (.slice none 0 0)).run P w = .ok A.isNone w := by
  show (Op.equalIn (9999 + 1) t (.slice A n c) (.slice none 0 0)).run P w = _
  unfold Op.equalIn
  cases A <;> simp [run_und ht]
 unfold Gv execOp; rw [ho]
 simp only [hx, hy, binOp, Sem.run_bind, eqGuard_slice, Result.andThen_ok, he, Sem.run_pure]
theorem gv_neqNilS (ho : o.op = .binOp .neq t x y t') (ht : P.underlying t = some (.slice e)) (hx : a.eval x = .slice A n c) (hy : a.eval y = .slice none 0 0) : Gv P o a w (.bool A.isSome) := by
 have he : (Op.equal t (.slice A n c) (.slice none 0 0)).run P w = .ok A.isNone w := by
  show (Op.equalIn (9999 + 1) t (.slice A n c) (.slice none 0 0)).run P w = _
  unfold Op.equalIn
  cases A <;> simp [run_und ht]
 unfold Gv execOp; rw [ho]
 simp only [hx, hy, binOp, Sem.run_bind, eqGuard_slice, Result.andThen_ok, he, Sem.run_pure]
 cases A <;> rfl
theorem stp_build4 {v0 v1 v2 v3 : UInt8} {q0 q1 q2 q3 : Operand} {k : Nat} (hF : Fr N a m) (hw : Region.wanted o (yielded ops a.tmps) = true) (hd : o.dst = some k) (hN : Nat.blt k N = true) (ho : o.op = .buildSlice t 4 #[(0, q0), (1, q1), (2, q2), (3, q3)]) (ht : P.underlying t = some (.slice e)) {by_ : Nat} (hty : Ty P e (.int .u8 0) 1 by_)
  (h0 : a.eval q0 = vB v0) (h1 : a.eval q1 = vB v1) (h2 : a.eval q2 = vB v2) (h3 : a.eval q3 = vB v3) (hS : St w0 w H)
  (h : ∀ b a' w', Fr N a' ((k, .slice (some ⟨b, 0, none⟩) 4 4) :: m) → St w0 w' (⟨true, some b, blkB e [v0, v1, v2, v3]⟩ :: H) → K a' w') : Stp P ops Q o a w K := by
 obtain ⟨i, g1, g2, g3, g4⟩ := hty.get
 refine stp_val hF hw hd hN (w' := w.alloc (.cells [vB v0, vB v1, vB v2, vB v3].toArray e)) ?_ fun a' hF' => h _ a' _ hF' (hS.alloc _)
 have := run_buildSlice (P := P) w t e 4 #[(0, vB v0), (1, vB v1), (2, vB v2), (3, vB v3)] [vB v0, vB v1, vB v2, vB v3].toArray i (.int .u8 0) ht g1 g2 (by rw [g3]; decide) (by rw [g3]; decide) (by
  rw [g3, show (Array.range (4 * 1)).map (fun j => (Value.int .u8 0).cells[j % (Value.int .u8 0).cells.size]!) = #[.int .u8 0, .int .u8 0, .int .u8 0, .int .u8 0] from by rw [show Array.range (4 * 1) = #[0, 1, 2, 3] from by decide]; simp [Value.cells]]
  refine (fill_cons (place := fun i => some (i * 1, 1)) (v := vB v0) (i := 0) (rest := [(1, vB v1), (2, vB v2), (3, vB v3)]) (zs := [.int .u8 0, .int .u8 0, .int .u8 0, .int .u8 0]) (vs := [vB v0]) (off := 0) rfl rfl (by simp)).trans ?_
  refine (fill_cons (place := fun i => some (i * 1, 1)) (v := vB v1) (i := 1) (rest := [(2, vB v2), (3, vB v3)]) (vs := [vB v1]) (off := 1) rfl rfl (by simp [splice])).trans ?_
  refine (fill_cons (place := fun i => some (i * 1, 1)) (v := vB v2) (i := 2) (rest := [(3, vB v3)]) (vs := [vB v2]) (off := 2) rfl rfl (by simp [splice])).trans ?_
  refine (fill_cons (place := fun i => some (i * 1, 1)) (v := vB v3) (i := 3) (rest := []) (vs := [vB v3]) (off := 3) rfl rfl (by simp [splice])).trans ?_
  rw [fill_nil]; rfl)
 simp [execOp, ho, h0, h1, h2, h3]
 show ((Instr.buildSlice t 4 #[(0, vB v0), (1, vB v1), (2, vB v2), (3, vB v3)]).run P w).andThen _ = _
 rw [this]; rfl
end
end Go.Fw
namespace Go.Fw
open Go Go.RowKit
section
variable {P : Program} {N : Nat} {a : Act} {w w0 : World} {m : List (Nat × Value)} {H : List Ent} {o : Oper} {ops : Array Oper} {K : Act → World → Prop} {Q : Exit → Act → World → Prop} {x y : Operand} {t e : TypeId} {z : Value}
theorem stp_appFull {A : Option Addr} {l ml : List UInt8} {v : Value} {d : Nat} (hF : Fr N a m) (hw : Region.wanted o (yielded ops a.tmps) = true) (hd : o.dst = some d) (hN : Nat.blt d N = true)
  (ho : o.op = .call { callee := .builtin .append, args := #[x, y], argTypes := #[t, t] }) (ht : P.underlying t = some (.slice e)) (hty : Ty P e z 1 1) (hzc : z.cells.size = 1)
  (hx : a.eval x = .slice A l.length l.length) (hy : a.eval y = v) (hS : St w0 w H) (hl : Rd w (.slice A l.length l.length) (l.map vB)) (hlp : 0 < l.length) (hr : Rd w v (ml.map vB)) (hp : 0 < ml.length) (hn : l.length + ml.length ≤ 140737488355328)
  (h : ∀ b pad a' w', Fr N a' ((d, .slice (some ⟨b, 0, none⟩) (l ++ ml).length ((l ++ ml).length + pad.length)) :: m) → (l ++ ml).length + pad.length ≤ 9223372036854775807 →
   St w0 w' (⟨true, some b, blk e ((l ++ ml).map vB ++ pad)⟩ :: H) → K a' w') : Stp P ops Q o a w K := by
 obtain ⟨i, hi, h2, h3, h4⟩ := hty.get
 obtain ⟨A1, c1, hv1, _, _, hc1⟩ := hl.isB
 injection hv1 with hA1 _ _
 subst hA1
 obtain ⟨b1, o1, rfl, hd1⟩ := hc1 hlp
 obtain ⟨A2, c2, rfl, _, _, hc2⟩ := hr.isB
 obtain ⟨b2, o2, rfl, hd2⟩ := hc2 hp
 have hget : ∀ (l : List UInt8) (j : Nat) (u : Value), (l.map vB)[j]? = some u → j < l.length ∧ u = vB (l.getD j 0) := fun l j u hu => by
  rw [List.getElem?_map] at hu
  obtain ⟨q, hq, rfl⟩ := Option.map_eq_some_iff.1 hu
  exact ⟨(List.getElem?_eq_some_iff.1 hq).1, by rw [List.getD_eq_getElem?_getD, hq]; rfl⟩
 have hr := run_append_grow (P := P) w t o.type e i z ht hi h2 ⟨b1, o1, none⟩ l.length l.length (l.map vB) (by simp [h3]) (fun j u hu => by
   obtain ⟨g1, rfl⟩ := hget l j u hu
   rw [add_lit]; exact hd1 j g1) ⟨b2, o2, none⟩ ml.length c2 (ml.map vB) (by simp [h3]) (fun j u hu => by
   obtain ⟨g1, rfl⟩ := hget ml j u hu
   rw [add_lit]; exact hd2 j g1) (by omega) (by omega) (growslice_fits (by omega) (by rw [h4]; omega))
 have hge := grownCap_ge w (l.length + ml.length) l.length e
 have hle := grownCap_le_maxLen w (l.length + ml.length) l.length e (by simp only [maxLen]; omega)
 obtain ⟨Z, hZ⟩ : ∃ Z : Array Value, Builtin.zeroCells z.cells (grownCap w (l.length + ml.length) l.length e - (l.length + ml.length)) = Z := ⟨_, rfl⟩
 have hZl : Z.toList.length = grownCap w (l.length + ml.length) l.length e - (l.length + ml.length) := by rw [← hZ, Array.length_toList, size_zeroCells, hzc]; omega
 rw [hZ] at hr
 have hlen : (l ++ ml).length = l.length + ml.length := List.length_append
 have hcap : (l ++ ml).length + Z.toList.length = grownCap w (l.length + ml.length) l.length e := by rw [hlen, hZl]; omega
 refine stp_val hF hw hd hN (run_appendOp ho hx hy hr) fun a' hF' => h w.heap.size Z.toList a' _ (by rw [hcap, hlen]; exact hF') (by rw [hcap]; simpa [maxLen] using hle) ?_
 refine hS.float (w' := w.drew.alloc _) ⟨rfl, rfl, rfl, by simp, fun j hj => heap_alloc_old w.drew _ hj⟩ (Nat.le_refl _) ((heap_alloc_new w.drew _).trans ?_)
 simp [blk]
theorem own_one (o : Option Nat) (n c : Nat) : (ownV o n c).oneCell' = true := by cases o <;> rfl
theorem unwanted_undef (hF : Fr N a m) {j t : Nat} {b : Bool} (hg : o.guard = some (j, b)) (hj : (ops[j]?).bind (·.dst) = some t) (hl : look t m = some undef) : Region.wanted o (yielded ops a.tmps) = false := by
 have h := hF.get t _ hl
 have hn : yielded ops a.tmps j = none := by
  unfold yielded
  rw [hj]
  simp only [slot, Array.getD_eq_getD_getElem?] at h
  cases ht : a.tmps[t]? with
  | none => simp [ht]
  | some v => rw [ht] at h; simp only [Option.getD_some] at h; subst h; simp [ht, undef]
 simp only [Region.wanted, hg, hn]
 rfl
def ownP (w00 : World) (e : TypeId) (TT : List Ent) (l : List UInt8) (v : Value) (w : World) : Prop := ∃ (o : Option Nat) (op : List Value), v = ownV o l.length (l.length + op.length) ∧ (o = none → l = [] ∧ op = []) ∧ l.length + op.length ≤ 9223372036854775807 ∧ St w00 w (⟨true, o, blk e (l.map vB ++ op)⟩ :: TT)
theorem ownP.ext {w00 w w' : World} {TT : List Ent} {l : List UInt8} {v : Value} (h : ownP w00 e TT l v w) (hx : Ext w w') : ownP w00 e TT l v w' := by
 obtain ⟨o, op, h1, h2, h3, h4⟩ := h
 exact ⟨o, op, h1, h2, h3, h4.ext hx⟩
theorem own_open {nw : Bool} {T : List Ent} {ob : Option Nat} {l : List UInt8} {pad : List Value} {n : Nat} (he : ⟨nw, ob, blk t (l.map vB ++ pad)⟩ ∈ T) (hob : ob = none → l = [] ∧ pad = []) (hl : l.length = n) (hc : n + pad.length ≤ 9223372036854775807) :
  ∃ A, ownV ob n (n + pad.length) = .slice A n (n + pad.length) ∧ SRd w0 T (.slice A n (n + pad.length)) (l.map vB) := by
 subst hl
 obtain ⟨A, h1, h2⟩ := ownV_pos (ob := ob) (n := l.length) (c := l.length + pad.length) (hi := l.length) (fun h => by rw [(hob h).1, (hob h).2]; exact ⟨rfl, rfl⟩) (by omega)
 exact ⟨A, h1, by rw [← h1]; exact own_rd he hob rfl hc⟩
end
end Go.Fw
set_option linter.unusedVariables false
set_option linter.unusedSimpArgs false
namespace Go.Fw
open Go Go.RowKit
section
variable {P : Program} {ops : Array Oper} {Q : Exit → Act → World → Prop}
def headA (ops : Array Oper) (N m n : Nat) (fl : List Nat) : Bool :=
 Region.noSelect ops && (decide (m ≤ n) && (decide (n ≤ ops.size) &&
 (((List.range n).all fun i => decide (i < m) ||
  match ops[i]? with
  | none => false
  | some o =>
   (match o.dst with | some d => decide (d < N) | none => true) &&
   ((o.after.toList.all fun e => !Region.binds .any e || decide (e.on < i)) &&
   ((!fl.contains i || o.dst.isSome || true) &&
   (((List.range n).all fun j => decide (j < m) ||
    match ops[j]? with
    | none => false
    | some p => match p.dst with
     | none => true
     | some d => (!(o.looksAt ops).contains d || (decide (j < i) && (waits ops i j && (!fl.contains j || fl.contains i)))) && (j == i || o.dst != some d)) &&
   (n == ops.size || ((List.range (n + 1)).any fun j => decide (i < j) && waits ops j i)))))) &&
 ((List.range ops.size).all fun t => decide (t ≤ n) || ((List.range t).any fun s => decide (n ≤ s) && waits ops t s)))))
structure AOk (ops : Array Oper) (N m n : Nat) (fl : List Nat) : Prop where
 nosel : Region.noSelect ops = true
 mn : m ≤ n
 ns : n ≤ ops.size
 dst : ∀ i o d, m ≤ i → i < n → ops[i]? = some o → o.dst = some d → d < N
 back : ∀ i o, m ≤ i → i < n → ops[i]? = some o → ∀ e ∈ o.after, Region.binds .any e = true → e.on < i
 look : ∀ i o j p d, m ≤ i → i < n → ops[i]? = some o → m ≤ j → j < n → ops[j]? = some p → p.dst = some d → d ∈ o.looksAt ops → j < i ∧ waits ops i j = true ∧ (j ∈ fl → i ∈ fl)
 once : ∀ i o j p d, m ≤ i → i < n → ops[i]? = some o → m ≤ j → j < n → ops[j]? = some p → j ≠ i → p.dst = some d → o.dst ≠ some d
 sink : n < ops.size → ∀ i, m ≤ i → i < n → ∃ j, j ≤ n ∧ i < j ∧ waits ops j i = true
 tail : ∀ t, n < t → t < ops.size → ∃ s, n ≤ s ∧ s < t ∧ waits ops t s = true
theorem headA_spec {N m n : Nat} {fl : List Nat} (h : headA ops N m n fl = true) : AOk ops N m n fl := by
 simp only [headA, Bool.and_eq_true, decide_eq_true_eq] at h
 obtain ⟨h1, h2, h3, h4, h5⟩ := h
 have key : ∀ i o, m ≤ i → i < n → ops[i]? = some o → _ := fun i o hm hn ho => by
  have := List.all_eq_true.1 h4 i (List.mem_range.2 hn)
  rw [ho] at this
  simp only [Bool.or_eq_true, decide_eq_true_eq, Bool.and_eq_true] at this
  exact this.resolve_left (by omega)
 have pair : ∀ i o j p d, m ≤ i → i < n → ops[i]? = some o → m ≤ j → j < n → ops[j]? = some p → p.dst = some d → _ := fun i o j p d hm hn ho hm' hn' hp hd => by
  have := List.all_eq_true.1 (key i o hm hn ho).2.2.2.1 j (List.mem_range.2 hn')
  rw [hp] at this
  simp only [Bool.or_eq_true, decide_eq_true_eq] at this
  have := this.resolve_left (by omega)
  rw [hd] at this
  simp only [Bool.and_eq_true] at this
  exact this
 refine ⟨h1, h2, h3, ?_, ?_, ?_, ?_, ?_, ?_⟩
 ·
  intro i o d hm hn ho hd
  have := (key i o hm hn ho).1
  rw [hd] at this
  simpa using this
 ·
  intro i o hm hn ho e he hb
  have := List.all_eq_true.1 (key i o hm hn ho).2.1 e (by simpa using he)
  simpa [hb] using this
 ·
  intro i o j p d hm hn ho hm' hn' hp hd hl
  have := (pair i o j p d hm hn ho hm' hn' hp hd).1
  simp only [Bool.or_eq_true, Bool.not_eq_true', List.contains_eq_mem, decide_eq_false_iff_not, Bool.and_eq_true, decide_eq_true_eq] at this
  have := this.resolve_left (fun h => h hl)
  exact ⟨this.1, this.2.1, fun hj => this.2.2.resolve_left (fun h => h hj)⟩
 ·
  intro i o j p d hm hn ho hm' hn' hp hne hd
  have := (pair i o j p d hm hn ho hm' hn' hp hd).2
  simp only [Bool.or_eq_true, beq_iff_eq, bne_iff_ne] at this
  exact this.resolve_left hne
 ·
  intro hlt i hm hn
  cases ho : ops[i]? with
  | none => have := Array.getElem?_eq_none_iff.1 ho; omega
  | some o =>
   have := (key i o hm hn ho).2.2.2.2
   simp only [beq_iff_eq] at this
   have := this.resolve_left (by omega)
   obtain ⟨j, hj, hj'⟩ := List.any_eq_true.1 this
   simp only [Bool.and_eq_true, decide_eq_true_eq] at hj'
   have := List.mem_range.1 hj
   exact ⟨j, by omega, hj'.1, hj'.2⟩
 ·
  intro t hn hs
  have := List.all_eq_true.1 h5 t (List.mem_range.2 hs)
  simp only [Bool.or_eq_true, decide_eq_true_eq] at this
  obtain ⟨s, hs, hs'⟩ := List.any_eq_true.1 (this.resolve_left (by omega))
  simp only [Bool.and_eq_true, decide_eq_true_eq] at hs'
  exact ⟨s, hs'.1, List.mem_range.1 hs, hs'.2⟩
theorem dwalk_specA {w0 : World} {N m n : Nat} {fl : List Nat} (hok : AOk ops N m n fl) {K : Act → Prop} :
  ∀ (l : List Oper) (i : Nat) (a : Act), m ≤ i → i + l.length = n → (∀ j, j < l.length → l[j]? = ops[i + j]?) → a.tmps.size = N →
   dwalk P ops w0 fl K i l a → ∃ A val, K A ∧ HSpec P ops w0 i n fl a A val := by
 intro l
 induction l with
 | nil =>
  intro i a hm hl _ _ h
  simp only [List.length_nil] at hl
  exact ⟨a, fun _ => undef, h, ⟨rfl, rfl, fun _ _ => rfl, fun j o d h1 h2 => by omega, fun j o h1 h2 => by omega⟩⟩
 | cons o l ih =>
  intro i a hm hl hat hN h
  simp only [List.length_cons] at hl
  have ho : ops[i]? = some o := by have := hat 0 (by simp); simpa using this.symm
  have hat' : ∀ j, j < l.length → l[j]? = ops[i + 1 + j]? := fun j hj => by
   have := hat (j + 1) (by simp only [List.length_cons]; omega)
   simpa [Nat.add_assoc, Nat.add_comm 1 j] using this
  unfold dwalk at h
  by_cases hf : i ∈ fl
  ·
   rw [if_pos hf] at h
   obtain ⟨A, val, hK, S⟩ := ih (i + 1) a (by omega) (by omega) hat' hN h
   refine ⟨A, val, hK, ⟨S.size, S.dfs, fun t ht => S.un t fun j p hj hj' hp hnf => ht j p (by omega) hj' hp hnf, fun j p d hj hj' hp hnf hd => ?_, fun j p hj hj' hp hnf => ?_⟩⟩
   ·
    exact S.wr j p d (by have : j ≠ i := fun e => hnf (e ▸ hf); omega) hj' hp hnf hd
   ·
    exact S.ex j p (by have : j ≠ i := fun e => hnf (e ▸ hf); omega) hj' hp hnf
  ·
   rw [if_neg hf] at h
   have step : ∀ v, dwalk P ops w0 fl K (i + 1) l (a.put o.dst v) →
     ((Region.wanted o (yielded ops a.tmps) = true ∧ DQ P w0 o a v) ∨ (Region.wanted o (yielded ops a.tmps) = false ∧ v = undef)) → ∃ A val, K A ∧ HSpec P ops w0 i n fl a A val := by
    intro v hrest hex
    obtain ⟨A, val, hK, S⟩ := ih (i + 1) (a.put o.dst v) (by omega) (by omega) hat' (by rw [put_size]; exact hN) hrest
    have hsame : ∀ t ∈ o.looksAt ops, slot a t = slot A t := fun t ht => by
     rw [S.un t fun j p hj hj' hp hnf hd => by
      have := (hok.look i o j p t hm (by omega) ho (by omega) hj' hp hd ht).1
      omega]
     refine (slot_put_ne v fun hd => ?_).symm
     have := (hok.look i o i o t hm (by omega) ho hm (by omega) ho hd ht).1
     omega
    have hsz : a.tmps.size = A.tmps.size := by rw [S.size, put_size]
    refine ⟨A, fun j => if j = i then v else val j, hK, ⟨by rw [S.size, put_size], by rw [S.dfs, put_defers], fun t ht => ?_, fun j p d hj hj' hp hnf hd => ?_, fun j p hj hj' hp hnf => ?_⟩⟩
    ·
     rw [S.un t fun j p hj hj' hp hnf => ht j p (by omega) hj' hp hnf]
     exact slot_put_ne v (ht i o (Nat.le_refl _) (by omega) ho hf)
    ·
     by_cases hji : j = i
     ·
      subst hji
      have : p = o := Option.some.inj (hp.symm.trans ho)
      subst this
      simp only [if_true]
      rw [S.un d fun k q hk hk' hq hnf' hd' => by
       have := hok.once j p k q d hm hj' hp (by omega) hk' hq (by omega) hd'
       exact this hd]
      rw [hd]
      exact slot_put_same v (by rw [hN]; exact hok.dst j p d hm hj' hp hd)
     ·
      simp only [hji, if_false]
      exact S.wr j p d (by omega) hj' hp hnf hd
    ·
     by_cases hji : j = i
     ·
      subst hji
      have : p = o := Option.some.inj (hp.symm.trans ho)
      subst this
      simp only [if_true]
      rw [← wanted_same hsz hsame]
      rcases hex with ⟨h1, h2⟩ | h2
      ·
       exact .inl ⟨h1, h2.same (fun cs b => Region.noSelect_spec hok.nosel j p cs b hp) hsame⟩
      ·
       exact .inr h2
     ·
      simp only [hji, if_false]
      exact S.ex j p (by omega) hj' hp hnf
   rcases h with ⟨hw, v, hv, hrest⟩ | ⟨hw, hrest⟩
   ·
    exact step v hrest (.inl ⟨hw, hv⟩)
   ·
    exact step undef hrest (.inr ⟨hw, rfl⟩)
def bits (fl : List Nat) (listed : Array Bool) (k : Nat) : Bool := fl.contains k && listed.getD k false
def also (D : Nat → Bool) (i k : Nat) : Bool := if k = i then true else D k
structure AInv (ops : Array Oper) (w0 : World) (N m n : Nat) (fl : List Nat) (R : Nat → (Nat → Bool) → Value → World → Prop) (a0 : Act) (val : Nat → Value) (listed : Array Bool) (a : Act) (w : World) : Prop where
 sz : listed.size = ops.size
 lo : ∀ j, j < m → listed.getD j false = true
 hi : ∀ j, n ≤ j → listed.getD j false = false
 cl : ∀ j o, ops[j]? = some o → m ≤ j → listed.getD j false = true → ∀ e ∈ o.after, Region.binds .any e = true → listed.getD e.on false = true
 ext : Ext w0 w
 tsz : a.tmps.size = N
 dfs : a.defers = a0.defers
 wrd : ∀ j o d, m ≤ j → j < n → ops[j]? = some o → o.dst = some d → listed.getD j false = true → j ∉ fl → slot a d = val j
 wrf : ∀ j o d, m ≤ j → j < n → ops[j]? = some o → o.dst = some d → listed.getD j false = true → j ∈ fl → R j (bits fl listed) (slot a d) w
 un : ∀ t, (∀ j o, m ≤ j → j < n → ops[j]? = some o → listed.getD j false = true → o.dst ≠ some t) → slot a t = slot a0 t
section head
variable {w0 : World} {N m n : Nat} {fl : List Nat} {R : Nat → (Nat → Bool) → Value → World → Prop} {a0 A : Act} {val : Nat → Value}
theorem bits_same {listed : Array Bool} {i : Nat} (h : i ∉ fl) : bits fl (listed.setIfInBounds i true) = bits fl listed := by
 funext k
 unfold bits
 by_cases hk : i = k
 ·
  subst hk
  have : fl.contains i = false := by simpa using h
  rw [this]; rfl
 ·
  rw [getD_set_other hk]
theorem bits_also {listed : Array Bool} {i : Nat} (h : i ∈ fl) (hi : i < listed.size) : bits fl (listed.setIfInBounds i true) = also (bits fl listed) i := by
 funext k
 unfold bits also
 by_cases hk : k = i
 ·
  subst hk
  rw [if_pos rfl, getD_set_self hi]
  simpa using h
 ·
  rw [if_neg hk, getD_set_other (Ne.symm hk)]
def flSlot (ops : Array Oper) (m n : Nat) (fl : List Nat) (t : Nat) : Prop := ∃ j p, m ≤ j ∧ j < n ∧ j ∈ fl ∧ ops[j]? = some p ∧ p.dst = some t
open Classical in
noncomputable def mix (ops : Array Oper) (m n : Nat) (fl : List Nat) (A a : Act) : Act := { A with tmps := Array.ofFn (n := A.tmps.size) fun t => if flSlot ops m n fl t.val then slot a t.val else slot A t.val }
theorem mix_size (a : Act) : (mix ops m n fl A a).tmps.size = A.tmps.size := by simp [mix]
theorem mix_in {a : Act} {t : Nat} (hsz : a.tmps.size = A.tmps.size) (h : flSlot ops m n fl t) : slot (mix ops m n fl A a) t = slot a t := by
 by_cases ht : t < A.tmps.size
 ·
  simp [slot, mix, Array.getD, ht, hsz, h]
 ·
  simp [slot, mix, Array.getD, ht, hsz]
theorem mix_out {a : Act} {t : Nat} (h : ¬ flSlot ops m n fl t) : slot (mix ops m n fl A a) t = slot A t := by
 by_cases ht : t < A.tmps.size
 ·
  simp [slot, mix, Array.getD, ht, h]
 ·
  simp [slot, mix, Array.getD, ht]
def FX (P : Program) (ops : Array Oper) (w0 : World) (N m n : Nat) (fl : List Nat) (R : Nat → (Nat → Bool) → Value → World → Prop) (A : Act) (i : Nat) (o : Oper) : Prop :=
 ∀ (D : Nat → Bool) (a : Act) (w : World), Ext w0 w → a.tmps.size = N → a.defers = A.defers → (∀ t, ¬ flSlot ops m n fl t → slot a t = slot A t) → D i = false → (∀ j, m ≤ j → j ∈ fl → waits ops i j = true → D j = true) →
  (∀ j p d, m ≤ j → j < n → j ∈ fl → D j = true → ops[j]? = some p → p.dst = some d → R j D (slot a d) w) →
  Region.wanted o (yielded ops a.tmps) = true ∧ ((∃ v w', (execOp a.eval o).run P w = .ok (.value v) w' ∧ Ext w0 w' ∧ (∀ j p d, m ≤ j → j < n → j ∈ fl → D j = true → ops[j]? = some p → p.dst = some d → R j (also D i) (slot a d) w') ∧ R i (also D i) v w') ∨
   ∃ f args, (execOp a.eval o).run P w = .ok (.enter f args) w ∧ Calls P f args w (fun e w' => ∃ v, e = .returned v ∧ Ext w0 w' ∧ (∀ j p d, m ≤ j → j < n → j ∈ fl → D j = true → ops[j]? = some p → p.dst = some d → R j (also D i) (slot a d) w') ∧ R i (also D i) v w'))
theorem AInv.agree (hok : AOk ops N m n fl) (S : HSpec P ops w0 m n fl a0 A val) {listed : Array Bool} {a : Act} {w : World} (I : AInv ops w0 N m n fl R a0 val listed a w)
  {i : Nat} {o : Oper} (hm : m ≤ i) (hn : i < n) (ho : ops[i]? = some o) (hdep : ∀ e ∈ o.after, Region.binds .any e = true → listed.getD e.on false = true) :
  ∀ t ∈ o.looksAt ops, ¬ flSlot ops m n fl t → slot A t = slot a t := by
 intro t ht hnfl
 by_cases hex : ∃ j p, m ≤ j ∧ j < n ∧ ops[j]? = some p ∧ p.dst = some t
 ·
  obtain ⟨j, p, hj, hj', hp, hd⟩ := hex
  obtain ⟨_, hw, _⟩ := hok.look i o j p t hm hn ho hj hj' hp hd ht
  have hnf : j ∉ fl := fun h => hnfl ⟨j, p, hj, hj', h, hp, hd⟩
  obtain ⟨e, he, hb, hon⟩ := waits_spec ho hw
  have hl := hdep e he hb
  rw [hon] at hl
  rw [S.wr j p t hj hj' hp hnf hd, I.wrd j p t hj hj' hp hd hl hnf]
 ·
  rw [S.un t fun j p hj hj' hp _ hd => hex ⟨j, p, hj, hj', hp, hd⟩, I.un t fun j p hj hj' hp _ hd => hex ⟨j, p, hj, hj', hp, hd⟩]
theorem AOk.noFl (hok : AOk ops N m n fl) {i : Nat} {o : Oper} (hm : m ≤ i) (hn : i < n) (ho : ops[i]? = some o) (hf : i ∉ fl) : ∀ t ∈ o.looksAt ops, ¬ flSlot ops m n fl t := by
 rintro t ht ⟨j, p, hj, hj', hjf, hp, hd⟩
 exact hf ((hok.look i o j p t hm hn ho hj hj' hp hd ht).2.2 hjf)
theorem AInv.next (hok : AOk ops N m n fl) {listed : Array Bool} {a : Act} {w w' : World} (I : AInv ops w0 N m n fl R a0 val listed a w)
  {i : Nat} {o : Oper} {v : Value} (hm : m ≤ i) (hn : i < n) (ho : ops[i]? = some o) (hun : listed.getD i false = false)
  (hdep : ∀ e ∈ o.after, Region.binds .any e = true → listed.getD e.on false = true) (hx : Ext w0 w') (hvd : i ∉ fl → v = val i)
  (hvf : i ∈ fl → R i (bits fl (listed.setIfInBounds i true)) v w') (hold : ∀ j p d, m ≤ j → j < n → j ∈ fl → listed.getD j false = true → ops[j]? = some p → p.dst = some d → R j (bits fl (listed.setIfInBounds i true)) (slot a d) w') :
  AInv ops w0 N m n fl R a0 val (listed.setIfInBounds i true) (a.put o.dst v) w' := by
 have hi : i < listed.size := by rw [I.sz]; exact (Array.getElem?_eq_some_iff.1 ho).1
 have hset : ∀ j, (listed.setIfInBounds i true).getD j false = true → j ≠ i → listed.getD j false = true := fun j h hne => by rwa [getD_set_other (Ne.symm hne)] at h
 have hmono : ∀ j, listed.getD j false = true → (listed.setIfInBounds i true).getD j false = true := fun j h => by
  by_cases hj : i = j
  ·
   subst hj; exact getD_set_self hi
  ·
   rwa [getD_set_other hj]
 have hkeep : ∀ j p d, m ≤ j → j < n → ops[j]? = some p → j ≠ i → p.dst = some d → slot (a.put o.dst v) d = slot a d := fun j p d hj hj' hp hne hd =>
  slot_put_ne v (hok.once i o j p d hm hn ho hj hj' hp hne hd)
 refine ⟨by simpa using I.sz, fun j hj => hmono j (I.lo j hj), fun j hj => ?_, fun j p hp hj hl e he hb => ?_, hx, by rw [put_size]; exact I.tsz, by rw [put_defers]; exact I.dfs, fun j p d hj hj' hp hd hl hnf => ?_, fun j p d hj hj' hp hd hl hf => ?_, fun t ht => ?_⟩
 ·
  rw [getD_set_other (by omega)]; exact I.hi j hj
 ·
  by_cases hji : j = i
  ·
   subst hji
   have : p = o := Option.some.inj (hp.symm.trans ho)
   subst this
   exact hmono _ (hdep e he hb)
  ·
   exact hmono _ (I.cl j p hp hj (hset j hl hji) e he hb)
 ·
  by_cases hji : j = i
  ·
   subst hji
   have : p = o := Option.some.inj (hp.symm.trans ho)
   subst this
   rw [hd, slot_put_same v (by rw [I.tsz]; exact hok.dst j p d hj hj' hp hd)]
   exact hvd hnf
  ·
   rw [hkeep j p d hj hj' hp hji hd]
   exact I.wrd j p d hj hj' hp hd (hset j hl hji) hnf
 ·
  by_cases hji : j = i
  ·
   subst hji
   have : p = o := Option.some.inj (hp.symm.trans ho)
   subst this
   rw [hd, slot_put_same v (by rw [I.tsz]; exact hok.dst j p d hj hj' hp hd)]
   exact hvf hf
  ·
   rw [hkeep j p d hj hj' hp hji hd]
   exact hold j p d hj hj' hf (hset j hl hji) hp hd
 ·
  rw [slot_put_ne v (ht i o hm hn ho (getD_set_self hi))]
  exact I.un t fun j p hj hj' hp hl => ht j p hj hj' hp (hmono j hl)
theorem AInv.ready_lt (hok : AOk ops N m n fl) {listed : Array Bool} {a : Act} {w : World} (I : AInv ops w0 N m n fl R a0 val listed a w)
  {i : Nat} (hm : m ≤ i) (hn : i < n) (hun : listed.getD i false = false) : ∀ t ∈ Region.ready .any ops listed, m ≤ t ∧ t < n := by
 intro t ht
 obtain ⟨h1, o, ho, hall⟩ := mem_ready.1 ht
 have htl : t < ops.size := (Array.getElem?_eq_some_iff.1 ho).1
 rw [getD_true_false (by rw [I.sz]; exact htl)] at h1
 refine ⟨Nat.le_of_not_lt fun h => (by rw [I.lo t h] at h1; cases h1), Nat.lt_of_not_le fun hge => ?_⟩
 rcases Nat.lt_or_eq_of_le hge with hgt | heq
 ·
  obtain ⟨s, hs, _, hw⟩ := hok.tail t hgt htl
  obtain ⟨e, he, hb, hon⟩ := waits_spec ho hw
  have := hall e he hb
  rw [hon, I.hi s hs] at this
  cases this
 ·
  subst heq
  have key : ∀ k i, n - i = k → m ≤ i → i < n → listed.getD i false = false → False := by
   intro k
   induction k using Nat.strongRecOn with
   | _ k ih =>
    intro i hk hm hn hun
    obtain ⟨j, hj, hij, hw⟩ := hok.sink htl i hm hn
    rcases Nat.lt_or_eq_of_le hj with hlt | heq
    ·
     cases hl : listed.getD j false with
     | false => exact ih (n - j) (by omega) j rfl (by omega) hlt hl
     | true =>
      cases hp : ops[j]? with
      | none => have := Array.getElem?_eq_none_iff.1 hp; omega
      | some p =>
       obtain ⟨e, he, hb, hon⟩ := waits_spec hp hw
       have := I.cl j p hp (by omega) hl e he hb
       rw [hon, hun] at this
       cases this
    ·
     subst heq
     obtain ⟨e, he, hb, hon⟩ := waits_spec ho hw
     have := hall e he hb
     rw [hon, hun] at this
     cases this
  exact key _ i rfl hm hn hun
theorem AInv.some_ready (hok : AOk ops N m n fl) {listed : Array Bool} {a : Act} {w : World} (I : AInv ops w0 N m n fl R a0 val listed a w)
  {i : Nat} (hm : m ≤ i) (hn : i < n) (hun : listed.getD i false = false) : Region.ready .any ops listed ≠ [] := by
 have key : ∀ k i, i = k → m ≤ i → i < n → listed.getD i false = false → ∃ t, t ∈ Region.ready .any ops listed := by
  intro k
  induction k using Nat.strongRecOn with
  | _ k ih =>
   intro i hk hm hn hun
   subst hk
   cases ho : ops[i]? with
   | none => have := Array.getElem?_eq_none_iff.1 ho; have := hok.ns; omega
   | some o =>
    have hil : i < listed.size := by rw [I.sz]; exact (Array.getElem?_eq_some_iff.1 ho).1
    by_cases hall : ∀ e ∈ o.after, Region.binds .any e = true → listed.getD e.on false = true
    ·
     exact ⟨i, mem_ready.2 ⟨by rw [getD_true_false hil]; exact hun, o, ho, hall⟩⟩
    ·
     have : ∃ e ∈ o.after, Region.binds .any e = true ∧ listed.getD e.on false ≠ true := by
      apply Classical.byContradiction
      intro hno
      exact hall fun e he hb => Classical.byContradiction fun hc => hno ⟨e, he, hb, hc⟩
     obtain ⟨e, he, hb, hc⟩ := this
     have hlt := hok.back i o hm hn ho e he hb
     have hun' : listed.getD e.on false = false := by simpa using hc
     have hme : m ≤ e.on := Nat.le_of_not_lt fun h => (by rw [I.lo _ h] at hun'; cases hun')
     exact ih e.on hlt e.on rfl hme (by omega) hun'
 obtain ⟨t, ht⟩ := key i i rfl hm hn hun
 intro h0
 rw [h0] at ht
 cases ht
theorem head_allA (hok : AOk ops N m n fl) (hR : ∀ j D v w w', R j D v w → Ext w w' → R j D v w') (S : HSpec P ops w0 m n fl a0 A val) (hsz : A.tmps.size = N)
  (hdf : A.defers = a0.defers) (hfl : ∀ i o, m ≤ i → i < n → ops[i]? = some o → i ∈ fl → FX P ops w0 N m n fl R A i o)
  (hend : ∀ a w, AInv ops w0 N m n fl R a0 val (upto ops.size n) a w → Run P ops Q n a w) :
  ∀ (k : Nat) (listed : Array Bool) (a : Act) (w : World), open_ m n listed = k → AInv ops w0 N m n fl R a0 val listed a w → wpAny P .any ops Q (k + (ops.size - n)) listed a w := by
 intro k
 induction k with
 | zero =>
  intro listed a w hk I
  have hall := open_zero hk
  have : listed = upto ops.size n := by
   apply Array.ext
   ·
    rw [I.sz, upto_size]
   ·
    intro j h1 h2
    have h1' : listed.getD j false = listed[j] := by simp [Array.getD, h1]
    have h2' : (upto ops.size n).getD j false = (upto ops.size n)[j] := by simp [Array.getD, h2]
    rw [← h1', ← h2', upto_getD, if_pos (by rw [← I.sz]; exact h1)]
    by_cases hjn : j < n
    ·
     by_cases hjm : j < m
     ·
      rw [I.lo j hjm]; simp [hjn]
     ·
      rw [hall j (by omega) hjn]; simp [hjn]
    ·
     rw [I.hi j (by omega)]; simp [hjn]
  subst this
  rw [Nat.zero_add]
  exact hend a w I
 | succ k ih =>
  intro listed a w hk I
  have hex : ∃ i, m ≤ i ∧ i < n ∧ listed.getD i false = false := by
   apply Classical.byContradiction
   intro hno
   have : open_ m n listed = 0 := by
    unfold open_
    rw [List.filter_eq_nil_iff.2, List.length_nil]
    intro j hj hc
    simp only [Bool.and_eq_true, decide_eq_true_eq, Bool.not_eq_true'] at hc
    exact hno ⟨j, hc.1, List.mem_range.1 hj, hc.2⟩
   omega
  obtain ⟨i0, hm0, hn0, hun0⟩ := hex
  have hsel := fun j o ho cs b => Region.noSelect_spec hok.nosel j o cs b ho
  rw [show k + 1 + (ops.size - n) = (k + (ops.size - n)) + 1 by omega]
  refine ⟨fun h0 => absurd h0 (I.some_ready hok hm0 hn0 hun0), fun i hi => ?_⟩
  obtain ⟨hm, hn⟩ := I.ready_lt hok hm0 hn0 hun0 i hi
  obtain ⟨h1, o, ho, hdep⟩ := mem_ready.1 hi
  have hil : i < listed.size := by rw [I.sz]; exact (Array.getElem?_eq_some_iff.1 ho).1
  rw [getD_true_false hil] at h1
  have hag := I.agree hok S hm hn ho hdep
  have hop : open_ m n (listed.setIfInBounds i true) = k := by
   have := open_set hm hn hil h1
   omega
  unfold wpOp
  rw [ho]
  simp only
  by_cases hf : i ∈ fl
  ·
   have hmag : ∀ t ∈ o.looksAt ops, slot (mix ops m n fl A a) t = slot a t := fun t ht => by
    by_cases hfs : flSlot ops m n fl t
    ·
     exact mix_in (I.tsz.trans hsz.symm) hfs
    ·
     rw [mix_out hfs]; exact hag t ht hfs
   have hms : (mix ops m n fl A a).tmps.size = a.tmps.size := by rw [mix_size, hsz, I.tsz]
   have hsl : ∀ j p d, m ≤ j → j < n → j ∈ fl → ops[j]? = some p → p.dst = some d → slot (mix ops m n fl A a) d = slot a d := fun j p d hj hj' hjf hp hd => mix_in (I.tsz.trans hsz.symm) ⟨j, p, hj, hj', hjf, hp, hd⟩
   have hb : ∀ j, bits fl listed j = true → listed.getD j false = true := fun j h => by
    simp only [bits, Bool.and_eq_true] at h; exact h.2
   have hb' : ∀ j, j ∈ fl → listed.getD j false = true → bits fl listed j = true := fun j h h' => by
    simp only [bits, Bool.and_eq_true]; exact ⟨by simpa using h, h'⟩
   obtain ⟨hw, hres⟩ := hfl i o hm hn ho hf (bits fl listed) (mix ops m n fl A a) w I.ext (by rw [mix_size, hsz]) rfl (fun t ht => mix_out ht) (by simp only [bits, h1, Bool.and_false])
    (fun j hj hjf hw => by
     obtain ⟨e, he, hbd, hon⟩ := waits_spec ho hw
     have := hdep e he hbd
     rw [hon] at this
     exact hb' j hjf this)
    (fun j p d hj hj' hjf hD hp hd => by rw [hsl j p d hj hj' hjf hp hd]; exact I.wrf j p d hj hj' hp hd (hb j hD) hjf)
   have hcg := execOp_congr o (fun cs b => hsel i o ho cs b) (eval_same hmag)
   rw [if_pos (by rw [← wanted_same hms hmag]; exact hw)]
   refine .inl ?_
   have go : ∀ (v : Value) (w' : World), Ext w0 w' → (∀ j p d, m ≤ j → j < n → j ∈ fl → bits fl listed j = true → ops[j]? = some p → p.dst = some d → R j (also (bits fl listed) i) (slot (mix ops m n fl A a) d) w') → R i (also (bits fl listed) i) v w' →
     wpAny P .any ops Q (k + (ops.size - n)) (listed.setIfInBounds i true) (a.put o.dst v) w' := fun v w' hx hold hv =>
    ih _ _ _ hop (I.next hok hm hn ho h1 hdep hx (fun h => absurd hf h) (fun _ => by rw [bits_also hf hil]; exact hv) fun j p d hj hj' hjf hl hp hd => by
     rw [bits_also hf hil, ← hsl j p d hj hj' hjf hp hd]
     exact hold j p d hj hj' hjf (hb' j hjf hl) hp hd)
   unfold Oper.wp
   rcases hres with ⟨v, w', hr, hx, hold, hv⟩ | ⟨f, args, hr, hc⟩
   ·
    rw [← hcg, hr]
    exact go v w' hx hold hv
   ·
    rw [← hcg, hr]
    refine Calls.mono hc ?_
    rintro e w' ⟨v, rfl, hx, hold, hv⟩
    exact go v w' hx hold hv
  ·
   have hag' : ∀ t ∈ o.looksAt ops, slot A t = slot a t := fun t ht => hag t ht (hok.noFl hm hn ho hf t ht)
   have hwa := wanted_same (hsz.trans I.tsz.symm) hag'
   have go : ∀ (v : Value) (w' : World), Ext w w' → v = val i →
     wpAny P .any ops Q (k + (ops.size - n)) (listed.setIfInBounds i true) (a.put o.dst v) w' := fun v w' hx hd =>
    ih _ _ _ hop (I.next hok hm hn ho h1 hdep (I.ext.trans hx) (fun _ => hd) (fun h => absurd h hf) fun j p d hj hj' hjf hl hp hd => by
     rw [bits_same hf]
     exact hR _ _ _ _ _ (I.wrf j p d hj hj' hp hd hl hjf) hx)
   rcases S.ex i o hm hn ho hf with ⟨hw, hq⟩ | ⟨hw, hq⟩
   ·
    rw [if_pos (by rw [← hwa]; exact hw)]
    refine .inl ?_
    have := (hq.same (fun cs b => hsel i o ho cs b) hag') w I.ext
    unfold Oper.wp
    rcases this with hr | ⟨hr, hv⟩ | ⟨f, args, hr, hc⟩
    ·
     rw [hr]
     exact go _ w (Ext.refl w) rfl
    ·
     rw [hr]
     exact go _ w (Ext.refl w) hv.symm
    ·
     rw [hr]
     refine Calls.mono hc ?_
     rintro e w' ⟨rfl, hx⟩
     exact go _ w' hx rfl
   ·
    rw [if_neg (by rw [← hwa, hw]; exact Bool.false_ne_true)]
    exact go _ w (Ext.refl w) hq.symm
theorem run_headA (N m n : Nat) (fl : List Nat) (R : Nat → (Nat → Bool) → Value → World → Prop) (l : List Oper) (hB : headA ops N m n fl = true) (hl : (ops.toList.drop m).take (n - m) = l) {a : Act} {w0 w : World} (hx0 : Ext w0 w) (hN : a.tmps.size = N) (hR : ∀ j D v w w', R j D v w → Ext w w' → R j D v w')
  (h : dwalk P ops w0 fl (fun A => (A.defers = a.defers → ∀ i o, m ≤ i → i < n → ops[i]? = some o → i ∈ fl → FX P ops w0 N m n fl R A i o) ∧
   ∀ a' w', Ext w0 w' → a'.tmps.size = N → a'.defers = a.defers →
    (∀ t, ¬ flSlot ops m n fl t → slot a' t = slot A t) →
    (∀ i o d, m ≤ i → i < n → ops[i]? = some o → i ∈ fl → o.dst = some d → R i (fun k => fl.contains k && decide (k < n)) (slot a' d) w') → Run P ops Q n a' w') m l a) : Run P ops Q m a w := by
 have hok := headA_spec hB
 have hlen : l.length = n - m := by rw [← hl]; have := hok.ns; simp; omega
 obtain ⟨A, val, ⟨hfl, hK⟩, S⟩ := dwalk_specA hok l m a (Nat.le_refl _) (by have := hok.mn; omega) (fun j hj => by
  rw [← hl, List.getElem?_take, if_pos (by omega), List.getElem?_drop]; simp) hN h
 have hsize : ops.size - m = (n - m) + (ops.size - n) := by have := hok.ns; have := hok.mn; omega
 unfold Run
 rw [hsize]
 refine head_allA hok hR S (by rw [S.size, hN]) S.dfs (hfl S.dfs) (fun a' w' I => ?_) _ _ _ _ ?_ ⟨upto_size _ _, fun j hj => ?_, fun j hj => ?_, fun j o ho hm hl => ?_, hx0, hN, rfl, fun j o d hm hn ho hd hl => ?_, fun j o d hm hn ho hd hl => ?_, fun _ _ => rfl⟩
 ·
  have hall : ∀ j, j < n → (upto ops.size n).getD j false = true := fun j hj => by
   rw [upto_getD, if_pos (by have := hok.ns; omega)]; simp [hj]
  refine hK a' w' I.ext I.tsz I.dfs (fun t ht => ?_) (fun i o d hm hn ho hf hd => by
   have := I.wrf i o d hm hn ho hd (hall i hn) hf
   have hbits : bits fl (upto ops.size n) = fun k => fl.contains k && decide (k < n) := by
    funext k
    unfold bits
    rw [upto_getD]
    by_cases hk : k < ops.size
    ·
     rw [if_pos hk]
    ·
     rw [if_neg hk, decide_eq_false (by have := hok.ns; omega)]
   rwa [hbits] at this)
  by_cases hex : ∃ j p, m ≤ j ∧ j < n ∧ ops[j]? = some p ∧ p.dst = some t
  ·
   obtain ⟨j, p, hj, hj', hp, hd⟩ := hex
   have hnf : j ∉ fl := fun hf => ht ⟨j, p, hj, hj', hf, hp, hd⟩
   rw [S.wr j p t hj hj' hp hnf hd, I.wrd j p t hj hj' hp hd (hall j hj') hnf]
  ·
   rw [S.un t fun j p hj hj' hp _ hd => hex ⟨j, p, hj, hj', hp, hd⟩, I.un t fun j p hj hj' hp _ hd => hex ⟨j, p, hj, hj', hp, hd⟩]
 ·
  unfold open_
  have : ((List.range n).filter fun j => decide (m ≤ j) && !(upto ops.size m).getD j false) = (List.range n).filter fun j => decide (m ≤ j) :=
   List.filter_congr fun j hj => by
    rw [upto_getD]
    have := hok.ns
    have := List.mem_range.1 hj
    rw [if_pos (by omega)]
    by_cases h : m ≤ j
    ·
     simp [h, show ¬ j < m by omega]
    ·
     simp [h]
  rw [this]
  have key : ∀ n, m ≤ n → ((List.range n).filter fun j => decide (m ≤ j)).length = n - m := by
   intro n
   induction n with
   | zero => intro _; simp
   | succ n ih =>
    intro h
    rw [List.range_succ, List.filter_append, List.length_append]
    by_cases hmn : m ≤ n
    ·
     rw [ih hmn]; simp [hmn]; omega
    ·
     have : m = n + 1 := by omega
     subst this
     rw [List.filter_eq_nil_iff.2 (fun j hj => by have := List.mem_range.1 hj; simp; omega)]
     simp
  exact key n hok.mn
 ·
  rw [upto_getD, if_pos (by have := hok.ns; have := hok.mn; omega)]; simp [hj]
 ·
  rw [upto_getD]
  split
  ·
   have := hok.mn; simp; omega
  ·
   rfl
 ·
  have := (Array.getElem?_eq_some_iff.1 ho).1
  rw [upto_getD, if_pos this] at hl
  simp at hl
  omega
 ·
  have := (Array.getElem?_eq_some_iff.1 ho).1
  rw [upto_getD, if_pos this] at hl
  simp at hl
  omega
 ·
  have := (Array.getElem?_eq_some_iff.1 ho).1
  rw [upto_getD, if_pos this] at hl
  simp at hl
  omega
end head
end
end Go.Fw
namespace Go.Fw
open Go Go.RowKit
section
variable {P : Program} {ops : Array Oper} {Q : Exit → Act → World → Prop} {N : Nat} {a : Act} {w : World} {m : List (Nat × Value)} {o : Oper}
def SX (P : Program) (ops : Array Oper) (o : Oper) (a : Act) (w : World) (R : Value → World → Prop) : Prop :=
 Region.wanted o (yielded ops a.tmps) = true ∧ ((∃ v w', (execOp a.eval o).run P w = .ok (.value v) w' ∧ Ext w w' ∧ R v w') ∨
  ∃ f args, (execOp a.eval o).run P w = .ok (.enter f args) w ∧ Calls P f args w (fun e w' => ∃ v, e = .returned v ∧ Ext w w' ∧ R v w'))
theorem sx_gv {R : Value → World → Prop} {v : Value} (hw : Region.wanted o (yielded ops a.tmps) = true) (hv : Gv P o a w v) (hr : R v w) : SX P ops o a w R := ⟨hw, .inl ⟨v, w, hv, Ext.refl w, hr⟩⟩
theorem sx_call {R : Value → World → Prop} {f : FuncId} {xs : List Operand} {vs : List Value} {ats : Array TypeId} (hw : Region.wanted o (yielded ops a.tmps) = true) (hf : CallOk P f)
  (ho : o.op = .call { callee := .value (.func f), args := xs.toArray, argTypes := ats }) (hx : Evs a xs vs) (hc : Calls P f vs.toArray w fun e w' => ∃ v, e = .returned v ∧ R v w' ∧ Ext w w') : SX P ops o a w R :=
 ⟨hw, .inr ⟨f, vs.toArray, run_callOp hf ho hx, hc.mono fun _ _ ⟨v, he, hr, hx⟩ => ⟨v, he, hx, hr⟩⟩⟩
abbrev Flo := List (Nat × Nat × (Value → World → Prop))
def held (F : Flo) (a : Act) : List (Nat × Value) := F.map fun x => (x.2.1, slot a x.2.1)
def depsOf (ops : Array Oper) (F : Flo) (i : Nat) (a : Act) (w : World) : Prop := ∀ x ∈ F, waits ops i x.1 = true → x.2.2 (slot a x.2.1) w
theorem look_held {F : Flo} {a : Act} {m : List (Nat × Value)} {t : Nat} {v : Value} (h : look t (held F a ++ m) = some v) : (v = slot a t ∧ ∃ x ∈ F, x.2.1 = t) ∨ ((∀ x ∈ F, x.2.1 ≠ t) ∧ look t m = some v) := by
 induction F with
 | nil => exact .inr ⟨(fun _ h' => by cases h'), h⟩
 | cons x F ih =>
  simp only [held, List.map_cons, List.cons_append] at h
  by_cases ht : t = x.2.1
  ·
   subst ht
   rw [look_cons_eq] at h
   injection h with h
   exact .inl ⟨h.symm, x, List.mem_cons_self, rfl⟩
  ·
   rw [look_cons_ne ht] at h
   rcases ih h with ⟨h1, y, hy, h2⟩ | ⟨h1, h2⟩
   ·
    exact .inl ⟨h1, y, List.mem_cons_of_mem _ hy, h2⟩
   ·
    exact .inr ⟨fun y hy => by
     rcases List.mem_cons.1 hy with rfl | hy
     ·
      exact Ne.symm ht
     ·
      exact h1 y hy, h2⟩
theorem fr_held {F : Flo} {A b : Act} {M n : Nat} {fl : List Nat} (hfl : fl = F.map (·.1)) (hd : ∀ x ∈ F, (ops[x.1]?).bind (·.dst) = some x.2.1) (hs : b.tmps.size = N) (hdf : b.defers = a.defers) (hF : Fr N a m)
  (hsl : ∀ t, ¬ flSlot ops M n fl t → slot b t = slot A t) : ∀ mm, Fr N A mm → Fr N b (held F b ++ mm) := fun mm hm => by
 refine ⟨hs, hdf.trans hF.dfs, fun t v hv => ?_⟩
 rcases look_held hv with ⟨rfl, _⟩ | ⟨h1, h2⟩
 ·
  rfl
 ·
  rw [← hm.get t v h2]
  refine hsl t ?_
  rintro ⟨j, p, _, _, hjf, hp, hpd⟩
  rw [hfl] at hjf
  obtain ⟨x, hx, rfl⟩ := List.mem_map.1 hjf
  have := hd x hx
  rw [hp] at this
  have e : some x.2.1 = some t := this.symm.trans hpd
  injection e with e
  exact h1 x hx e
def nodupB : List Nat → Bool
 | [] => true
 | x :: l => !l.contains x && nodupB l
theorem nodup_inj : ∀ F : Flo, nodupB (F.map (·.1)) = true → ∀ x ∈ F, ∀ y ∈ F, x.1 = y.1 → x = y
 | [], _, _, hx, _, _, _ => by cases hx
 | z :: F, h, x, hx, y, hy, he => by
  simp only [List.map_cons, nodupB, Bool.and_eq_true, Bool.not_eq_true', List.contains_eq_mem, decide_eq_false_iff_not] at h
  rcases List.mem_cons.1 hx with rfl | hx1 <;> rcases List.mem_cons.1 hy with rfl | hy1
  ·
   rfl
  ·
   exact absurd (show x.1 ∈ F.map (fun x => x.1) from List.mem_map.2 ⟨y, hy1, he.symm⟩) h.1
  ·
   exact absurd (show y.1 ∈ F.map (fun x => x.1) from List.mem_map.2 ⟨x, hx1, he⟩) h.1
  ·
   exact nodup_inj F h.2 x hx1 y hy1 he
theorem fa_nil {α : Type} {p : α → Prop} : ∀ x ∈ ([] : List α), p x := fun _ h => by cases h
theorem fa_cons {α : Type} {p : α → Prop} {z : α} {l : List α} (h : p z) (t : ∀ x ∈ l, p x) : ∀ x ∈ z :: l, p x := fun x hx => by
 rcases List.mem_cons.1 hx with rfl | hx
 ·
  exact h
 ·
  exact t x hx
def FlE (v0 : Value) : Value → World → Prop := fun v _ => v = v0
theorem FlE.lasts (v0 : Value) : Lasts (FlE v0) := fun _ _ _ h _ => h
theorem run_headS {n0 n : Nat} (l : List Oper) (F : Flo) (hF : Fr N a m) (hB : headA ops N n0 n (F.map (·.1)) = true) (hl : (ops.toList.drop n0).take (n - n0) = l) (hd : ∀ x ∈ F, (ops[x.1]?).bind (·.dst) = some x.2.1) (hR : ∀ x ∈ F, Lasts x.2.2) (hin : ∀ x ∈ F, n0 ≤ x.1 ∧ x.1 < n)
  (hu' : nodupB (F.map (·.1)) = true)
  (h : dwalk P ops w (F.map (·.1)) (fun A => (∀ x ∈ F, ∀ b w', Ext w w' → (∀ mm, Fr N A mm → Fr N b (held F b ++ mm)) → depsOf ops F x.1 b w' → ∃ o, ops[x.1]? = some o ∧ SX P ops o b w' x.2.2) ∧
   ∀ b w', Ext w w' → (∀ mm, Fr N A mm → Fr N b (held F b ++ mm)) → (∀ x ∈ F, x.2.2 (slot b x.2.1) w') → Run P ops Q n b w') n0 l a) : Run P ops Q n0 a w := by
 have hu := nodup_inj F hu'
 obtain ⟨fl, hfl⟩ : ∃ fl, fl = F.map (·.1) := ⟨_, rfl⟩
 rw [← hfl] at hB h
 have hmem : ∀ x ∈ F, x.1 ∈ fl := fun x hx => by rw [hfl]; exact List.mem_map.2 ⟨x, hx, rfl⟩
 have hback : ∀ i ∈ fl, ∃ x ∈ F, x.1 = i := fun i hi => by rw [hfl] at hi; exact List.mem_map.1 hi
 have hst : ∀ (j : Nat) (D : Nat → Bool) (v : Value) (w w' : World), (∀ x ∈ F, x.1 = j → x.2.2 v w) → Ext w w' → ∀ x ∈ F, x.1 = j → x.2.2 v w' := fun j D v w w' h hx x hxF hi => hR x hxF v w w' (h x hxF hi) hx
 refine run_headA (P := P) (ops := ops) (Q := Q) (w0 := w) (w := w) (a := a) N n0 n fl (fun i _ v w => ∀ x ∈ F, x.1 = i → x.2.2 v w) l hB hl (Ext.refl w) hF.size hst
  (dwalk_mono (fun A hA => ⟨fun hdA i o hm hn ho hf => ?_, fun b w' hx hs hdf hsl hr => ?_⟩) _ _ _ h)
 ·
  obtain ⟨x, hxF, rfl⟩ := hback i hf
  intro D b w' hx hs hdf hsl hDi hDd hold
  have key := hA.1 x hxF b w' hx (fr_held (fl := fl) (M := n0) (n := n) hfl hd hs (hdf.trans hdA) hF hsl) (fun y hy hw => by
   have hDy := hDd y.1 (hin y hy).1 (hmem y hy) hw
   have hdy := hd y hy
   cases hp : ops[y.1]? with
   | none => rw [hp] at hdy; cases hdy
   | some p =>
    rw [hp] at hdy
    exact hold y.1 p y.2.1 (hin y hy).1 (hin y hy).2 (hmem y hy) hDy hp hdy y hy rfl)
  obtain ⟨o', ho', hw, hres⟩ := key
  have hoo : o' = o := Option.some.inj (ho'.symm.trans ho)
  subst hoo
  have mine : ∀ v w'', x.2.2 v w'' → ∀ y ∈ F, y.1 = x.1 → y.2.2 v w'' := fun v w'' hv y hy hyx => by rw [hu y hy x hxF hyx]; exact hv
  have keep : ∀ w'', Ext w' w'' → ∀ j p d, n0 ≤ j → j < n → j ∈ fl → D j = true → ops[j]? = some p → p.dst = some d → ∀ y ∈ F, y.1 = j → y.2.2 (slot b d) w'' := fun w'' hx'' j p d hj hj' hjf hD hp hd' y hy hyj =>
   hR y hy _ _ _ (hold j p d hj hj' hjf hD hp hd' y hy hyj) hx''
  refine ⟨hw, ?_⟩
  rcases hres with ⟨v, w'', hr, hx', hv⟩ | ⟨f, args, hr, hc⟩
  ·
   exact .inl ⟨v, w'', hr, hx.trans hx', keep w'' hx', mine v w'' hv⟩
  ·
   exact .inr ⟨f, args, hr, hc.mono fun e w'' ⟨v, he, hx', hv⟩ => ⟨v, he, hx.trans hx', keep w'' hx', mine v w'' hv⟩⟩
 ·
  refine hA.2 b w' hx (fr_held (fl := fl) (M := n0) (n := n) hfl hd hs hdf hF hsl) fun x hxF => ?_
  have hdx := hd x hxF
  cases hp : ops[x.1]? with
  | none => rw [hp] at hdx; cases hdx
  | some p =>
   rw [hp] at hdx
   exact hr x.1 p x.2.1 (hin x hxF).1 (hin x hxF).2 hp (hmem x hxF) hdx x hxF rfl
end
end Go.Fw
namespace Go.Fw
open Go Go.RowKit
section
variable {P : Program} {N : Nat} {a : Act} {w w0 : World} {m : List (Nat × Value)} {H : List Ent} {o : Oper} {ops : Array Oper} {K : Act → World → Prop} {Q : Exit → Act → World → Prop} {t e : TypeId}
end
end Go.Fw
namespace Go.Fw
open Go Go.RowKit
section
variable {P : Program} {ops : Array Oper} {a : Act} {w : World} {o : Oper} {t e : TypeId} {x y : Operand}
end
end Go.Fw
