/- What is proved: a region that draws its order may be walked once, in the order of the text, where the operations with effects stand in one chain and all others yield one value in every later world. Over any program. -/
import Derived.Test.YtfhalnobaeogkaaDoorFwSto
set_option linter.unusedVariables false
set_option linter.unusedSimpArgs false
namespace Go.Fw
open Go Go.RowKit

section
variable {P : Program} {ops : Array Oper} {Q : Exit → Act → World → Prop}

/-- One value in every world behind 'w0', without a call. -/
def DV (P : Program) (w0 : World) (o : Oper) (a : Act) (v : Value) : Prop :=
  ∀ w, Ext w0 w → (execOp a.eval o).run P w = .ok (.value v) w ∨ ((execOp a.eval o).run P w = .ok .skip w ∧ v = undef)
theorem DV.uniq {w0 : World} {o : Oper} {a : Act} {v v' : Value} (h : DV P w0 o a v) (h' : DV P w0 o a v') : v = v' := by
  rcases h w0 (Ext.refl _) with h1 | ⟨h1, h2⟩ <;> rcases h' w0 (Ext.refl _) with h3 | ⟨h3, h4⟩
  · rw [h1] at h3; injection h3 with h3; injection h3
  · rw [h1] at h3; injection h3 with h3; cases h3
  · rw [h1] at h3; injection h3 with h3; cases h3
  · rw [h2, h4]
theorem DV.same {w0 : World} {o : Oper} {a b : Act} {v : Value} (hs : ∀ cs b, o.op ≠ .select cs b) (h : DV P w0 o a v) (he : ∀ t ∈ o.looksAt ops, slot a t = slot b t) : DV P w0 o b v := by
  intro w hw
  have := h w hw
  rwa [execOp_congr o hs (eval_same he)] at this
/-- What a quiet operation yields, wanted or not. -/
def QV (P : Program) (ops : Array Oper) (w0 : World) (o : Oper) (a : Act) (v : Value) : Prop :=
  (Region.wanted o (yielded ops a.tmps) = true ∧ DV P w0 o a v) ∨ (Region.wanted o (yielded ops a.tmps) = false ∧ v = undef)
theorem QV.uniq {w0 : World} {o : Oper} {a : Act} {v v' : Value} (h : QV P ops w0 o a v) (h' : QV P ops w0 o a v') : v = v' := by
  rcases h with ⟨h1, h2⟩ | ⟨h1, h2⟩ <;> rcases h' with ⟨h3, h4⟩ | ⟨h3, h4⟩
  · exact h2.uniq h4
  · rw [h1] at h3; cases h3
  · rw [h1] at h3; cases h3
  · rw [h2, h4]
theorem QV.same {w0 : World} {o : Oper} {a b : Act} {v : Value} (hs : ∀ cs b, o.op ≠ .select cs b) (hz : a.tmps.size = b.tmps.size) (h : QV P ops w0 o a v) (he : ∀ t ∈ o.looksAt ops, slot a t = slot b t) : QV P ops w0 o b v := by
  have hw := wanted_same (o := o) hz he
  rcases h with ⟨h1, h2⟩ | ⟨h1, h2⟩
  · exact .inl ⟨hw ▸ h1, h2.same hs he⟩
  · exact .inr ⟨hw ▸ h1, h2⟩

abbrev QF : Exit → Act → World → Prop := fun _ _ _ => False

def swalk (P : Program) (ops : Array Oper) (w0 : World) (E : List Nat) (K : Act → World → Prop) : Nat → List Oper → Act → World → Prop
  | _, [], a, w => K a w
  | i, o :: rest, a, w =>
    if i ∈ E then Stp P ops QF o a w (fun a' w' => Ext w0 w' ∧ swalk P ops w0 E K (i + 1) rest a' w')
    else ∃ v, QV P ops w0 o a v ∧ swalk P ops w0 E K (i + 1) rest (a.put o.dst v) w

/-- A path of what one waits for. -/
def pathB (ops : Array Oper) (m : Nat) : Nat → List Nat → Bool
  | _, [] => true
  | j, x :: c => decide (m ≤ x) && (waits ops j x && pathB ops m x c)
def lastP : Nat → List Nat → Nat
  | j, [] => j
  | _, x :: c => lastP x c
theorem path_listed {m : Nat} {listed : Array Bool} (hcl : ∀ j o, ops[j]? = some o → m ≤ j → listed.getD j false = true → ∀ e ∈ o.after, Region.binds .any e = true → listed.getD e.on false = true) :
    ∀ (c : List Nat) (j : Nat) (o : Oper), ops[j]? = some o → (∀ e ∈ o.after, Region.binds .any e = true → listed.getD e.on false = true) → pathB ops m j c = true → lastP j c ≠ j → listed.getD (lastP j c) false = true
  | [], j, o, _, _, _, hne => absurd rfl hne
  | x :: c, j, o, ho, hdep, hp, hne => by
    simp only [pathB, Bool.and_eq_true, decide_eq_true_eq] at hp
    obtain ⟨hm, hw, hp⟩ := hp
    obtain ⟨e, he, hb, hon⟩ := waits_spec ho hw
    have hl := hdep e he hb
    rw [hon] at hl
    rw [lastP]
    by_cases hx : lastP x c = x
    · rw [hx]; exact hl
    · cases hq : ops[x]? with
      | none =>
        cases c with
        | nil => exact absurd rfl hx
        | cons y c => simp [pathB, waits, hq] at hp
      | some q => exact path_listed hcl c x q hq (hcl x q hq hm hl) hp hx
def chainB (ops : Array Oper) (m n : Nat) (E : List Nat) (C : List (List Nat)) : Bool :=
  E.all fun j => E.all fun i => !(decide (m ≤ i) && decide (i < j) && decide (j < n)) || C.any fun c => pathB ops m j c && E.any fun k => decide (i ≤ k) && decide (k < j) && (lastP j c == k)
theorem chainB_spec {m n : Nat} {E : List Nat} {C : List (List Nat)} (h : chainB ops m n E C = true) {i j : Nat} (hi : i ∈ E) (hj : j ∈ E) (hm : m ≤ i) (hij : i < j) (hn : j < n) : ∃ k ∈ E, ∃ c, i ≤ k ∧ k < j ∧ pathB ops m j c = true ∧ lastP j c = k := by
  have := List.all_eq_true.1 (List.all_eq_true.1 h j hj) i hi
  simp only [hm, hij, hn, decide_true, Bool.and_self, Bool.not_true, Bool.false_or, List.any_eq_true, Bool.and_eq_true, decide_eq_true_eq, beq_iff_eq] at this
  obtain ⟨c, _, h1, k, hk, ⟨h2, h3⟩, h4⟩ := this
  exact ⟨k, hk, c, h2, h3, h1, h4⟩

/-- The same operation at an act that agrees in what it looks at. -/
theorem stp_move {o : Oper} {a b : Act} {w : World} {K : Act → World → Prop} (hs : ∀ cs b, o.op ≠ .select cs b) (hz : a.tmps.size = b.tmps.size) (hd : a.defers = b.defers) (he : ∀ t ∈ o.looksAt ops, slot a t = slot b t) (h : Stp P ops QF o a w K) :
    Stp P ops Q o b w (fun b' w' => ∃ v ds, b' = ({ b with defers := ds } : Act).put o.dst v ∧ K (({ a with defers := ds } : Act).put o.dst v) w') := by
  have hw := wanted_same (o := o) hz he
  have hx := execOp_congr o hs (eval_same (ops := ops) he)
  unfold Stp at h ⊢
  rw [hw] at h
  have hb : b = ({ b with defers := b.defers } : Act) := rfl
  have ha : a = ({ a with defers := b.defers } : Act) := by rw [← hd]
  split
  · rename_i hwt
    rw [if_pos hwt] at h
    refine .inl ?_
    replace h : o.wp P a w K QF := h.elim id fun ⟨_, _, _, h⟩ => h.elim
    unfold Oper.wp at h ⊢
    rw [hx] at h
    generalize (execOp b.eval o).run P w = r at h ⊢
    cases r with
    | ok n w' =>
      cases n <;> simp only [Oper.upon] at h ⊢ <;> try exact h.elim
      case value v => exact ⟨v, b.defers, rfl, by rw [← ha]; exact h⟩
      case skip => exact ⟨undef, b.defers, rfl, by rw [← ha]; exact h⟩
      case defer d => exact ⟨undef, d :: b.defers, rfl, by rw [hd] at h; exact h⟩
      case enter f args =>
        refine Calls.mono h fun e w'' he => ?_
        cases e with
        | returned v => exact ⟨v, b.defers, rfl, by rw [← ha]; exact he⟩
        | panicked c => exact he.elim
        | outgrown => obtain ⟨_, _, h⟩ := he; exact h.elim
      case row row args => exact Rows.mono h fun v w'' he => ⟨v, b.defers, rfl, by rw [← ha]; exact he⟩
    | halt x w' =>
      cases x <;> simp only [Oper.upon] at h ⊢ <;> exact h.elim
  · rename_i hwf
    rw [if_neg hwf] at h
    exact ⟨undef, b.defers, rfl, by rw [← ha]; exact h⟩
/-- It comes to something. -/
theorem stp_some {o : Oper} {a : Act} {w : World} {K : Act → World → Prop} (h : Stp P ops QF o a w K) : ∃ v ds w', K (({ a with defers := ds } : Act).put o.dst v) w' := by
  unfold Stp at h
  split at h
  · replace h : o.wp P a w K QF := h.elim id fun ⟨_, _, _, h⟩ => h.elim
    unfold Oper.wp at h
    generalize (execOp a.eval o).run P w = r at h
    cases r with
    | ok n w' =>
      cases n <;> simp only [Oper.upon] at h <;> try exact h.elim
      case value v => exact ⟨v, a.defers, w', h⟩
      case skip => exact ⟨undef, a.defers, w', h⟩
      case defer d => exact ⟨undef, d :: a.defers, w', h⟩
      case enter f args =>
        obtain ⟨e, w'', fr, hR, _⟩ := h []
        cases e with
        | returned v => exact ⟨v, a.defers, w'', hR⟩
        | panicked c => exact hR.elim
        | outgrown => obtain ⟨_, _, h⟩ := hR; exact h.elim
      case row row args =>
        obtain ⟨v, w'', hR, _⟩ := h default []
        exact ⟨v, a.defers, w'', hR⟩
    | halt x w' => cases x <;> simp only [Oper.upon] at h <;> exact h.elim
  · exact ⟨undef, a.defers, w, h⟩
theorem slot_defers (a : Act) (ds : List Deferred) (t : Nat) : slot ({ a with defers := ds } : Act) t = slot a t := rfl
theorem put_defers' (a : Act) (ds : List Deferred) (d : Option Tmp) (v : Value) : (({ a with defers := ds } : Act).put d v).tmps = (a.put d v).tmps ∧ (({ a with defers := ds } : Act).put d v).defers = ds := by
  cases d <;> exact ⟨rfl, rfl⟩
theorem slot_pd (a : Act) (ds : List Deferred) (d : Option Tmp) (v : Value) (t : Nat) : slot (({ a with defers := ds } : Act).put d v) t = slot (a.put d v) t := by
  unfold slot; rw [(put_defers' a ds d v).1]

variable {w0 : World} {N m n : Nat} {E : List Nat} {K : Act → World → Prop}
/-- What is known ahead of position p of the walk in the order of the text (A), and of the run (a). -/
structure SIn (P : Program) (ops : Array Oper) (w0 : World) (N m n : Nat) (E : List Nat) (listed : Array Bool) (a : Act) (p : Nat) (A : Act) : Prop where
  mp : m ≤ p
  pn : p ≤ n
  sz : A.tmps.size = N
  asz : a.tmps.size = N
  df : A.defers = a.defers
  un : ∀ t, (∀ j o, m ≤ j → j < n → ops[j]? = some o → o.dst ≠ some t) → slot A t = slot a t
  eq : ∀ j o d, m ≤ j → j < p → ops[j]? = some o → o.dst = some d → listed.getD j false = true → slot a d = slot A d
  qu : ∀ j o, m ≤ j → j < p → ops[j]? = some o → listed.getD j false = false → j ∉ E ∧ ∃ v, QV P ops w0 o A v ∧ ∀ d, o.dst = some d → slot A d = v
  ea : ∀ j o, p ≤ j → j < n → ops[j]? = some o → listed.getD j false = true → j ∉ E ∧ ∃ v, QV P ops w0 o a v ∧ ∀ d, o.dst = some d → slot a d = v

theorem SIn.agree (hok : HOk ops N m n []) {listed : Array Bool} {a A : Act} {p : Nat} (I : SIn P ops w0 N m n E listed a p A) {i : Nat} {o : Oper} (hm : m ≤ i) (hn : i < n) (ho : ops[i]? = some o) (hdep : ∀ e ∈ o.after, Region.binds .any e = true → listed.getD e.on false = true)
    (hp : ∀ k, k < i → listed.getD k false = true → k < p) : ∀ t ∈ o.looksAt ops, slot A t = slot a t := by
  intro t ht
  by_cases hex : ∃ j q, m ≤ j ∧ j < n ∧ ops[j]? = some q ∧ q.dst = some t
  · obtain ⟨j, q, hj, hj', hq, hd⟩ := hex
    obtain ⟨hlt, hw, _⟩ := hok.look i o j q t hm hn ho hj hj' hq hd ht
    obtain ⟨e, he, hb, hon⟩ := waits_spec ho hw
    have hl := hdep e he hb
    rw [hon] at hl
    exact (I.eq j q t hj (hp j hlt hl) hq hd hl).symm
  · exact I.un t fun j q hj hj' hq hd => hex ⟨j, q, hj, hj', hq, hd⟩
/-- Over one operation that makes no effect, in the order of the text. -/
theorem SIn.quiet (hok : HOk ops N m n []) {listed : Array Bool} (hcl : ∀ j o, ops[j]? = some o → m ≤ j → listed.getD j false = true → ∀ e ∈ o.after, Region.binds .any e = true → listed.getD e.on false = true) {a A : Act} {p : Nat} (I : SIn P ops w0 N m n E listed a p A) {o : Oper} (hp : p < n) (ho : ops[p]? = some o) (hE : p ∉ E) {v : Value} (hv : QV P ops w0 o A v) : SIn P ops w0 N m n E listed a (p + 1) (A.put o.dst v) := by
  have hsel := fun cs b => Region.noSelect_spec hok.nosel p o cs b ho
  have hne : ∀ j q d, m ≤ j → j < n → ops[j]? = some q → j ≠ p → q.dst = some d → slot (A.put o.dst v) d = slot A d := fun j q d hj hj' hq hjp hd =>
    slot_put_ne v (hok.once p o j q d I.mp hp ho hj hj' hq hjp hd)
  have hkeep : ∀ j q, m ≤ j → j < n → ops[j]? = some q → j ≤ p → ∀ t ∈ q.looksAt ops, slot A t = slot (A.put o.dst v) t := fun j q hj hj' hq hjp t ht =>
    (slot_put_ne v fun hd => by have := (hok.look j q p o t hj hj' hq I.mp hp ho hd ht).1; omega).symm
  have hself : ∀ d, o.dst = some d → slot (A.put o.dst v) d = v := fun d hd => by rw [hd]; exact slot_put_same v (by rw [I.sz]; exact hok.dst p o d I.mp hp ho hd)
  refine ⟨by have := I.mp; omega, hp, by rw [put_size]; exact I.sz, I.asz, by rw [put_defers]; exact I.df, fun t ht => ?_, fun j q d hj hj' hq hd hl => ?_, fun j q hj hj' hq hl => ?_, fun j q hj hj' hq hl => I.ea j q (by omega) hj' hq hl⟩
  · rw [slot_put_ne v (ht p o I.mp hp ho)]; exact I.un t ht
  · by_cases hjp : j = p
    · subst hjp
      have : q = o := Option.some.inj (hq.symm.trans ho)
      subst this
      obtain ⟨_, v', hv', hs⟩ := I.ea j q (Nat.le_refl _) hp hq hl
      have hag := I.agree hok I.mp hp hq (hcl j q hq I.mp hl) (fun k hk _ => hk)
      rw [hself d hd, hs d hd]
      exact hv'.uniq (hv.same hsel (I.sz.trans I.asz.symm) hag)
    · rw [hne j q d hj (by omega) hq hjp hd]
      exact I.eq j q d hj (by omega) hq hd hl
  · by_cases hjp : j = p
    · subst hjp
      have : q = o := Option.some.inj (hq.symm.trans ho)
      subst this
      exact ⟨hE, v, hv.same hsel (by rw [put_size]) (hkeep j q hj hp hq (Nat.le_refl _)), hself⟩
    · obtain ⟨h1, v', h2, h3⟩ := I.qu j q hj (by omega) hq hl
      exact ⟨h1, v', h2.same (fun cs b => Region.noSelect_spec hok.nosel j q cs b hq) (by rw [put_size]) (hkeep j q hj (by omega) hq (by omega)), fun d hd => by rw [hne j q d hj (by omega) hq hjp hd]; exact h3 d hd⟩
/-- Up to the next operation with an effect that has not come up. -/
theorem SIn.advance (hok : HOk ops N m n []) {listed : Array Bool} (hcl : ∀ j o, ops[j]? = some o → m ≤ j → listed.getD j false = true → ∀ e ∈ o.after, Region.binds .any e = true → listed.getD e.on false = true) {a : Act} {w : World} :
    ∀ (l : List Oper) (p : Nat) (A : Act), p + l.length = n → (∀ j, j < l.length → l[j]? = ops[p + j]?) → SIn P ops w0 N m n E listed a p A → swalk P ops w0 E K p l A w →
      ∃ p' l' A', p ≤ p' ∧ p' + l'.length = n ∧ (∀ j, j < l'.length → l'[j]? = ops[p' + j]?) ∧ SIn P ops w0 N m n E listed a p' A' ∧ swalk P ops w0 E K p' l' A' w ∧ (p' < n → p' ∈ E) ∧ (∀ e ∈ E, p ≤ e → p' ≤ e) := by
  intro l
  induction l with
  | nil => intro p A hl hat I h; exact ⟨p, [], A, Nat.le_refl _, hl, hat, I, h, fun hp => by simp at hl; omega, fun e _ h => h⟩
  | cons o l ih =>
    intro p A hl hat I h
    simp only [List.length_cons] at hl
    by_cases hE : p ∈ E
    · exact ⟨p, o :: l, A, Nat.le_refl _, by simpa using hl, hat, I, h, fun _ => hE, fun e _ h => h⟩
    · unfold swalk at h
      rw [if_neg hE] at h
      obtain ⟨v, hv, h⟩ := h
      have ho : ops[p]? = some o := by have := hat 0 (by simp); simpa using this.symm
      obtain ⟨p', l', A', h1, h2, h3, h4, h5, h6, h7⟩ := ih (p + 1) _ (by omega) (fun j hj => by
        have := hat (j + 1) (by simp only [List.length_cons]; omega)
        simpa [Nat.add_assoc, Nat.add_comm 1 j] using this) (I.quiet hok hcl (by omega) ho hE hv) h
      exact ⟨p', l', A', by omega, h2, h3, h4, h5, h6, fun e he hpe => h7 e he (by have : e ≠ p := fun h => hE (h ▸ he); omega)⟩
/-- A quiet operation further on that may come up now yields what it will. -/
theorem SIn.peek (hok : HOk ops N m n []) {listed : Array Bool} (hcl : ∀ j o, ops[j]? = some o → m ≤ j → listed.getD j false = true → ∀ e ∈ o.after, Region.binds .any e = true → listed.getD e.on false = true) {a : Act} {i : Nat} {oi : Oper} (hi : i < n) (hoi : ops[i]? = some oi) (hiE : i ∉ E) (hdep : ∀ e ∈ oi.after, Region.binds .any e = true → listed.getD e.on false = true) :
    ∀ (l : List Oper) (p : Nat) (A : Act) (w : World), p ≤ i → p + l.length = n → (∀ j, j < l.length → l[j]? = ops[p + j]?) → m ≤ p → A.tmps.size = N → a.tmps.size = N →
      (∀ t, (∀ j o, m ≤ j → j < n → ops[j]? = some o → o.dst ≠ some t) → slot A t = slot a t) →
      (∀ j o d, m ≤ j → j < p → ops[j]? = some o → o.dst = some d → listed.getD j false = true → slot a d = slot A d) →
      (∀ j o, p ≤ j → j < n → ops[j]? = some o → listed.getD j false = true → j ∉ E ∧ ∃ v, QV P ops w0 o a v ∧ ∀ d, o.dst = some d → slot a d = v) →
      swalk P ops w0 E K p l A w → ∃ v, QV P ops w0 oi a v := by
  intro l
  induction l with
  | nil => intro p A w hpi hln; simp at hln; omega
  | cons o l ih =>
    intro p A w hpi hln hat hmp hsz hasz hun heq hea h
    simp only [List.length_cons] at hln
    have ho : ops[p]? = some o := by have := hat 0 (by simp); simpa using this.symm
    have hat' : ∀ j, j < l.length → l[j]? = ops[p + 1 + j]? := fun j hj => by
      have := hat (j + 1) (by simp only [List.length_cons]; omega)
      simpa [Nat.add_assoc, Nat.add_comm 1 j] using this
    have agree : ∀ {k : Nat} {q : Oper}, m ≤ k → k < n → k ≤ p → ops[k]? = some q → (∀ e ∈ q.after, Region.binds .any e = true → listed.getD e.on false = true) → ∀ t ∈ q.looksAt ops, slot A t = slot a t := by
      intro k q hmk hkn hkp hq hd t ht
      by_cases hex : ∃ j r, m ≤ j ∧ j < n ∧ ops[j]? = some r ∧ r.dst = some t
      · obtain ⟨j, r, hj, hj', hr, hdt⟩ := hex
        obtain ⟨hlt, hw, _⟩ := hok.look k q j r t hmk hkn hq hj hj' hr hdt ht
        obtain ⟨e, he, hb, hon⟩ := waits_spec hq hw
        have hl := hd e he hb
        rw [hon] at hl
        exact (heq j r t hj (by omega) hr hdt hl).symm
      · exact hun t fun j r hj hj' hr hdt => hex ⟨j, r, hj, hj', hr, hdt⟩
    have hnE : ∀ (v : Value) (j : Nat) (q : Oper) (d : Tmp), m ≤ j → j < n → ops[j]? = some q → j ≠ p → q.dst = some d → slot (A.put o.dst v) d = slot A d := fun v j q d hj hj' hq hjp hd =>
      slot_put_ne v (hok.once p o j q d hmp (by omega) ho hj hj' hq hjp hd)
    unfold swalk at h
    by_cases hE : p ∈ E
    · rw [if_pos hE] at h
      have hpi' : p ≠ i := fun h => hiE (h ▸ hE)
      obtain ⟨v, ds, w', _, h⟩ := stp_some h
      refine ih (p + 1) _ w' (by omega) (by omega) hat' (by omega) (by rw [(put_defers' _ _ _ _).1, put_size]; exact hsz) hasz (fun t ht => ?_) (fun j q d hj hj' hq hd hl => ?_) (fun j q hj hj' hq hl => hea j q (by omega) hj' hq hl) h
      · rw [slot_pd, slot_put_ne v (ht p o hmp (by omega) ho)]; exact hun t ht
      · rw [slot_pd]
        by_cases hjp : j = p
        · subst hjp
          exact absurd hE (hea j q (Nat.le_refl _) (by omega) hq hl).1
        · rw [hnE v j q d hj (by omega) hq hjp hd]
          exact heq j q d hj (by omega) hq hd hl
    · rw [if_neg hE] at h
      obtain ⟨v, hv, h⟩ := h
      by_cases hpi' : p = i
      · subst hpi'
        have : oi = o := Option.some.inj (hoi.symm.trans ho)
        subst this
        exact ⟨v, hv.same (fun cs b => Region.noSelect_spec hok.nosel p oi cs b ho) (hsz.trans hasz.symm) (agree hmp hi (Nat.le_refl _) ho hdep)⟩
      · refine ih (p + 1) _ w (by omega) (by omega) hat' (by omega) (by rw [put_size]; exact hsz) hasz (fun t ht => ?_) (fun j q d hj hj' hq hd hl => ?_) (fun j q hj hj' hq hl => hea j q (by omega) hj' hq hl) h
        · rw [slot_put_ne v (ht p o hmp (by omega) ho)]; exact hun t ht
        · by_cases hjp : j = p
          · subst hjp
            have : q = o := Option.some.inj (hq.symm.trans ho)
            subst this
            obtain ⟨_, v', hv', hs⟩ := hea j q (Nat.le_refl _) (by omega) hq hl
            have hag := agree hmp (by omega) (Nat.le_refl _) hq (hcl j q hq hmp hl)
            rw [hs d hd, hd, slot_put_same v (by rw [hsz]; exact hok.dst j q d hmp (by omega) hq hd)]
            exact hv'.uniq (hv.same (fun cs b => Region.noSelect_spec hok.nosel j q cs b hq) (hsz.trans hasz.symm) hag)
          · rw [hnE v j q d hj (by omega) hq hjp hd]
            exact heq j q d hj (by omega) hq hd hl

/-- One that makes no effect has come up. -/
theorem SIn.took (hok : HOk ops N m n []) {listed : Array Bool} (hsz : listed.size = ops.size) (hcl : ∀ j o, ops[j]? = some o → m ≤ j → listed.getD j false = true → ∀ e ∈ o.after, Region.binds .any e = true → listed.getD e.on false = true) {a A : Act} {p i : Nat} (I : SIn P ops w0 N m n E listed a p A) {o : Oper} (hm : m ≤ i) (hn : i < n) (ho : ops[i]? = some o) (hun : listed.getD i false = false) {v : Value} (hv : QV P ops w0 o a v)
    (h1 : i < p → ∀ d, o.dst = some d → slot A d = v) (h2 : p ≤ i → i ∉ E) : SIn P ops w0 N m n E (listed.setIfInBounds i true) (a.put o.dst v) p A := by
  have hsel := fun j q (hq : ops[j]? = some q) cs b => Region.noSelect_spec hok.nosel j q cs b hq
  have hil : i < listed.size := by rw [hsz]; exact (Array.getElem?_eq_some_iff.1 ho).1
  have hset : ∀ j, (listed.setIfInBounds i true).getD j false = true → j ≠ i → listed.getD j false = true := fun j h hne => by rwa [getD_set_other (Ne.symm hne)] at h
  have hunset : ∀ j, (listed.setIfInBounds i true).getD j false = false → j ≠ i ∧ listed.getD j false = false := fun j h => by
    by_cases hj : i = j
    · subst hj; rw [getD_set_self hil] at h; cases h
    · exact ⟨Ne.symm hj, by rwa [getD_set_other hj] at h⟩
  have hne : ∀ j q d, m ≤ j → j < n → ops[j]? = some q → j ≠ i → q.dst = some d → slot (a.put o.dst v) d = slot a d := fun j q d hj hj' hq hji hd =>
    slot_put_ne v (hok.once i o j q d hm hn ho hj hj' hq hji hd)
  have hkeep : ∀ j q, m ≤ j → j < n → ops[j]? = some q → (listed.getD j false = true ∨ j = i) → ∀ t ∈ q.looksAt ops, slot a t = slot (a.put o.dst v) t := fun j q hj hj' hq hl t ht =>
    (slot_put_ne v fun hd => by
      obtain ⟨hlt, hw, _⟩ := hok.look j q i o t hj hj' hq hm hn ho hd ht
      rcases hl with hl | hl
      · obtain ⟨e, he, hb, hon⟩ := waits_spec hq hw
        have := hcl j q hq hj hl e he hb
        rw [hon, hun] at this
        cases this
      · omega).symm
  have hself : ∀ d, o.dst = some d → slot (a.put o.dst v) d = v := fun d hd => by rw [hd]; exact slot_put_same v (by rw [I.asz]; exact hok.dst i o d hm hn ho hd)
  refine ⟨I.mp, I.pn, I.sz, by rw [put_size]; exact I.asz, by rw [put_defers]; exact I.df, fun t ht => ?_, fun j q d hj hj' hq hd hl => ?_, fun j q hj hj' hq hl => ?_, fun j q hj hj' hq hl => ?_⟩
  · rw [slot_put_ne v (ht i o hm hn ho)]; exact I.un t ht
  · by_cases hji : j = i
    · subst hji
      have : q = o := Option.some.inj (hq.symm.trans ho)
      subst this
      rw [hself d hd, h1 hj' d hd]
    · rw [hne j q d hj (by have := I.pn; omega) hq hji hd]
      exact I.eq j q d hj hj' hq hd (hset j hl hji)
  · exact I.qu j q hj hj' hq (hunset j hl).2
  · by_cases hji : j = i
    · subst hji
      have : q = o := Option.some.inj (hq.symm.trans ho)
      subst this
      exact ⟨h2 hj, v, hv.same (hsel j q hq) (by rw [put_size]) (hkeep j q hm hn hq (.inr rfl)), hself⟩
    · obtain ⟨g1, v', g2, g3⟩ := I.ea j q hj hj' hq (hset j hl hji)
      have hmj : m ≤ j := Nat.le_trans I.mp hj
      exact ⟨g1, v', g2.same (hsel j q hq) (by rw [put_size]) (hkeep j q hmj hj' hq (.inl (hset j hl hji))), fun d hd => by rw [hne j q d hmj hj' hq hji hd]; exact g3 d hd⟩
/-- One that makes an effect has come up. -/
theorem SIn.done (hok : HOk ops N m n []) {listed : Array Bool} (hsz : listed.size = ops.size) (hcl : ∀ j o, ops[j]? = some o → m ≤ j → listed.getD j false = true → ∀ e ∈ o.after, Region.binds .any e = true → listed.getD e.on false = true) {a A : Act} {p : Nat} (I : SIn P ops w0 N m n E listed a p A) {o : Oper} (hn : p < n) (ho : ops[p]? = some o) (hun : listed.getD p false = false) (v : Value) (ds : List Deferred) :
    SIn P ops w0 N m n E (listed.setIfInBounds p true) (({ a with defers := ds } : Act).put o.dst v) (p + 1) (({ A with defers := ds } : Act).put o.dst v) := by
  have hsel := fun j q (hq : ops[j]? = some q) cs b => Region.noSelect_spec hok.nosel j q cs b hq
  have hil : p < listed.size := by rw [hsz]; exact (Array.getElem?_eq_some_iff.1 ho).1
  have hset : ∀ j, (listed.setIfInBounds p true).getD j false = true → j ≠ p → listed.getD j false = true := fun j h hne => by rwa [getD_set_other (Ne.symm hne)] at h
  have hunset : ∀ j, (listed.setIfInBounds p true).getD j false = false → j ≠ p ∧ listed.getD j false = false := fun j h => by
    by_cases hj : p = j
    · subst hj; rw [getD_set_self hil] at h; cases h
    · exact ⟨Ne.symm hj, by rwa [getD_set_other hj] at h⟩
  have hne : ∀ (b : Act) j q d, m ≤ j → j < n → ops[j]? = some q → j ≠ p → q.dst = some d → slot (({ b with defers := ds } : Act).put o.dst v) d = slot b d := fun b j q d hj hj' hq hji hd => by
    rw [slot_pd]; exact slot_put_ne v (hok.once p o j q d I.mp hn ho hj hj' hq hji hd)
  have hself : ∀ (b : Act) d, b.tmps.size = N → o.dst = some d → slot (({ b with defers := ds } : Act).put o.dst v) d = v := fun b d hb hd => by rw [slot_pd, hd]; exact slot_put_same v (by rw [hb]; exact hok.dst p o d I.mp hn ho hd)
  have hz : ∀ b : Act, (({ b with defers := ds } : Act).put o.dst v).tmps.size = b.tmps.size := fun b => by rw [(put_defers' b ds o.dst v).1, put_size]
  refine ⟨by have := I.mp; omega, hn, by rw [hz]; exact I.sz, by rw [hz]; exact I.asz, by rw [(put_defers' _ _ _ _).2, (put_defers' _ _ _ _).2], fun t ht => ?_, fun j q d hj hj' hq hd hl => ?_, fun j q hj hj' hq hl => ?_, fun j q hj hj' hq hl => ?_⟩
  · rw [slot_pd, slot_pd, slot_put_ne v (ht p o I.mp hn ho), slot_put_ne v (ht p o I.mp hn ho)]; exact I.un t ht
  · by_cases hji : j = p
    · subst hji
      have : q = o := Option.some.inj (hq.symm.trans ho)
      subst this
      rw [hself a d I.asz hd, hself A d I.sz hd]
    · rw [hne a j q d hj (by omega) hq hji hd, hne A j q d hj (by omega) hq hji hd]
      exact I.eq j q d hj (by omega) hq hd (hset j hl hji)
  · obtain ⟨hji, hl⟩ := hunset j hl
    obtain ⟨g1, v', g2, g3⟩ := I.qu j q hj (by omega) hq hl
    refine ⟨g1, v', g2.same (hsel j q hq) (hz A).symm fun t ht => ?_, fun d hd => by rw [hne A j q d hj (by omega) hq hji hd]; exact g3 d hd⟩
    rw [slot_pd]
    exact (slot_put_ne v fun hd => by have := (hok.look j q p o t hj (by omega) hq I.mp hn ho hd ht).1; omega).symm
  · have hji : j ≠ p := by omega
    have hmj : m ≤ j := by have := I.mp; omega
    obtain ⟨g1, v', g2, g3⟩ := I.ea j q (by omega) hj' hq (hset j hl hji)
    refine ⟨g1, v', g2.same (hsel j q hq) (hz a).symm fun t ht => ?_, fun d hd => by rw [hne a j q d hmj hj' hq hji hd]; exact g3 d hd⟩
    rw [slot_pd]
    exact (slot_put_ne v fun hd => by
      obtain ⟨hlt, hw, _⟩ := hok.look j q p o t hmj hj' hq I.mp hn ho hd ht
      obtain ⟨e, he, hb, hon⟩ := waits_spec hq hw
      have := hcl j q hq hmj (hset j hl hji) e he hb
      rw [hon, hun] at this
      cases this).symm

/-- What the order's list is. -/
structure LOk (ops : Array Oper) (m n : Nat) (listed : Array Bool) : Prop where
  sz : listed.size = ops.size
  lo : ∀ j, j < m → listed.getD j false = true
  hi : ∀ j, n ≤ j → listed.getD j false = false
  cl : ∀ j o, ops[j]? = some o → m ≤ j → listed.getD j false = true → ∀ e ∈ o.after, Region.binds .any e = true → listed.getD e.on false = true
theorem LOk.ready_lt (hok : HOk ops N m n []) {listed : Array Bool} (I : LOk ops m n listed) {i : Nat} (hm : m ≤ i) (hn : i < n) (hun : listed.getD i false = false) : ∀ t ∈ Region.ready .any ops listed, m ≤ t ∧ t < n := by
  intro t ht
  obtain ⟨h1, o, ho, hall⟩ := mem_ready.1 ht
  have htl : t < ops.size := (Array.getElem?_eq_some_iff.1 ho).1
  rw [getD_true_false (by rw [I.sz]; exact htl)] at h1
  refine ⟨Nat.le_of_not_lt fun h => (by rw [I.lo t h] at h1; cases h1), Nat.lt_of_not_le fun hge => ?_⟩
  rcases Nat.lt_or_eq_of_le hge with hgt | heq
  · obtain ⟨s, hs, _, hw⟩ := hok.tail t hgt htl
    obtain ⟨e, he, hb, hon⟩ := waits_spec ho hw
    have := hall e he hb
    rw [hon, I.hi s hs] at this
    cases this
  · subst heq
    have key : ∀ k i, n - i = k → m ≤ i → i < n → listed.getD i false = false → False := by
      intro k
      induction k using Nat.strongRecOn with
      | _ k ih =>
        intro i hk hm hn hun
        obtain ⟨j, hj, hij, hw⟩ := hok.sink htl i hm hn
        rcases Nat.lt_or_eq_of_le hj with hlt | heq
        · cases hl : listed.getD j false with
          | false => exact ih (n - j) (by omega) j rfl (by omega) hlt hl
          | true =>
            cases hp : ops[j]? with
            | none => have := Array.getElem?_eq_none_iff.1 hp; omega
            | some p =>
              obtain ⟨e, he, hb, hon⟩ := waits_spec hp hw
              have := I.cl j p hp (by omega) hl e he hb
              rw [hon, hun] at this
              cases this
        · subst heq
          obtain ⟨e, he, hb, hon⟩ := waits_spec ho hw
          have := hall e he hb
          rw [hon, hun] at this
          cases this
    exact key _ i rfl hm hn hun
theorem LOk.some_ready (hok : HOk ops N m n []) {listed : Array Bool} (I : LOk ops m n listed) {i : Nat} (hm : m ≤ i) (hn : i < n) (hun : listed.getD i false = false) : Region.ready .any ops listed ≠ [] := by
  have key : ∀ k i, i = k → m ≤ i → i < n → listed.getD i false = false → ∃ t, t ∈ Region.ready .any ops listed := by
    intro k
    induction k using Nat.strongRecOn with
    | _ k ih =>
      intro i hk hm hn hun
      subst hk
      cases ho : ops[i]? with
      | none => have := Array.getElem?_eq_none_iff.1 ho; have := hok.ns; omega
      | some o =>
        have hil : i < listed.size := by rw [I.sz]; exact (Array.getElem?_eq_some_iff.1 ho).1
        by_cases hall : ∀ e ∈ o.after, Region.binds .any e = true → listed.getD e.on false = true
        · exact ⟨i, mem_ready.2 ⟨by rw [getD_true_false hil]; exact hun, o, ho, hall⟩⟩
        · have : ∃ e ∈ o.after, Region.binds .any e = true ∧ listed.getD e.on false ≠ true := by
            apply Classical.byContradiction
            intro hno
            exact hall fun e he hb => Classical.byContradiction fun hc => hno ⟨e, he, hb, hc⟩
          obtain ⟨e, he, hb, hc⟩ := this
          have hlt := hok.back i o hm hn ho e he hb
          have hun' : listed.getD e.on false = false := by simpa using hc
          have hme : m ≤ e.on := Nat.le_of_not_lt fun h => (by rw [I.lo _ h] at hun'; cases hun')
          exact ih e.on hlt e.on rfl hme (by omega) hun'
  obtain ⟨t, ht⟩ := key i i rfl hm hn hun
  intro h0
  rw [h0] at ht
  cases ht
theorem LOk.next {listed : Array Bool} (I : LOk ops m n listed) {i : Nat} {o : Oper} (hm : m ≤ i) (hn : i < n) (ho : ops[i]? = some o) (hdep : ∀ e ∈ o.after, Region.binds .any e = true → listed.getD e.on false = true) : LOk ops m n (listed.setIfInBounds i true) := by
  have hi : i < listed.size := by rw [I.sz]; exact (Array.getElem?_eq_some_iff.1 ho).1
  have hmono : ∀ j, listed.getD j false = true → (listed.setIfInBounds i true).getD j false = true := fun j h => by
    by_cases hj : i = j
    · subst hj; exact getD_set_self hi
    · rwa [getD_set_other hj]
  refine ⟨by simpa using I.sz, fun j hj => hmono j (I.lo j hj), fun j hj => ?_, fun j p hp hj hl e he hb => ?_⟩
  · rw [getD_set_other (by omega)]; exact I.hi j hj
  · by_cases hji : j = i
    · subst hji
      have : p = o := Option.some.inj (hp.symm.trans ho)
      subst this
      exact hmono _ (hdep e he hb)
    · exact hmono _ (I.cl j p hp hj (by rwa [getD_set_other (Ne.symm hji)] at hl) e he hb)
/-- Where the walk stands. -/
def At_ (P : Program) (ops : Array Oper) (w0 : World) (N m n : Nat) (E : List Nat) (K : Act → World → Prop) (listed : Array Bool) (a : Act) (w : World) : Prop :=
  Ext w0 w ∧ ∃ p l A, p + l.length = n ∧ (∀ j, j < l.length → l[j]? = ops[p + j]?) ∧ SIn P ops w0 N m n E listed a p A ∧ swalk P ops w0 E K p l A w ∧ (p < n → p ∈ E)
theorem act_eq {a A : Act} (hs : a.tmps.size = A.tmps.size) (hd : a.defers = A.defers) (h : ∀ t, slot a t = slot A t) : a = A := by
  have : a.tmps = A.tmps := by
    apply Array.ext hs
    intro i h1 h2
    have := h i
    simp only [slot, Array.getD_eq_getD_getElem?] at this
    rw [Array.getElem?_eq_getElem h1, Array.getElem?_eq_getElem h2] at this
    exact this
  cases a; cases A
  simp only at this hd
  rw [this, hd]
theorem seq_all (hok : HOk ops N m n []) {C : List (List Nat)} (hch : chainB ops m n E C = true) :
    ∀ (k : Nat) (listed : Array Bool) (a : Act) (w : World), open_ m n listed = k → LOk ops m n listed → At_ P ops w0 N m n E (Run P ops Q n) listed a w → wpAny P .any ops Q (k + (ops.size - n)) listed a w := by
  intro k
  induction k with
  | zero =>
    intro listed a w hk L ⟨hx, p, l, A, hl, hat, I, h, hp⟩
    have hall := open_zero hk
    have hlist : listed = upto ops.size n := by
      apply Array.ext
      · rw [L.sz, upto_size]
      · intro j h1 h2
        have h1' : listed.getD j false = listed[j] := by simp [Array.getD, h1]
        have h2' : (upto ops.size n).getD j false = (upto ops.size n)[j] := by simp [Array.getD, h2]
        rw [← h1', ← h2', upto_getD, if_pos (by rw [← L.sz]; exact h1)]
        by_cases hjn : j < n
        · by_cases hjm : j < m
          · rw [L.lo j hjm]; simp [hjn]
          · rw [hall j (by omega) hjn]; simp [hjn]
        · rw [L.hi j (by omega)]; simp [hjn]
    have hpn : p = n := by
      rcases Nat.lt_or_eq_of_le I.pn with hlt | heq
      · exfalso
        cases ho : ops[p]? with
        | none => have := Array.getElem?_eq_none_iff.1 ho; have := hok.ns; omega
        | some o => exact (I.ea p o (Nat.le_refl _) hlt ho (hall p I.mp hlt)).1 (hp hlt)
      · exact heq
    subst hpn
    have hl0 : l = [] := List.length_eq_zero_iff.1 (by omega)
    subst hl0
    have haA : a = A := act_eq (I.asz.trans I.sz.symm) I.df.symm fun t => by
      by_cases hex : ∃ j q, m ≤ j ∧ j < p ∧ ops[j]? = some q ∧ q.dst = some t
      · obtain ⟨j, q, hj, hj', hq, hd⟩ := hex
        exact I.eq j q t hj hj' hq hd (hall j hj hj')
      · exact (I.un t fun j q hj hj' hq hd => hex ⟨j, q, hj, hj', hq, hd⟩).symm
    subst haA
    subst hlist
    rw [Nat.zero_add]
    exact h
  | succ k ih =>
    intro listed a w hk L ⟨hx, p, l, A, hl, hat, I, h, hp⟩
    have hex : ∃ i, m ≤ i ∧ i < n ∧ listed.getD i false = false := by
      apply Classical.byContradiction
      intro hno
      have : open_ m n listed = 0 := by
        unfold open_
        rw [List.filter_eq_nil_iff.2, List.length_nil]
        intro j hj hc
        simp only [Bool.and_eq_true, decide_eq_true_eq, Bool.not_eq_true'] at hc
        exact hno ⟨j, hc.1, List.mem_range.1 hj, hc.2⟩
      omega
    obtain ⟨i0, hm0, hn0, hun0⟩ := hex
    rw [show k + 1 + (ops.size - n) = (k + (ops.size - n)) + 1 by omega]
    refine ⟨fun h0 => absurd h0 (L.some_ready hok hm0 hn0 hun0), fun i hi => ?_⟩
    obtain ⟨hm, hn⟩ := L.ready_lt hok hm0 hn0 hun0 i hi
    obtain ⟨h1, o, ho, hdep⟩ := mem_ready.1 hi
    have hil : i < listed.size := by rw [L.sz]; exact (Array.getElem?_eq_some_iff.1 ho).1
    rw [getD_true_false hil] at h1
    have hop : open_ m n (listed.setIfInBounds i true) = k := by
      have := open_set hm hn hil h1
      omega
    have hL := L.next hm hn ho hdep
    have hsel := fun cs b => Region.noSelect_spec hok.nosel i o cs b ho
    -- one that makes no effect
    have quiet : ∀ v, QV P ops w0 o a v → (i < p → ∀ d, o.dst = some d → slot A d = v) → (p ≤ i → i ∉ E) → wpOp P ops Q i (wpAny P .any ops Q (k + (ops.size - n)) (listed.setIfInBounds i true)) a w := by
      intro v hv g1 g2
      have go : wpAny P .any ops Q (k + (ops.size - n)) (listed.setIfInBounds i true) (a.put o.dst v) w :=
        ih _ _ _ hop hL ⟨hx, p, l, A, hl, hat, I.took hok L.sz L.cl hm hn ho h1 hv g1 g2, h, hp⟩
      unfold wpOp
      rw [ho]
      simp only
      rcases hv with ⟨hw, hq⟩ | ⟨hw, rfl⟩
      · rw [if_pos hw]
        refine .inl ?_
        unfold Oper.wp
        rcases hq w hx with hr | ⟨hr, rfl⟩
        · rw [hr]; exact go
        · rw [hr]; exact go
      · rw [if_neg (by rw [hw]; exact Bool.false_ne_true)]
        exact go
    rcases Nat.lt_trichotomy i p with hip | hip | hip
    · obtain ⟨g1, v, g2, g3⟩ := I.qu i o hm hip ho h1
      have hag := I.agree hok hm hn ho hdep fun k hk _ => by omega
      exact quiet v (g2.same hsel (I.sz.trans I.asz.symm) hag) (fun _ => g3) fun hge => absurd hge (by omega)
    · subst hip
      have hE := hp hn
      have hag := I.agree hok hm hn ho hdep fun k hk _ => hk
      cases l with
      | nil => simp at hl; omega
      | cons o' l =>
        have ho' : o' = o := by
          have := hat 0 (by simp)
          rw [Nat.add_zero, ho] at this
          simpa using this
        subst ho'
        unfold swalk at h
        rw [if_pos hE] at h
        have := stp_move (Q := Q) hsel (I.sz.trans I.asz.symm) I.df hag h
        unfold wpOp
        rw [ho]
        simp only
        unfold Stp at this
        have next : ∀ a' w', (∃ v ds, a' = ({ a with defers := ds } : Act).put o'.dst v ∧ (Ext w0 w' ∧ swalk P ops w0 E (Run P ops Q n) (i + 1) l (({ A with defers := ds } : Act).put o'.dst v) w')) → wpAny P .any ops Q (k + (ops.size - n)) (listed.setIfInBounds i true) a' w' := by
          rintro a' w' ⟨v, ds, rfl, hx', hs⟩
          simp only [List.length_cons] at hl
          obtain ⟨p', l', A', q1, q2, q3, q4, q5, q6, _⟩ := SIn.advance hok hL.cl l (i + 1) _ (by omega) (fun j hj => by
            have := hat (j + 1) (by simp only [List.length_cons]; omega)
            simpa [Nat.add_assoc, Nat.add_comm 1 j] using this) (I.done hok L.sz L.cl hn ho h1 v ds) hs
          exact ih _ _ _ hop hL ⟨hx', p', l', A', q2, q3, q4, q5, q6⟩
        split at this
        · rename_i hw
          rw [if_pos hw]
          exact this.imp (Oper.wp_mono fun a w h => next a w h) id
        · rename_i hw
          rw [if_neg hw]
          exact next _ _ this
    · have hpn : p < n := by omega
      have hpE := hp hpn
      have hiE : i ∉ E := fun hiE => by
        obtain ⟨k', hk', c, g1, g2, g3, g4⟩ := chainB_spec hch hpE hiE I.mp hip hn
        have hl' := path_listed L.cl c i o ho hdep g3 (by omega)
        rw [g4] at hl'
        cases hq : ops[k']? with
        | none => have := Array.getElem?_eq_none_iff.1 hq; have := hok.ns; omega
        | some q => exact (I.ea k' q g1 (by omega) hq hl').1 hk'
      obtain ⟨v, hv⟩ := SIn.peek hok L.cl hn ho hiE hdep l p A w (by omega) hl hat I.mp I.sz I.asz I.un I.eq I.ea h
      exact quiet v hv (fun h => absurd h (by omega)) fun _ => hiE
/-- **A region, walked in the order of the text.** -/
theorem run_swalk (N m n : Nat) (E : List Nat) (C : List (List Nat)) (l : List Oper) {a : Act} {w : World} (hB : headB ops N m n [] = true) (hch : chainB ops m n E C = true) (hl : (ops.toList.drop m).take (n - m) = l) (hN : a.tmps.size = N)
    (h : swalk P ops w E (Run P ops Q n) m l a w) : Run P ops Q m a w := by
  have hok := headB_spec hB
  have hlen : l.length = n - m := by rw [← hl]; have := hok.ns; simp; omega
  have hat : ∀ j, j < l.length → l[j]? = ops[m + j]? := fun j hj => by
    rw [← hl, List.getElem?_take, if_pos (by omega), List.getElem?_drop]; simp
  have hlo : ∀ j, (upto ops.size m).getD j false = true → j < m := fun j h => by
    rw [upto_getD] at h
    split at h
    · simpa using h
    · cases h
  have L : LOk ops m n (upto ops.size m) := by
    refine ⟨upto_size _ _, fun j hj => ?_, fun j hj => ?_, fun j o ho hm hl => absurd (hlo j hl) (by omega)⟩
    · rw [upto_getD, if_pos (by have := hok.ns; have := hok.mn; omega)]; simp [hj]
    · rw [upto_getD]
      split
      · have := hok.mn; simp; omega
      · rfl
  have I : SIn P ops w N m n E (upto ops.size m) a m a :=
    ⟨Nat.le_refl _, hok.mn, hN, hN, rfl, fun _ _ => rfl, fun j o d h1 h2 => by omega, fun j o h1 h2 => by omega, fun j o h1 h2 ho hl => absurd (hlo j hl) (by omega)⟩
  obtain ⟨p', l', A', q1, q2, q3, q4, q5, q6, _⟩ := SIn.advance hok L.cl l m a (by have := hok.mn; omega) hat I h
  have hsize : ops.size - m = (n - m) + (ops.size - n) := by have := hok.ns; have := hok.mn; omega
  unfold Run
  rw [hsize]
  refine seq_all hok hch _ _ _ _ ?_ L ⟨Ext.refl w, p', l', A', q2, q3, q4, q5, q6⟩
  unfold open_
  have : ((List.range n).filter fun j => decide (m ≤ j) && !(upto ops.size m).getD j false) = (List.range n).filter fun j => decide (m ≤ j) :=
    List.filter_congr fun j hj => by
      rw [upto_getD]
      have := hok.ns
      have := List.mem_range.1 hj
      rw [if_pos (by omega)]
      by_cases h : m ≤ j
      · simp [h, show ¬ j < m by omega]
      · simp [h]
  rw [this]
  have key : ∀ n, m ≤ n → ((List.range n).filter fun j => decide (m ≤ j)).length = n - m := by
    intro n
    induction n with
    | zero => intro _; simp
    | succ n ih =>
      intro h
      rw [List.range_succ, List.filter_append, List.length_append]
      by_cases hmn : m ≤ n
      · rw [ih hmn]; simp [hmn]; omega
      · have : m = n + 1 := by omega
        subst this
        rw [List.filter_eq_nil_iff.2 (fun j hj => by have := List.mem_range.1 hj; simp; omega)]
        simp
  exact key n hok.mn
end
section
variable {P : Program} {ops : Array Oper} {Q : Exit → Act → World → Prop} {N i : Nat} {a : Act} {mm : List (Nat × Value)} {o : Oper} {w w0 : World} {E : List Nat} {K : Act → World → Prop} {rest : List Oper}
theorem sw_eff (hE : E.contains i = true) (h : Stp P ops QF o a w (fun a' w' => Ext w0 w' ∧ swalk P ops w0 E K (i + 1) rest a' w')) : swalk P ops w0 E K i (o :: rest) a w := by
  unfold swalk; rw [if_pos (by simpa using hE)]; exact h
theorem sw_nil (h : K a w) : swalk P ops w0 E K i [] a w := h
theorem sw_gv (hF : Fr N a mm) (hE : E.contains i = false) (hw : Region.wanted o (yielded ops a.tmps) = true) {d : Nat} {v : Value} (hd : o.dst = some d) (hN : Nat.blt d N = true) (hv : ∀ w', Ext w0 w' → Gv P o a w' v) (h : ∀ a', Fr N a' ((d, v) :: mm) → swalk P ops w0 E K (i + 1) rest a' w) :
    swalk P ops w0 E K i (o :: rest) a w := by
  unfold swalk
  rw [if_neg (by simpa using hE)]
  exact ⟨v, .inl ⟨hw, fun w' hx => .inl (hv w' hx)⟩, by rw [hd]; exact h _ (hF.put v hN)⟩
theorem sw_skip (hF : Fr N a mm) (hE : E.contains i = false) (hw : Region.wanted o (yielded ops a.tmps) = false) {d : Nat} (hd : o.dst = some d) (hN : Nat.blt d N = true) (h : ∀ a', Fr N a' ((d, undef) :: mm) → swalk P ops w0 E K (i + 1) rest a' w) :
    swalk P ops w0 E K i (o :: rest) a w := by
  unfold swalk
  rw [if_neg (by simpa using hE)]
  exact ⟨undef, .inr ⟨hw, rfl⟩, by rw [hd]; exact h _ (hF.put undef hN)⟩
theorem sw_gvG {p : Prop} [Decidable p] (hF : Fr N a mm) (hE : E.contains i = false) {j t : Nat} (hg : o.guard = some (j, true)) (hj : (ops[j]?).bind (·.dst) = some t) (hl : look t mm = some (.bool (decide p))) {d : Nat} {v : Value} (hd : o.dst = some d) (hN : Nat.blt d N = true) (hv : ∀ w', Ext w0 w' → p → Gv P o a w' v)
    (h : ∀ a', Fr N a' ((d, if p then v else undef) :: mm) → swalk P ops w0 E K (i + 1) rest a' w) : swalk P ops w0 E K i (o :: rest) a w := by
  by_cases hp : p
  · rw [if_pos hp] at h
    exact sw_gv hF hE (wanted_of hF hg hj (by rw [hl, decide_eq_true hp])) hd hN (fun w' hx => hv w' hx hp) h
  · rw [if_neg hp] at h
    exact sw_skip hF hE (unwanted_of hF hg hj (by rw [hl, decide_eq_false hp]) rfl) hd hN h
theorem sw_gvG' {p : Prop} [Decidable p] (hF : Fr N a mm) (hE : E.contains i = false) {j t : Nat} (hg : o.guard = some (j, false)) (hj : (ops[j]?).bind (·.dst) = some t) (hl : look t mm = some (.bool (decide p))) {d : Nat} {v : Value} (hd : o.dst = some d) (hN : Nat.blt d N = true) (hv : ∀ w', Ext w0 w' → ¬ p → Gv P o a w' v)
    (h : ∀ a', Fr N a' ((d, if p then undef else v) :: mm) → swalk P ops w0 E K (i + 1) rest a' w) : swalk P ops w0 E K i (o :: rest) a w := by
  by_cases hp : p
  · rw [if_pos hp] at h
    exact sw_skip hF hE (unwanted_of hF hg hj (by rw [hl, decide_eq_true hp]) rfl) hd hN h
  · rw [if_neg hp] at h
    exact sw_gv hF hE (wanted_of hF hg hj (by rw [hl, decide_eq_false hp])) hd hN (fun w' hx => hv w' hx hp) h
end
end Go.Fw
