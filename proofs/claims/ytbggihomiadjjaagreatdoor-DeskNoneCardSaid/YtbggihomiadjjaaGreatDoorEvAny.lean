/- What is proved: a region that draws its order comes to what the evaluator says of it in the order of the text: operations that look at no memory, loads that read the same wherever they may come, rows that are laid whenever it may be, and operations with effects that stand in one chain. -/
import Derived.Test.YtbggihomiadjjaaGreatDoorEvOps16
set_option linter.unusedVariables false
set_option linter.unusedSimpArgs false
namespace Go.Ev
open Go Go.Fw

section
variable {P : Program} {ops : Array Oper} {Q : Exit → Act → World → Prop}
/-- One waits for another one, or for one that does. -/
inductive Wp (ops : Array Oper) : Nat → Nat → Prop
  | one {i j : Nat} : waits ops i j = true → Wp ops i j
  | step {i k j : Nat} : waits ops i k = true → Wp ops k j → Wp ops i j
def Kd.isEff : Kd → Prop
  | .eff _ => True
  | _ => False
def Kd.isNew : Kd → Prop
  | .new _ _ => True
  | _ => False
structure ROk (ops : Array Oper) (Nt : Nat) : Prop where
  back : ∀ (i : Nat) (o : Oper), ops[i]? = some o → ∀ e ∈ o.after, Region.binds .any e = true → e.on < i
  look : ∀ (i : Nat) (o : Oper) (j : Nat) (p : Oper) (d : Tmp), ops[i]? = some o → ops[j]? = some p → p.dst = some d → d ∈ o.looksAt ops → (j < i ∧ waits ops i j = true) ∨ (i < j ∧ Wp ops j i)
  once : ∀ (i : Nat) (o : Oper) (j : Nat) (p : Oper) (d : Tmp), ops[i]? = some o → ops[j]? = some p → p.dst = some d → o.dst = some d → i = j
  dst : ∀ (i : Nat) (o : Oper) (d : Tmp), ops[i]? = some o → o.dst = some d → d < Nt
/-- What an operation with effects does. -/
def EffW (P : Program) (o : Oper) (a : Act) (w : World) (ρ : Rho) (s : S) (r : AV) (s' : S) : Prop :=
  ∀ (Q : Exit → Act → World → Prop) (K : Act → World → Prop), (∀ v ρ' w', RV ρ' r v → Goes ρ s w ρ' s' w' → K (a.put o.dst v) w') → o.wp P a w K Q
theorem OpS.effW {o : Oper} {a : Act} {w : World} {ρ : Rho} {s s' : S} {r : AV} (h : OpS P o a w ρ s r s') : EffW P o a w ρ s r s' := by
  obtain ⟨v, ρ', w', h1, h2, h3⟩ := h
  intro Q K hK
  unfold Oper.wp
  rcases h1 with h1 | ⟨h1, rfl⟩
  · rw [h1]; exact hK v ρ' w' h2 h3
  · rw [h1]; exact hK undef ρ' w' h2 h3
/-- What the evaluator tells of a region, operation by operation. -/
structure Tr (P : Program) (ops : Array Oper) (Nt : Nat) (s0 : S) (F : Nat → F) (H : Nat → T Row) (N fid : Nat → Nat) (A : Nat → AV) (K : Nat → Kd) (WT : Nat → Bool) (Hend : T Row) : Prop where
  rok : ROk ops Nt
  n0 : s0.nx ≤ N 0
  h0 : H 0 = s0.h
  nm : ∀ i, i < ops.size → N i ≤ N (i + 1)
  ff : ∀ i, i < ops.size → (K i).isNew → s0.nx ≤ fid i ∧ fid i < N 0
  fi : ∀ i j, i < ops.size → j < ops.size → (K i).isNew → (K j).isNew → fid i = fid j → i = j
  fr : ∀ i o t v, ops[i]? = some o → (F (i + 1)).get t = some v → (o.dst = some t ∧ v = A i) ∨ (o.dst ≠ some t ∧ (F i).get t = some v)
  want : ∀ i o ρ a, ops[i]? = some o → a.tmps.size = Nt → (∀ t ∈ o.looksAt ops, ∀ v, (F i).get t = some v → RV ρ v (slot a t)) → Region.wanted o (yielded ops a.tmps) = WT i
  no : ∀ i o, ops[i]? = some o → WT i = false → K i = .quiet ∧ A i = .undef
  same : ∀ i, i < ops.size → ¬ (K i).isEff → H (i + 1) = H i ∧ N (i + 1) = N i
  quiet : ∀ i o, ops[i]? = some o → K i = .quiet → WT i = true → ∀ ρ a, FO ρ (F i) a o → ∃ v, (∀ w, Gv P o a w v) ∧ RV ρ (A i) v
  load : ∀ i o, ops[i]? = some o → K i = .load → ∀ κ ρ a w, (κ = 0 ∨ ∃ c, κ = c + 1 ∧ (K c).isEff) → κ ≤ ops.size → (∀ c, c < ops.size → (K c).isEff → Wp ops i c → c < κ) → (∀ c, (K c).isEff → c < κ → ¬ Wp ops c i) →
    FO ρ (F i) a o → Rel ρ ⟨H κ, N κ⟩ w → ∃ v, Gv P o a w v ∧ RV ρ (A i) v
  new : ∀ i o row k, ops[i]? = some o → K i = .new row k → A i = k.av (fid i) ∧ ∀ ρ a, FO ρ (F i) a o → ∀ w, NewS P o a w ρ row k
  chain : ∀ c d, c < d → d < ops.size → (K c).isEff → (K d).isEff → Wp ops d c
  eff : ∀ i o Hm, ops[i]? = some o → K i = .eff Hm → ∀ ρ a w, FO ρ (F i) a o → Rel ρ ⟨Hm, N i⟩ w → EffW P o a w ρ ⟨Hm, N i⟩ (A i) ⟨H (i + 1), N (i + 1)⟩
  mg : ∀ c Hm, c < ops.size → K c = .eff Hm → ∀ i r, Hm.get i = some r → r ≠ .dead → (H c).get i = some r ∨ ∃ j k, j < c ∧ K j = .new r k ∧ Wp ops c j ∧ (∀ c', c' < c → (K c').isEff → ¬ Wp ops c' j) ∧ fid j = i
  gm : ∀ c Hm, c < ops.size → K c = .eff Hm → ∀ g, g < 1000 → Hm.get g = (H c).get g
  ge : ∀ g, g < 1000 → Hend.get g = (H ops.size).get g
  me : ∀ i r, Hend.get i = some r → r ≠ .dead → (H ops.size).get i = some r ∨ ∃ j k, j < ops.size ∧ K j = .new r k ∧ (∀ c', c' < ops.size → (K c').isEff → ¬ Wp ops c' j) ∧ fid j = i

/-- More rows are known. -/
theorem Rel.merge {ρ : Rho} {s : S} {w : World} (h : Rel ρ s w) {h' : T Row} {n' : Nat} (hn : s.nx ≤ n') (E : Nat → Row → Prop) (hm : ∀ i r, h'.get i = some r → r ≠ .dead → s.h.get i = some r ∨ E i r)
    (he : ∀ i r, E i r → ∃ p, ρ i = some p ∧ RowAt ρ w p r ∧ ¬ Own ρ s p.b) (hd : ∀ i j r q p p', E i r → E j q → ρ i = some p → ρ j = some p' → p.b = p'.b → i = j) : Rel ρ ⟨h', n'⟩ w := by
  refine ⟨fun i r hi hd' => ?_, fun i j r q p p' hi hdi hj hdj hp hp' hb => ?_, fun i p hp => ⟨Nat.lt_of_lt_of_le (h.nx i p hp).1 hn, (h.nx i p hp).2⟩, h.gl, Nat.le_trans h.lo hn⟩
  · rcases hm i r hi hd' with g | g
    · exact h.row i r g hd'
    · obtain ⟨p, h1, h2, _⟩ := he i r g
      exact ⟨p, h1, h2⟩
  · rcases hm i r hi hdi with g | g <;> rcases hm j q hj hdj with g' | g'
    · exact h.inj i j r q p p' g hdi g' hdj hp hp' hb
    · obtain ⟨p2, h1, _, h3⟩ := he j q g'
      rw [hp'] at h1
      injection h1 with h1
      subst h1
      exact absurd ⟨i, r, p, g, hdi, hp, hb⟩ h3
    · obtain ⟨p2, h1, _, h3⟩ := he i r g
      rw [hp] at h1
      injection h1 with h1
      subst h1
      exact absurd ⟨j, q, p', g', hdj, hp', hb.symm⟩ h3
    · exact hd i j r q p p' g g' hp hp' hb
theorem Own.of_merge {ρ : Rho} {s : S} {h' : T Row} {n' : Nat} {E : Nat → Row → Prop} (hm : ∀ i r, h'.get i = some r → r ≠ .dead → s.h.get i = some r ∨ E i r) {b : Nat} (h : Own ρ ⟨h', n'⟩ b) : Own ρ s b ∨ ∃ i r p, E i r ∧ ρ i = some p ∧ p.b = b := by
  obtain ⟨i, r, p, hi, hd, hp, hb⟩ := h
  rcases hm i r hi hd with g | g
  · exact .inl ⟨i, r, p, g, hd, hp, hb⟩
  · exact .inr ⟨i, r, p, g, hp, hb⟩
theorem Own.lt {ρ : Rho} {s : S} {w : World} (h : Rel ρ s w) {b : Nat} (ho : Own ρ s b) : b < w.heap.size := by
  obtain ⟨i, r, p, hi, hd, hp, hb⟩ := ho
  obtain ⟨p', hp', hra⟩ := h.row i r hi hd
  rw [hp] at hp'
  injection hp' with hp'
  subst hp'
  rw [← hb]
  exact hra.lt
/-- More places, and more memory. -/
theorem Rel.more {ρ ρ' : Rho} {s : S} {w w' : World} (h : Rel ρ s w) (hx : ∀ i p, ρ i = some p → ρ' i = some p) (hnx : ∀ i p, ρ' i = some p → i < s.nx ∧ (1000 ≤ i → p.b < w'.heap.size)) (hk : ∀ b, b < w.heap.size → w'.heap[b]? = w.heap[b]?) : Rel ρ' s w' := by
  refine ⟨fun i r hi hd => ?_, fun i j r q p p' hi hdi hj hdj hp hp' hb => ?_, hnx, fun g hg => ?_, h.lo⟩
  · obtain ⟨p, hp, hra⟩ := h.row i r hi hd
    exact ⟨p, hx i p hp, hra.keep hx (hk _ hra.lt)⟩
  · obtain ⟨p1, hp1, _⟩ := h.row i r hi hdi
    obtain ⟨p2, hp2, _⟩ := h.row j q hj hdj
    have e1 := hx i p1 hp1
    have e2 := hx j p2 hp2
    rw [hp] at e1
    rw [hp'] at e2
    injection e1 with e1
    injection e2 with e2
    subst e1 e2
    exact h.inj i j r q p p' hi hdi hj hdj hp1 hp2 hb
  · obtain ⟨sz, hp⟩ := h.gl g hg
    exact ⟨sz, hx g _ hp⟩
theorem Own.ext {ρ ρ' : Rho} {s : S} {w : World} (h : Rel ρ s w) (hx : ∀ i p, ρ i = some p → ρ' i = some p) {b : Nat} (ho : Own ρ' s b) : Own ρ s b := by
  obtain ⟨i, r, p, hi, hd, hp, hb⟩ := ho
  obtain ⟨p', hp', _⟩ := h.row i r hi hd
  have := hx i p' hp'
  rw [hp] at this
  injection this with this
  subst this
  exact ⟨i, r, p, hi, hd, hp', hb⟩

/-- How a region stands, some of its operations done. -/
structure Inv (P : Program) (ops : Array Oper) (Nt : Nat) (s0 : S) (H : Nat → T Row) (N fid : Nat → Nat) (A : Nat → AV) (K : Nat → Kd) (ρ0 : Rho) (a0 : Act) (w0 : World) (lst : Nat → Prop) (a : Act) (w : World) (ρ : Rho) (κ : Nat) : Prop where
  ext : ∀ i p, ρ0 i = some p → ρ i = some p
  dom : ∀ i p, ρ i = some p → ρ0 i = some p ∨ (s0.nx ≤ i ∧ i < N 0 ∧ ∃ j, j < ops.size ∧ lst j ∧ (K j).isNew ∧ fid j = i) ∨ N 0 ≤ i
  kn : κ ≤ ops.size
  k0 : κ = 0 ∨ ∃ c, κ = c + 1 ∧ (K c).isEff
  ke : ∀ c, c < ops.size → (K c).isEff → (lst c ↔ c < κ)
  rel : Rel ρ ⟨H κ, N κ⟩ w
  fl : ∀ j row k, j < ops.size → lst j → K j = .new row k → (∀ c, c < κ → (K c).isEff → ¬ Wp ops c j) → ∃ p, ρ (fid j) = some p ∧ RowAt ρ w p row ∧ ¬ Own ρ ⟨H κ, N κ⟩ p.b ∧ w0.heap.size ≤ p.b
  fd : ∀ i j p q, i < ops.size → j < ops.size → lst i → lst j → (K i).isNew → (K j).isNew → (∀ c, c < κ → (K c).isEff → ¬ Wp ops c i) → (∀ c, c < κ → (K c).isEff → ¬ Wp ops c j) → ρ (fid i) = some p → ρ (fid j) = some q → p.b = q.b → i = j
  val : ∀ i o d, lst i → ops[i]? = some o → o.dst = some d → RV ρ (A i) (slot a d)
  un : ∀ t, (∀ i o, lst i → ops[i]? = some o → o.dst ≠ some t) → slot a t = slot a0 t
  sz : a.tmps.size = Nt
  df : a.defers = []
  size : w0.heap.size ≤ w.heap.size
  os : w.os = w0.os
  tape : w.tape = w0.tape
  output : w.output = w0.output
  own : ∀ b, b < w0.heap.size → Own ρ ⟨H κ, N κ⟩ b → Own ρ0 s0 b
  keep : ∀ b, b < w0.heap.size → ¬ Own ρ0 s0 b → w.heap[b]? = w0.heap[b]?
  gh : ∀ g, g < 1000 → (H κ).get g = s0.h.get g
  gk : ∀ g r, g < 1000 → s0.h.get g = some r → r ≠ .dead → w.heap[g]? = w0.heap[g]?

theorem opd_rv {ρ : Rho} {f : F} {a : Act} (hl : Gl ρ) {x : Operand} {v : AV} (h : ∀ t, x = .tmp t → ∀ v, f.get t = some v → RV ρ v (slot a t)) (hx : opd f x = some v) : RV ρ v (a.eval x) := by
  cases x with
  | tmp t => exact h t rfl v hx
  | const c => exact ofV_rv c v hx
  | global g =>
    have hx : (bif Nat.blt g 1000 then some (AV.ptr g 0) else none) = some v := hx
    rw [cblt] at hx
    split at hx
    · rename_i hg
      injection hx with hx
      subst hx
      obtain ⟨sz, hp⟩ := hl g hg
      exact ⟨_, hp, rfl⟩
    · cases hx
  | func k =>
    injection hx with hx
    subst hx
    exact ⟨#[], #[], rfl, rfl, rfl⟩

variable {Nt : Nat} {s0 : S} {F : Nat → Ev.F} {H : Nat → T Row} {N fid : Nat → Nat} {A : Nat → AV} {K : Nat → Kd} {WT : Nat → Bool} {Hend : T Row} {ρ0 ρ : Rho} {a0 a : Act} {w0 w : World} {lst lst' : Nat → Prop} {κ : Nat}
theorem size_at {i : Nat} (h : i < ops.size) : ∃ o, ops[i]? = some o := ⟨ops[i], Array.getElem?_eq_getElem h⟩
theorem at_size {i : Nat} {o : Oper} (h : ops[i]? = some o) : i < ops.size := (Array.getElem?_eq_some_iff.1 h).1
theorem waits_at {i j : Nat} (h : waits ops i j = true) : ∃ o, ops[i]? = some o := by
  unfold waits at h
  cases ho : ops[i]? with
  | none => rw [ho] at h; cases h
  | some o => exact ⟨o, rfl⟩
theorem Wp.lt (hr : ROk ops Nt) {i j : Nat} (h : Wp ops i j) : j < i := by
  induction h with
  | one h =>
    obtain ⟨o, ho⟩ := waits_at h
    obtain ⟨e, he, hb, rfl⟩ := waits_spec ho h
    exact hr.back _ o ho e he hb
  | step h _ ih =>
    obtain ⟨o, ho⟩ := waits_at h
    obtain ⟨e, he, hb, rfl⟩ := waits_spec ho h
    exact Nat.lt_trans ih (hr.back _ o ho e he hb)
theorem Wp.listed (hcl : ∀ i j, lst i → waits ops i j = true → lst j) {i j : Nat} (h : Wp ops i j) (hi : ∀ j, waits ops i j = true → lst j) : lst j := by
  induction h with
  | one h => exact hi _ h
  | step h _ ih => exact ih fun j hj => hcl _ j (hi _ h) hj
theorem Tr.frame (T : Tr P ops Nt s0 F H N fid A K WT Hend) {t : Nat} : ∀ (i : Nat) {v : AV}, i ≤ ops.size → (F i).get t = some v → (∃ j o, j < i ∧ ops[j]? = some o ∧ o.dst = some t ∧ v = A j) ∨ ((∀ j o, j < i → ops[j]? = some o → o.dst ≠ some t) ∧ (F 0).get t = some v)
  | 0, v, _, h => .inr ⟨fun j _ hj => absurd hj (Nat.not_lt_zero j), h⟩
  | i + 1, v, hi, h => by
    obtain ⟨o, ho⟩ := size_at (ops := ops) (i := i) (by omega)
    rcases T.fr i o t v ho h with ⟨hd, hv⟩ | ⟨hd, hg⟩
    · exact .inl ⟨i, o, Nat.lt_succ_self i, ho, hd, hv⟩
    · rcases T.frame i (by omega) hg with ⟨j, o', hj, ho', hd', hv⟩ | ⟨hn, h0⟩
      · exact .inl ⟨j, o', Nat.lt_succ_of_lt hj, ho', hd', hv⟩
      · refine .inr ⟨fun j o' hj ho' => ?_, h0⟩
        rcases Nat.lt_succ_iff_lt_or_eq.1 hj with hj | rfl
        · exact hn j o' hj ho'
        · rw [ho] at ho'
          injection ho' with ho'
          subst ho'
          exact hd
theorem Inv.looks (T : Tr P ops Nt s0 F H N fid A K WT Hend) (I : Inv P ops Nt s0 H N fid A K ρ0 a0 w0 lst a w ρ κ) (h0 : ∀ t v, (F 0).get t = some v → RV ρ0 v (slot a0 t)) {i : Nat} {o : Oper} (ho : ops[i]? = some o) (hdep : ∀ j, waits ops i j = true → lst j) (hun : ¬ lst i) (hwl : ∀ c j, lst c → Wp ops c j → lst j) :
    ∀ t ∈ o.looksAt ops, ∀ v, (F i).get t = some v → RV ρ v (slot a t) := by
  intro t ht v hv
  rcases T.frame i (Nat.le_of_lt (at_size ho)) hv with ⟨j, p, hj, hp, hd, rfl⟩ | ⟨hn, hv⟩
  · rcases T.rok.look i o j p t ho hp hd ht with ⟨_, h⟩ | ⟨h, _⟩
    · exact I.val j p t (hdep j h) hp hd
    · omega
  · rw [I.un t fun j p hj hp hd => by
      rcases T.rok.look i o j p t ho hp hd ht with ⟨h, _⟩ | ⟨_, h⟩
      · exact hn j p h hp hd
      · exact hun (hwl j i hj h)]
    exact RV.mono I.ext _ _ (h0 t v hv)
theorem Inv.fo (T : Tr P ops Nt s0 F H N fid A K WT Hend) (I : Inv P ops Nt s0 H N fid A K ρ0 a0 w0 lst a w ρ κ) (h0 : ∀ t v, (F 0).get t = some v → RV ρ0 v (slot a0 t)) {i : Nat} {o : Oper} (ho : ops[i]? = some o) (hdep : ∀ j, waits ops i j = true → lst j) (hun : ¬ lst i) (hwl : ∀ c j, lst c → Wp ops c j → lst j) : FO ρ (F i) a o :=
  ⟨fun {x v} hx hv => opd_rv I.rel.gl (fun t e v hv => I.looks T h0 ho hdep hun hwl t (by
    subst e
    exact List.mem_append.2 (.inl (List.mem_filterMap.2 ⟨.tmp t, hx, rfl⟩))) v hv) hv⟩
/-- What a put makes of the slots. -/
theorem Inv.puts (T : Tr P ops Nt s0 F H N fid A K WT Hend) (I : Inv P ops Nt s0 H N fid A K ρ0 a0 w0 lst a w ρ κ) {ρ' : Rho} (hx : ∀ i p, ρ i = some p → ρ' i = some p) {i : Nat} {o : Oper} (ho : ops[i]? = some o) (hun : ¬ lst i) (hl : ∀ j, lst' j ↔ lst j ∨ j = i) {v : Value} (hv : RV ρ' (A i) v) :
    (∀ j p d, lst' j → ops[j]? = some p → p.dst = some d → RV ρ' (A j) (slot (a.put o.dst v) d)) ∧ (∀ t, (∀ j p, lst' j → ops[j]? = some p → p.dst ≠ some t) → slot (a.put o.dst v) t = slot a0 t) ∧ (a.put o.dst v).tmps.size = Nt ∧ (a.put o.dst v).defers = [] := by
  refine ⟨fun j p d hj hp hd => ?_, fun t ht => ?_, by rw [put_size]; exact I.sz, by rw [put_defers]; exact I.df⟩
  · rcases (hl j).1 hj with hj | rfl
    · have hne : o.dst ≠ some d := fun e => hun (by rw [T.rok.once i o j p d ho hp hd e]; exact hj)
      rw [slot_put_ne v hne]
      exact RV.mono hx _ _ (I.val j p d hj hp hd)
    · rw [ho] at hp
      injection hp with hp
      subst hp
      rw [hd, slot_put_same v (by rw [I.sz]; exact T.rok.dst j o d ho hd)]
      exact hv
  · rw [slot_put_ne v (ht i o ((hl i).2 (.inr rfl)) ho)]
    exact I.un t fun j p hj hp => ht j p ((hl j).2 (.inl hj)) hp
/-- An operation that leaves memory as it is. -/
theorem Inv.still (T : Tr P ops Nt s0 F H N fid A K WT Hend) (I : Inv P ops Nt s0 H N fid A K ρ0 a0 w0 lst a w ρ κ) {i : Nat} {o : Oper} (ho : ops[i]? = some o) (hun : ¬ lst i) (hl : ∀ j, lst' j ↔ lst j ∨ j = i) (hn : ¬ (K i).isNew) (he : ¬ (K i).isEff) {v : Value} (hv : RV ρ (A i) v) :
    Inv P ops Nt s0 H N fid A K ρ0 a0 w0 lst' (a.put o.dst v) w ρ κ := by
  obtain ⟨g1, g2, g3, g4⟩ := I.puts T (fun _ _ h => h) ho hun hl hv
  have old : ∀ j, lst' j → (K j).isNew → lst j := fun j hj hk => by
    rcases (hl j).1 hj with h | rfl
    · exact h
    · exact absurd hk hn
  refine ⟨I.ext, fun j p hp => ?_, I.kn, I.k0, fun c hc hk => ?_, I.rel, fun j row k hj h1 h2 h3 => I.fl j row k hj (old j h1 (by rw [h2]; trivial)) h2 h3, fun i j p q hi hj h1 h2 h3 h4 => I.fd i j p q hi hj (old i h1 h3) (old j h2 h4) h3 h4, g1, g2, g3, g4, I.size, I.os, I.tape, I.output, I.own, I.keep, I.gh, I.gk⟩
  · rcases I.dom j p hp with h | ⟨h1, h2, m, h3, h4, h5⟩ | h
    · exact .inl h
    · exact .inr (.inl ⟨h1, h2, m, h3, (hl m).2 (.inl h4), h5⟩)
    · exact .inr (.inr h)
  · rw [hl c]
    constructor
    · rintro (h | rfl)
      · exact (I.ke c hc hk).1 h
      · exact absurd hk he
    · exact fun h => .inl ((I.ke c hc hk).2 h)
/-- One that lays a row. -/
theorem Inv.lays (T : Tr P ops Nt s0 F H N fid A K WT Hend) (I : Inv P ops Nt s0 H N fid A K ρ0 a0 w0 lst a w ρ κ) {i : Nat} {o : Oper} (ho : ops[i]? = some o) (hun : ¬ lst i) (hl : ∀ j, lst' j ↔ lst j ∨ j = i) {row : Row} {k : NK} (hk : K i = .new row k) (hA : A i = k.av (fid i)) (hlo : 1000 ≤ s0.nx)
    (hdom0 : ∀ j p, ρ0 j = some p → j < s0.nx) (hns : NewS P o a w ρ row k) (hcl : ∀ c, (K c).isEff → Wp ops c i → ¬ c < κ) : ∃ v w' ρ', (execOp a.eval o).run P w = .ok (.value v) w' ∧ Inv P ops Nt s0 H N fid A K ρ0 a0 w0 lst' (a.put o.dst v) w' ρ' κ := by
  obtain ⟨v, w', sz, hrun, hsz, hos, htp, hout, hkp, hrow, hrv⟩ := hns
  have hi := at_size ho
  have hnew : (K i).isNew := by rw [hk]; trivial
  have hneff : ¬ (K i).isEff := by rw [hk]; exact fun h => h
  obtain ⟨f1, f2⟩ := T.ff i hi hnew
  have hfresh : ρ (fid i) = none := by
    cases hp : ρ (fid i) with
    | none => rfl
    | some p =>
      rcases I.dom _ p hp with h | ⟨_, _, j, hj, h4, h5, h6⟩ | h
      · have := hdom0 _ p h; omega
      · exact absurd (T.fi i j hi hj hnew h5 h6.symm) (fun e => hun (by rw [e]; exact h4))
      · omega
  obtain ⟨p, hpe⟩ : ∃ p : Pl, p = ⟨w.heap.size, 0, sz⟩ := ⟨_, rfl⟩
  have hset : (ρ.set (fid i) p) (fid i) = some p := if_pos rfl
  have hne : ∀ j, j ≠ fid i → (ρ.set (fid i) p) j = ρ j := fun j hj => if_neg hj
  have hx : ∀ j q, ρ j = some q → (ρ.set (fid i) p) j = some q := fun j q hq => by
    by_cases e : j = fid i
    · rw [e, hfresh] at hq; cases hq
    · rw [hne j e]; exact hq
  obtain ⟨g1, g2, g3, g4⟩ := I.puts T hx ho hun hl (by rw [hA]; exact hrv _ _ (by rw [hset, hpe]))
  have hN : N 0 ≤ N κ := by
    have : ∀ m, m ≤ ops.size → N 0 ≤ N m := fun m => by
      induction m with
      | zero => exact fun _ => Nat.le_refl _
      | succ m ih => exact fun h => Nat.le_trans (ih (by omega)) (T.nm m (by omega))
    exact this κ I.kn
  have hrel : Rel (ρ.set (fid i) p) ⟨H κ, N κ⟩ w' := I.rel.more hx (fun j q hq => by
    by_cases e : j = fid i
    · rw [e, hset] at hq
      injection hq with hq
      rw [← hq, hpe, e]
      exact ⟨by show fid i < N κ; omega, fun _ => hsz⟩
    · rw [hne j e] at hq
      obtain ⟨h1, h2⟩ := I.rel.nx j q hq
      exact ⟨h1, fun h3 => Nat.lt_trans (h2 h3) hsz⟩) hkp
  have hown : ∀ b, Own (ρ.set (fid i) p) ⟨H κ, N κ⟩ b → Own ρ ⟨H κ, N κ⟩ b := fun b h => Own.ext I.rel hx h
  have old : ∀ j, lst' j → j ≠ i → lst j := fun j hj hji => by
    rcases (hl j).1 hj with h | h
    · exact h
    · exact absurd h hji
  have plt : ∀ j row k, j < ops.size → lst j → K j = .new row k → (∀ c, c < κ → (K c).isEff → ¬ Wp ops c j) → ∀ q, ρ (fid j) = some q → q.b < w.heap.size := fun j row k hj h1 h2 h3 q hq => by
    obtain ⟨q', hq', hra, _⟩ := I.fl j row k hj h1 h2 h3
    rw [hq] at hq'
    injection hq' with hq'
    subst hq'
    exact hra.lt
  refine ⟨v, w', ρ.set (fid i) p, hrun, ⟨fun j q hq => hx j q (I.ext j q hq), fun j q hq => ?_, I.kn, I.k0, fun c hc hkc => ?_, hrel, fun j row' k' hj h1 h2 h3 => ?_, fun j m q q' hj hm h1 h2 h3 h4 h5 h6 hq hq' hb => ?_, g1, g2, g3, g4, Nat.le_trans I.size (Nat.le_of_lt hsz), hos.trans I.os, htp.trans I.tape, hout.trans I.output, fun b hb ho => I.own b hb (hown b ho), fun b hb ho => (hkp b (Nat.lt_of_lt_of_le hb I.size)).trans (I.keep b hb ho), I.gh, fun g r hg hr hd => (hkp g (I.rel.glt hg ((I.gh g hg).trans hr) hd)).trans (I.gk g r hg hr hd)⟩⟩
  · by_cases e : j = fid i
    · exact .inr (.inl ⟨by omega, by omega, i, hi, (hl i).2 (.inr rfl), hnew, e.symm⟩)
    · rw [hne j e] at hq
      rcases I.dom j q hq with h | ⟨h1, h2, m, h3, h4, h5⟩ | h
      · exact .inl h
      · exact .inr (.inl ⟨h1, h2, m, h3, (hl m).2 (.inl h4), h5⟩)
      · exact .inr (.inr h)
  · rw [hl c]
    constructor
    · rintro (h | rfl)
      · exact (I.ke c hc hkc).1 h
      · exact absurd hkc hneff
    · exact fun h => .inl ((I.ke c hc hkc).2 h)
  · by_cases e : j = i
    · subst e
      rw [hk] at h2
      injection h2 with h2 h2'
      subst h2
      refine ⟨p, hset, by subst hpe; exact hrow _ hx, fun ho => ?_, by rw [hpe]; exact I.size⟩
      have := Own.lt I.rel (hown _ ho)
      rw [hpe] at this
      exact absurd this (Nat.lt_irrefl _)
    · obtain ⟨q, q1, q2, q3, q4⟩ := I.fl j row' k' hj (old j h1 e) h2 h3
      exact ⟨q, hx _ q q1, q2.keep hx (hkp _ q2.lt), fun ho => q3 (hown _ ho), q4⟩
  · have hfne : ∀ m, m < ops.size → (K m).isNew → m ≠ i → fid m ≠ fid i := fun m hm hk e1 e2 => e1 (T.fi m i hm hi hk hnew e2)
    by_cases e1 : j = i <;> by_cases e2 : m = i
    · rw [e1, e2]
    · subst e1
      rw [hset] at hq
      injection hq with hq
      rw [hne _ (hfne m hm h4 e2)] at hq'
      obtain ⟨rw_, kw, hw⟩ : ∃ r k, K m = .new r k := by
        cases hKm : K m with
        | new r k => exact ⟨r, k, rfl⟩
        | _ => rw [hKm] at h4; exact h4.elim
      have := plt m rw_ kw hm (old m h2 e2) hw h6 q' hq'
      rw [← hb, ← hq, hpe] at this
      exact absurd this (Nat.lt_irrefl _)
    · subst e2
      rw [hset] at hq'
      injection hq' with hq'
      rw [hne _ (hfne j hj h3 e1)] at hq
      obtain ⟨rw_, kw, hw⟩ : ∃ r k, K j = .new r k := by
        cases hKm : K j with
        | new r k => exact ⟨r, k, rfl⟩
        | _ => rw [hKm] at h3; exact h3.elim
      have := plt j rw_ kw hj (old j h1 e1) hw h5 q hq
      rw [hb, ← hq', hpe] at this
      exact absurd this (Nat.lt_irrefl _)
    · rw [hne _ (hfne j hj h3 e1)] at hq
      rw [hne _ (hfne m hm h4 e2)] at hq'
      exact I.fd j m q q' hj hm (old j h1 e1) (old m h2 e2) h3 h4 h5 h6 hq hq' hb
theorem Tr.flat (T : Tr P ops Nt s0 F H N fid A K WT Hend) (k : Nat) (m : Nat) (hkm : k ≤ m) (hm : m ≤ ops.size) (hne : ∀ c, k ≤ c → c < m → ¬ (K c).isEff) : H m = H k ∧ N m = N k := by
  induction m with
  | zero =>
    have : k = 0 := by omega
    subst this
    exact ⟨rfl, rfl⟩
  | succ m ih =>
    by_cases e : k = m + 1
    · subst e; exact ⟨rfl, rfl⟩
    · obtain ⟨h1, h2⟩ := ih (by omega) (by omega) fun c h1 h2 => hne c h1 (by omega)
      obtain ⟨g1, g2⟩ := T.same m (by omega) (hne m (by omega) (Nat.lt_succ_self m))
      exact ⟨g1.trans h1, g2.trans h2⟩
theorem Tr.nle (T : Tr P ops Nt s0 F H N fid A K WT Hend) : ∀ m, m ≤ ops.size → N 0 ≤ N m
  | 0, _ => Nat.le_refl _
  | m + 1, h => Nat.le_trans (T.nle m (by omega)) (T.nm m (by omega))
theorem Kd.new_some {k : Kd} (h : k.isNew) : ∃ r j, k = .new r j := by
  cases k with
  | new r j => exact ⟨r, j, rfl⟩
  | _ => exact h.elim
theorem Kd.eff_some {k : Kd} (h : k.isEff) : ∃ r, k = .eff r := by
  cases k with
  | eff r => exact ⟨r, rfl⟩
  | _ => exact h.elim
/-- One with effects. -/
theorem Inv.effs (T : Tr P ops Nt s0 F H N fid A K WT Hend) (I : Inv P ops Nt s0 H N fid A K ρ0 a0 w0 lst a w ρ κ) {i : Nat} {o : Oper} (ho : ops[i]? = some o) (hun : ¬ lst i) (hl : ∀ j, lst' j ↔ lst j ∨ j = i) {Hm : Ev.T Row} (hk : K i = .eff Hm) (hF : FO ρ (F i) a o) (hdep : ∀ j, Wp ops i j → lst j)
    (Q : Exit → Act → World → Prop) (KK : Act → World → Prop) (hK : ∀ v w' ρ' κ', Inv P ops Nt s0 H N fid A K ρ0 a0 w0 lst' (a.put o.dst v) w' ρ' κ' → KK (a.put o.dst v) w') : o.wp P a w KK Q := by
  have hi := at_size ho
  have heff : (K i).isEff := by rw [hk]; trivial
  have hnn : ¬ (K i).isNew := by rw [hk]; exact fun h => h
  have hki : κ ≤ i := Nat.le_of_not_lt fun h => hun ((I.ke i hi heff).2 h)
  have hlow : ∀ c, c < i → (K c).isEff → c < κ := fun c hc hkc => (I.ke c (by omega) hkc).1 (hdep c (T.chain c i hc hi hkc heff))
  obtain ⟨eH, eN⟩ := T.flat κ i hki (Nat.le_of_lt hi) fun c h1 h2 h3 => absurd (hlow c h2 h3) (by omega)
  obtain ⟨E, hE⟩ : ∃ E : Nat → Row → Prop, E = fun id r => ∃ j k, j < i ∧ K j = .new r k ∧ Wp ops i j ∧ (∀ c', c' < i → (K c').isEff → ¬ Wp ops c' j) ∧ fid j = id := ⟨_, rfl⟩
  have hm : ∀ id r, Hm.get id = some r → r ≠ .dead → (⟨H κ, N κ⟩ : S).h.get id = some r ∨ E id r := fun id r h1 h2 => by
    rw [hE]
    have := T.mg i Hm hi hk id r h1 h2
    rw [eH] at this
    exact this
  have he : ∀ id r, E id r → ∃ p, ρ id = some p ∧ RowAt ρ w p r ∧ ¬ Own ρ ⟨H κ, N κ⟩ p.b ∧ w0.heap.size ≤ p.b := fun id r h => by
    rw [hE] at h
    obtain ⟨j, k, h1, h2, h3, h4, rfl⟩ := h
    exact I.fl j r k (by omega) (hdep j h3) h2 fun c hc => h4 c (by omega)
  have hd : ∀ i' j' r q p p', E i' r → E j' q → ρ i' = some p → ρ j' = some p' → p.b = p'.b → i' = j' := fun i' j' r q p p' h h' hp hp' hb => by
    rw [hE] at h h'
    obtain ⟨j, k, h1, h2, h3, h4, rfl⟩ := h
    obtain ⟨m, k', g1, g2, g3, g4, rfl⟩ := h'
    rw [I.fd j m p p' (by omega) (by omega) (hdep j h3) (hdep m g3) (by rw [h2]; trivial) (by rw [g2]; trivial) (fun c hc => h4 c (by omega)) (fun c hc => g4 c (by omega)) hp hp' hb]
  have hrel : Rel ρ ⟨Hm, N i⟩ w := I.rel.merge (Nat.le_of_eq eN.symm) E hm (fun id r h => by obtain ⟨p, h1, h2, h3, _⟩ := he id r h; exact ⟨p, h1, h2, h3⟩) hd
  have hom : ∀ b, Own ρ ⟨Hm, N i⟩ b → Own ρ ⟨H κ, N κ⟩ b ∨ ∃ id r p, E id r ∧ ρ id = some p ∧ p.b = b := fun b h => Own.of_merge hm h
  have hlow0 : ∀ b, b < w0.heap.size → Own ρ ⟨Hm, N i⟩ b → Own ρ0 s0 b := fun b hb h => by
    rcases hom b h with h | ⟨id, r, p, h1, h2, h3⟩
    · exact I.own b hb h
    · obtain ⟨q, q1, _, _, q4⟩ := he id r h1
      rw [h2] at q1
      injection q1 with q1
      subst q1
      omega
  have hgm : ∀ g, g < 1000 → Hm.get g = s0.h.get g := fun g hg => by rw [T.gm i Hm hi hk g hg, eH]; exact I.gh g hg
  refine T.eff i o Hm ho hk ρ a w hF hrel Q KK fun v ρ' w' hv G => hK v w' ρ' (i + 1) ?_
  obtain ⟨g1, g2, g3, g4⟩ := I.puts T G.ext ho hun hl hv
  have old : ∀ j, lst' j → (K j).isNew → lst j := fun j hj hkj => by
    rcases (hl j).1 hj with h | h
    · exact h
    · rw [h] at hkj; exact absurd hkj hnn
  have fl : ∀ j row k, j < ops.size → lst' j → K j = .new row k → (∀ c, c < i + 1 → (K c).isEff → ¬ Wp ops c j) → ∃ p, ρ (fid j) = some p ∧ ρ' (fid j) = some p ∧ RowAt ρ' w' p row ∧ ¬ Own ρ' ⟨H (i + 1), N (i + 1)⟩ p.b ∧ w0.heap.size ≤ p.b := fun j row k hj h1 h2 h3 => by
    have hnj : (K j).isNew := by rw [h2]; trivial
    have hlj := old j h1 hnj
    obtain ⟨p, p1, p2, p3, p4⟩ := I.fl j row k hj hlj h2 fun c hc => h3 c (by omega)
    have hno : ¬ Own ρ ⟨Hm, N i⟩ p.b := fun ho => by
      rcases hom p.b ho with h | ⟨id, r, q, h4, h5, h6⟩
      · exact p3 h
      · rw [hE] at h4
        obtain ⟨m, km, m1, m2, m3, m4, rfl⟩ := h4
        have := I.fd m j q p (by omega) hj (hdep m m3) hlj (by rw [m2]; trivial) hnj (fun c hc => m4 c (by omega)) (fun c hc => h3 c (by omega)) h5 p1 h6
        subst this
        exact h3 i (Nat.lt_succ_self i) heff m3
    have hlt := p2.lt
    exact ⟨p, p1, G.ext _ _ p1, p2.keep G.ext (G.keep _ hlt hno), fun ho => hno (G.own _ hlt ho), p4⟩
  refine ⟨fun j q hq => G.ext j q (I.ext j q hq), fun j q hq => ?_, hi, .inr ⟨i, rfl, heff⟩, fun c hc hkc => ?_, G.rel, fun j row k hj h1 h2 h3 => ?_, fun j m p q hj hm' h1 h2 h3 h4 h5 h6 hp hq hb => ?_, g1, g2, g3, g4, Nat.le_trans I.size G.size, G.os.trans I.os, G.tape.trans I.tape, G.output.trans I.output, fun b hb ho => hlow0 b hb (G.own b (Nat.lt_of_lt_of_le hb I.size) ho), fun b hb ho => (G.keep b (Nat.lt_of_lt_of_le hb I.size) fun h => ho (hlow0 b hb h)).trans (I.keep b hb ho), fun g hg => (G.gh g hg).trans (hgm g hg), fun g r hg hr hd => (G.gk g r hg ((hgm g hg).trans hr) hd).trans (I.gk g r hg hr hd)⟩
  · rcases G.fresh j q hq with h | h
    · rcases I.dom j q h with h | ⟨h1, h2, m, h3, h4, h5, h6⟩ | h
      · exact .inl h
      · exact .inr (.inl ⟨h1, h2, m, h3, (hl m).2 (.inl h4), h5, h6⟩)
      · exact .inr (.inr h)
    · exact .inr (.inr (Nat.le_trans (T.nle i (Nat.le_of_lt hi)) h))
  · rw [hl c]
    constructor
    · rintro (h | rfl)
      · have := (I.ke c hc hkc).1 h; omega
      · exact Nat.lt_succ_self c
    · intro h
      rcases Nat.lt_succ_iff_lt_or_eq.1 h with h | h
      · exact .inl ((I.ke c hc hkc).2 (hlow c h hkc))
      · exact .inr h
  · obtain ⟨p, _, p2, p3, p4, p5⟩ := fl j row k hj h1 h2 h3
    exact ⟨p, p2, p3, p4, p5⟩
  · obtain ⟨r1, k1, e1⟩ := Kd.new_some h3
    obtain ⟨r2, k2, e2⟩ := Kd.new_some h4
    obtain ⟨p', a1, a2, _⟩ := fl j r1 k1 hj h1 e1 h5
    obtain ⟨q', b1, b2, _⟩ := fl m r2 k2 hm' h2 e2 h6
    rw [hp] at a2
    rw [hq] at b2
    injection a2 with a2
    injection b2 with b2
    subst a2 b2
    exact I.fd j m p q hj hm' (old j h1 h3) (old m h2 h4) h3 h4 (fun c hc => h5 c (by omega)) (fun c hc => h6 c (by omega)) a1 b1 hb
/-- All are done. -/
theorem Inv.fin (T : Tr P ops Nt s0 F H N fid A K WT Hend) (I : Inv P ops Nt s0 H N fid A K ρ0 a0 w0 lst a w ρ κ) (h0 : ∀ t v, (F 0).get t = some v → RV ρ0 v (slot a0 t)) (hall : ∀ j, j < ops.size → lst j) : FR Nt ρ (F ops.size) a ∧ Goes ρ0 s0 w0 ρ ⟨Hend, N ops.size⟩ w := by
  obtain ⟨eH, eN⟩ := T.flat κ ops.size I.kn (Nat.le_refl _) fun c h1 h2 h3 => absurd ((I.ke c h2 h3).1 (hall c h2)) (by omega)
  have hle := T.nle ops.size (Nat.le_refl _)
  have hn0 := T.n0
  obtain ⟨E, hE⟩ : ∃ E : Nat → Row → Prop, E = fun id r => ∃ j k, j < ops.size ∧ K j = .new r k ∧ (∀ c', c' < ops.size → (K c').isEff → ¬ Wp ops c' j) ∧ fid j = id := ⟨_, rfl⟩
  have hm : ∀ id r, Hend.get id = some r → r ≠ .dead → (⟨H κ, N κ⟩ : S).h.get id = some r ∨ E id r := fun id r h1 h2 => by
    rw [hE]
    have := T.me id r h1 h2
    rw [eH] at this
    exact this
  have hkn := I.kn
  have he : ∀ id r, E id r → ∃ p, ρ id = some p ∧ RowAt ρ w p r ∧ ¬ Own ρ ⟨H κ, N κ⟩ p.b ∧ w0.heap.size ≤ p.b := fun id r h => by
    rw [hE] at h
    obtain ⟨j, k, h1, h2, h4, rfl⟩ := h
    exact I.fl j r k h1 (hall j h1) h2 fun c hc => h4 c (by omega)
  have hd : ∀ i' j' r q p p', E i' r → E j' q → ρ i' = some p → ρ j' = some p' → p.b = p'.b → i' = j' := fun i' j' r q p p' h h' hp hp' hb => by
    rw [hE] at h h'
    obtain ⟨j, k, h1, h2, h4, rfl⟩ := h
    obtain ⟨m, k', g1, g2, g4, rfl⟩ := h'
    rw [I.fd j m p p' h1 g1 (hall j h1) (hall m g1) (by rw [h2]; trivial) (by rw [g2]; trivial) (fun c hc => h4 c (by omega)) (fun c hc => g4 c (by omega)) hp hp' hb]
  have hrel : Rel ρ ⟨Hend, N ops.size⟩ w := I.rel.merge (Nat.le_of_eq eN.symm) E hm (fun id r h => by obtain ⟨p, h1, h2, h3, _⟩ := he id r h; exact ⟨p, h1, h2, h3⟩) hd
  refine ⟨⟨I.sz, I.df, fun t v hv => ?_⟩, ⟨I.ext, Nat.le_trans hn0 hle, I.size, I.os, I.tape, I.output, fun b hb ho => ?_, I.keep, hrel, fun i p hp => ?_, fun g hg => by show Hend.get g = _; rw [T.ge g hg, eH]; exact I.gh g hg, I.gk⟩⟩
  · rcases T.frame ops.size (Nat.le_refl _) hv with ⟨j, o, hj, ho, hd', rfl⟩ | ⟨hn, hv⟩
    · exact I.val j o t (hall j hj) ho hd'
    · rw [I.un t fun j o _ ho => hn j o (at_size ho) ho]
      exact RV.mono I.ext _ _ (h0 t v hv)
  · rcases Own.of_merge hm ho with h | ⟨id, r, p, h1, h2, h3⟩
    · exact I.own b hb h
    · obtain ⟨q, q1, _, _, q4⟩ := he id r h1
      rw [h2] at q1
      injection q1 with q1
      subst q1
      omega
  · rcases I.dom i p hp with h | ⟨h1, _⟩ | h
    · exact .inl h
    · exact .inr h1
    · exact .inr (Nat.le_trans hn0 h)
theorem some_ready (hr : ROk ops Nt) {listed : Array Bool} (hsz : listed.size = ops.size) : ∀ (k i : Nat), i = k → i < ops.size → listed.getD i false = false → Region.ready .any ops listed ≠ [] := by
  intro k
  induction k using Nat.strongRecOn with
  | _ k ih =>
    intro i hk hn hun
    subst hk
    obtain ⟨o, ho⟩ := size_at hn
    by_cases hall : ∀ e ∈ o.after, Region.binds .any e = true → listed.getD e.on false = true
    · intro h0
      have : i ∈ Region.ready .any ops listed := mem_ready.2 ⟨by rw [getD_true_false (by rw [hsz]; exact hn)]; exact hun, o, ho, hall⟩
      rw [h0] at this
      cases this
    · have : ∃ e ∈ o.after, Region.binds .any e = true ∧ listed.getD e.on false ≠ true := by
        apply Classical.byContradiction
        intro hno
        exact hall fun e he hb => Classical.byContradiction fun hc => hno ⟨e, he, hb, hc⟩
      obtain ⟨e, he, hb, hc⟩ := this
      have hlt := hr.back i o ho e he hb
      exact ih e.on hlt e.on rfl (by omega) (by simpa using hc)
theorem any_all (T : Tr P ops Nt s0 F H N fid A K WT Hend) (h0 : ∀ t v, (F 0).get t = some v → RV ρ0 v (slot a0 t)) (hlo : 1000 ≤ s0.nx) (hdom0 : ∀ j p, ρ0 j = some p → j < s0.nx)
    (hQ : ∀ a w ρ, FR Nt ρ (F ops.size) a → Goes ρ0 s0 w0 ρ ⟨Hend, N ops.size⟩ w → Q .normal a w) :
    ∀ (k : Nat) (listed : Array Bool) (a : Act) (w : World) (ρ : Rho) (κ : Nat), open_ 0 ops.size listed = k → listed.size = ops.size → (∀ i j, listed.getD i false = true → waits ops i j = true → listed.getD j false = true) →
      Inv P ops Nt s0 H N fid A K ρ0 a0 w0 (fun j => listed.getD j false = true) a w ρ κ → wpAny P .any ops Q k listed a w := by
  intro k
  induction k with
  | zero =>
    intro listed a w ρ κ hk hsz hcl I
    have hall := open_zero hk
    refine ⟨?_, ?_⟩
    · rw [List.eq_nil_iff_forall_not_mem]
      intro i hi
      obtain ⟨h1, o, ho, _⟩ := mem_ready.1 hi
      rw [getD_true_false (by rw [hsz]; exact at_size ho), hall i (Nat.zero_le _) (at_size ho)] at h1
      cases h1
    · obtain ⟨g1, g2⟩ := I.fin T h0 fun j hj => hall j (Nat.zero_le _) hj
      exact hQ a w ρ g1 g2
  | succ k ih =>
    intro listed a w ρ κ hk hsz hcl I
    have hex : ∃ i, i < ops.size ∧ listed.getD i false = false := by
      apply Classical.byContradiction
      intro hno
      have : open_ 0 ops.size listed = 0 := by
        unfold open_
        rw [List.filter_eq_nil_iff.2, List.length_nil]
        intro j hj hc
        simp only [Bool.and_eq_true, decide_eq_true_eq, Bool.not_eq_true'] at hc
        exact hno ⟨j, List.mem_range.1 hj, hc.2⟩
      omega
    obtain ⟨i0, hn0, hun0⟩ := hex
    refine ⟨fun h0 => absurd h0 (some_ready T.rok hsz i0 i0 rfl hn0 hun0), fun i hi => ?_⟩
    obtain ⟨h1, o, ho, hdep⟩ := mem_ready.1 hi
    have hn := at_size ho
    have hil : i < listed.size := by rw [hsz]; exact hn
    rw [getD_true_false hil] at h1
    have hop : open_ 0 ops.size (listed.setIfInBounds i true) = k := by
      have := open_set (Nat.zero_le i) hn hil h1
      omega
    have hl : ∀ j, (listed.setIfInBounds i true).getD j false = true ↔ listed.getD j false = true ∨ j = i := fun j => by
      by_cases e : j = i
      · subst e
        simp [getD_set_self hil]
      · rw [getD_set_other (Ne.symm e)]
        simp [e]
    have hdep' : ∀ j, waits ops i j = true → listed.getD j false = true := fun j hj => by
      obtain ⟨e, he, hb, rfl⟩ := waits_spec ho hj
      exact hdep e he hb
    have hun : ¬ listed.getD i false = true := by rw [h1]; exact Bool.false_ne_true
    have hcl' : ∀ m j, (listed.setIfInBounds i true).getD m false = true → waits ops m j = true → (listed.setIfInBounds i true).getD j false = true := fun m j hm hw => by
      rw [hl] at hm ⊢
      rcases hm with hm | rfl
      · exact .inl (hcl m j hm hw)
      · exact .inl (hdep' j hw)
    have hwp : ∀ j, Wp ops i j → listed.getD j false = true := fun j hj => hj.listed (lst := fun j => listed.getD j false = true) hcl hdep'
    have hwpl : ∀ c j, listed.getD c false = true → Wp ops c j → listed.getD j false = true := fun c j hc hj => hj.listed (lst := fun j => listed.getD j false = true) hcl fun j hj => hcl c j hc hj
    have go : ∀ a' w' ρ' κ', Inv P ops Nt s0 H N fid A K ρ0 a0 w0 (fun j => (listed.setIfInBounds i true).getD j false = true) a' w' ρ' κ' → wpAny P .any ops Q k (listed.setIfInBounds i true) a' w' := fun a' w' ρ' κ' I' => ih _ a' w' ρ' κ' hop (by simpa using hsz) hcl' I'
    have hlk := I.looks T h0 ho hdep' hun hwpl
    have hwt := T.want i o ρ a ho I.sz hlk
    have hF := I.fo T h0 ho hdep' hun hwpl
    unfold wpOp
    rw [ho]
    simp only
    rw [hwt]
    cases hW : WT i with
    | false =>
      obtain ⟨hk1, hk2⟩ := T.no i o ho hW
      rw [if_neg Bool.false_ne_true]
      exact go _ _ ρ κ (I.still T ho hun hl (by rw [hk1]; exact fun h => h) (by rw [hk1]; exact fun h => h) (by rw [hk2]; exact rfl))
    | true =>
      rw [if_pos rfl]
      refine .inl ?_
      cases hK : K i with
      | quiet =>
        obtain ⟨v, g1, g2⟩ := T.quiet i o ho hK hW ρ a hF
        unfold Oper.wp
        rw [g1 w]
        exact go _ _ ρ κ (I.still T ho hun hl (by rw [hK]; exact fun h => h) (by rw [hK]; exact fun h => h) g2)
      | load =>
        obtain ⟨v, g1, g2⟩ := T.load i o ho hK κ ρ a w I.k0 I.kn (fun c hc he hw => (I.ke c hc he).1 (hwp c hw)) (fun c he hc hw => hun (hwpl c i ((I.ke c (Nat.lt_of_lt_of_le hc I.kn) he).2 hc) hw)) hF I.rel
        unfold Oper.wp
        rw [g1]
        exact go _ _ ρ κ (I.still T ho hun hl (by rw [hK]; exact fun h => h) (by rw [hK]; exact fun h => h) g2)
      | new row nk =>
        obtain ⟨g1, g2⟩ := T.new i o row nk ho hK
        obtain ⟨v, w', ρ', g3, g4⟩ := I.lays T ho hun hl hK g1 hlo hdom0 (g2 ρ a hF w) (fun c he hw hc => hun (hwpl c i ((I.ke c (Nat.lt_of_lt_of_le hc I.kn) he).2 hc) hw))
        unfold Oper.wp
        rw [g3]
        exact go _ _ ρ' κ g4
      | eff Hm =>
        exact I.effs T ho hun hl hK hF hwp Q _ fun v w' ρ' κ' I' => go _ _ ρ' κ' I'
/-- **A region that draws its order.** -/
theorem run_any (T : Tr P ops Nt s0 F H N fid A K WT Hend) (hR : Rel ρ0 s0 w0) (hF : FR Nt ρ0 (F 0) a0) (hQ : ∀ a w ρ, FR Nt ρ (F ops.size) a → Goes ρ0 s0 w0 ρ ⟨Hend, N ops.size⟩ w → Q .normal a w) :
    wpAny P .any ops Q ops.size (Array.replicate ops.size false) a0 w0 := by
  have hno : ∀ j, (Array.replicate ops.size false).getD j false = false := fun j => by
    simp only [Array.getD_eq_getD_getElem?, Array.getElem?_replicate]
    split <;> rfl
  have hno' : ∀ j, ¬ (Array.replicate ops.size false).getD j false = true := fun j => by rw [hno]; exact Bool.false_ne_true
  have hop : open_ 0 ops.size (Array.replicate ops.size false) = ops.size := by
    unfold open_
    rw [List.filter_eq_self.2 fun j hj => by rw [hno]; simp]
    simp
  refine any_all T hF.get hR.lo (fun j p hp => (hR.nx j p hp).1) hQ ops.size _ a0 w0 ρ0 0 hop (by simp) (fun i j h => absurd h (hno' i)) ?_
  have h0 : Rel ρ0 ⟨H 0, N 0⟩ w0 := hR.merge T.n0 (fun _ _ => False) (fun i r h _ => .inl (by rw [T.h0] at h; exact h)) (fun _ _ h => h.elim) (fun _ _ _ _ _ _ h => h.elim)
  refine ⟨fun _ _ h => h, fun _ _ h => .inl h, Nat.zero_le _, .inl rfl, fun c _ _ => ⟨fun h => absurd h (hno' c), fun h => absurd h (Nat.not_lt_zero c)⟩, h0, fun j _ _ _ h => absurd h (hno' j), fun i _ _ _ _ _ h => absurd h (hno' i), fun i _ _ h => absurd h (hno' i), fun _ _ => rfl, hF.size, hF.dfs, Nat.le_refl _, rfl, rfl, rfl, fun b _ ho => ?_, fun _ _ _ => rfl, fun g _ => by rw [T.h0], fun _ _ _ _ _ => rfl⟩
  rw [T.h0] at ho
  exact ho
end
end Go.Ev
