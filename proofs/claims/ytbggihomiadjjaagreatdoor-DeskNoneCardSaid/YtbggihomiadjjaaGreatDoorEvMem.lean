/- What is proved: what new rows, stores and loads make of the evaluator's memory and of the model's. -/
import Derived.Test.YtbggihomiadjjaaGreatDoorEvRel
set_option linter.unusedVariables false
set_option linter.unusedSimpArgs false
namespace Go.Ev
open Go Go.Fw

theorem RowAt.keep {ρ ρ' : Rho} {w w' : World} {p : Pl} {r : Row} (h : RowAt ρ w p r) (hx : ∀ i p, ρ i = some p → ρ' i = some p) (hb : w'.heap[p.b]? = w.heap[p.b]?) : RowAt ρ' w' p r := by
  cases r with
  | cells e room l =>
    obtain ⟨arr, et, fr, h1, h2, h3, h4, h5, h6⟩ := h
    refine ⟨arr, et, fr, hb.trans h1, h2, h3, h4, h5, fun k v hv => ?_⟩
    obtain ⟨g1, u, g2, g3⟩ := h6 k v hv
    exact ⟨g1, u, g2, RV.mono hx v u g3⟩
  | bytes e room n c =>
    obtain ⟨h0, arr, et, fr, h1, h⟩ := h
    exact ⟨h0, arr, et, fr, hb.trans h1, h⟩
  | dead => exact h
theorem RowAt.lt {ρ : Rho} {w : World} {p : Pl} {r : Row} (h : RowAt ρ w p r) : p.b < w.heap.size := by
  cases r with
  | cells e room l => obtain ⟨arr, et, fr, h1, _⟩ := h; exact (Array.getElem?_eq_some_iff.1 h1).1
  | bytes e room n c => obtain ⟨h0, arr, et, fr, h1, _⟩ := h; exact (Array.getElem?_eq_some_iff.1 h1).1
  | dead => exact h.elim
def Rho.set (ρ : Rho) (i : Nat) (p : Pl) : Rho := fun j => if j = i then some p else ρ j
theorem Rho.set_ext {ρ : Rho} {s : S} {w : World} (h : Rel ρ s w) (p : Pl) : ∀ i q, ρ i = some q → (ρ.set s.nx p) i = some q := fun i q hq => by
  have := (h.nx i q hq).1
  show (if i = s.nx then some p else ρ i) = _
  rw [if_neg (by omega)]
  exact hq
theorem Rel.glt {ρ : Rho} {s : S} {w : World} (h : Rel ρ s w) {g : Nat} {r : Row} (hg : g < 1000) (hr : s.h.get g = some r) (hd : r ≠ .dead) : g < w.heap.size := by
  obtain ⟨p, hp, hra⟩ := h.row g r hr hd
  obtain ⟨sz, hp'⟩ := h.gl g hg
  rw [hp] at hp'
  injection hp' with hp'
  subst hp'
  exact hra.lt
/-- A new row in a new block; all others are as they were. -/
theorem goes_new {ρ : Rho} {s : S} {w w' : World} {r : Row} {sz o : Nat} (h : Rel ρ s w) (hsz : w.heap.size < w'.heap.size) (hos : w'.os = w.os) (ht : w'.tape = w.tape) (hout : w'.output = w.output)
    (hk : ∀ b, b < w.heap.size → w'.heap[b]? = w.heap[b]?) (hr : ∀ ρ', (∀ i p, ρ i = some p → ρ' i = some p) → RowAt ρ' w' ⟨w.heap.size, o, sz⟩ r) : Goes ρ s w (ρ.set s.nx ⟨w.heap.size, o, sz⟩) ⟨s.h.set s.nx r, s.nx + 1⟩ w' := by
  have hx := Rho.set_ext h ⟨w.heap.size, o, sz⟩
  have hget : ∀ i q, (s.h.set s.nx r).get i = some q → (i = s.nx ∧ q = r) ∨ (i ≠ s.nx ∧ s.h.get i = some q) := fun i q hi => T.get_set hi
  have hset : (ρ.set s.nx ⟨w.heap.size, o, sz⟩) s.nx = some ⟨w.heap.size, o, sz⟩ := if_pos rfl
  have hne : ∀ i, i ≠ s.nx → (ρ.set s.nx ⟨w.heap.size, o, sz⟩) i = ρ i := fun i hi => if_neg hi
  have hlt : ∀ i q p, s.h.get i = some q → q ≠ .dead → ρ i = some p → p.b < w.heap.size := fun i q p hi hd hp => by
    obtain ⟨p', hp', hra⟩ := h.row i q hi hd
    rw [hp] at hp'
    injection hp' with hp'
    subst hp'
    exact hra.lt
  refine ⟨hx, by show s.nx ≤ s.nx + 1; omega, Nat.le_of_lt hsz, hos, ht, hout, fun b hb ho => ?_, fun b hb _ => hk b hb, ⟨fun i q hi hd => ?_, fun i j q q' p p' hi hd hj hd' hp hp' he => ?_, fun i p hp => ?_, fun g hg => ?_, by show 1000 ≤ s.nx + 1; have := h.lo; omega⟩, fun i p hp => by
    by_cases e : i = s.nx
    · exact .inr (Nat.le_of_eq e.symm)
    · rw [hne i e] at hp; exact .inl hp, fun g hg => T.get_set_ne _ _ (by have := h.lo; omega), fun g q hg hq hd => hk g (h.glt hg hq hd)⟩
  · obtain ⟨i, q, p, hi, hd, hp, he⟩ := ho
    rcases hget i q hi with ⟨e, _⟩ | ⟨e, hi'⟩
    · subst e
      rw [hset] at hp
      injection hp with hp
      rw [← hp] at he
      have he' : w.heap.size = b := he
      omega
    · rw [hne i e] at hp
      exact ⟨i, q, p, hi', hd, hp, he⟩
  · rcases hget i q hi with ⟨e, e'⟩ | ⟨e, hi'⟩
    · subst e e'
      exact ⟨_, hset, hr _ hx⟩
    · obtain ⟨p, hp, hra⟩ := h.row i q hi' hd
      exact ⟨p, hx i p hp, hra.keep hx (hk _ hra.lt)⟩
  · rcases hget i q hi with ⟨e, _⟩ | ⟨e, hi'⟩ <;> rcases hget j q' hj with ⟨e2, _⟩ | ⟨e2, hj'⟩
    · rw [e, e2]
    · subst e
      rw [hset] at hp
      injection hp with hp
      rw [hne j e2] at hp'
      have := hlt j q' p' hj' hd' hp'
      rw [← he, ← hp] at this
      exact absurd this (Nat.lt_irrefl _)
    · subst e2
      rw [hset] at hp'
      injection hp' with hp'
      rw [hne i e] at hp
      have := hlt i q p hi' hd hp
      rw [he, ← hp'] at this
      exact absurd this (Nat.lt_irrefl _)
    · rw [hne i e] at hp
      rw [hne j e2] at hp'
      exact h.inj i j q q' p p' hi' hd hj' hd' hp hp' he
  · by_cases e : i = s.nx
    · subst e
      rw [hset] at hp
      injection hp with hp
      rw [← hp]
      exact ⟨Nat.lt_succ_self _, fun _ => hsz⟩
    · rw [hne i e] at hp
      obtain ⟨h1, h2⟩ := h.nx i p hp
      exact ⟨Nat.lt_succ_of_lt h1, fun h3 => Nat.lt_trans (h2 h3) hsz⟩
  · obtain ⟨a, hab⟩ := h.gl g hg
    exact ⟨a, hx g _ hab⟩
/-- A row that is there turns, in its block. -/
theorem goes_put {ρ : Rho} {s : S} {w w' : World} {i : Nat} {r r' : Row} {p : Pl} (h : Rel ρ s w) (h1000 : 1000 ≤ i) (hi : s.h.get i = some r) (hd : r ≠ .dead) (hp : ρ i = some p) (hsz : w'.heap.size = w.heap.size) (hos : w'.os = w.os) (ht : w'.tape = w.tape) (hout : w'.output = w.output)
    (hk : ∀ b, b ≠ p.b → w'.heap[b]? = w.heap[b]?) (hr : r' ≠ .dead → RowAt ρ w' p r') : Goes ρ s w ρ ⟨s.h.set i r', s.nx⟩ w' := by
  have hget : ∀ j q, (s.h.set i r').get j = some q → (j = i ∧ q = r') ∨ (j ≠ i ∧ s.h.get j = some q) := fun j q hj => T.get_set hj
  refine ⟨fun _ _ h => h, Nat.le_refl _, Nat.le_of_eq hsz.symm, hos, ht, hout, fun b hb ho => ?_, fun b hb ho => hk b fun e => ho ⟨i, r, p, hi, hd, hp, e.symm⟩, ⟨fun j q hj hd' => ?_, fun j k q q' p1 p2 hj hdj hk' hdk hp1 hp2 he => ?_, fun j q hq => ?_, h.gl, h.lo⟩, fun _ _ h => .inl h, fun g hg => T.get_set_ne _ _ (by omega), fun g q hg hq hd' => hk g fun e => ?_⟩
  rotate_right
  · obtain ⟨sz, hpg⟩ := h.gl g hg
    have := h.inj g i q r _ p hq hd' hi hd hpg hp e
    omega
  · obtain ⟨j, q, p', hj, hd', hp', he⟩ := ho
    rcases hget j q hj with ⟨e, _⟩ | ⟨_, hj'⟩
    · subst e
      exact ⟨j, r, p', hi, hd, hp', he⟩
    · exact ⟨j, q, p', hj', hd', hp', he⟩
  · rcases hget j q hj with ⟨e, e'⟩ | ⟨e, hj'⟩
    · subst e e'
      exact ⟨p, hp, hr hd'⟩
    · obtain ⟨p', hp', hra⟩ := h.row j q hj' hd'
      refine ⟨p', hp', hra.keep (fun _ _ h => h) (hk _ fun e' => e ?_)⟩
      exact h.inj j i q r p' p hj' hd' hi hd hp' hp e'
  · have h1 : ∃ q, s.h.get j = some q ∧ q ≠ .dead := by
      rcases hget j q hj with ⟨e, _⟩ | ⟨_, hj'⟩
      · exact ⟨r, by rw [e]; exact hi, hd⟩
      · exact ⟨q, hj', hdj⟩
    have h2 : ∃ q, s.h.get k = some q ∧ q ≠ .dead := by
      rcases hget k q' hk' with ⟨e, _⟩ | ⟨_, hj'⟩
      · exact ⟨r, by rw [e]; exact hi, hd⟩
      · exact ⟨q', hj', hdk⟩
    obtain ⟨a, ha, had⟩ := h1
    obtain ⟨b, hb, hbd⟩ := h2
    exact h.inj j k a b p1 p2 ha had hb hbd hp1 hp2 he
  · obtain ⟨h1, h2⟩ := h.nx j q hq
    exact ⟨h1, fun h3 => by rw [hsz]; exact h2 h3⟩
/-- A row's block goes on under a new number. -/
theorem goes_move {ρ : Rho} {s : S} {w w' : World} {i : Nat} {r r' : Row} {p p2 : Pl} (h : Rel ρ s w) (h1000 : 1000 ≤ i) (hi : s.h.get i = some r) (hd : r ≠ .dead) (hp : ρ i = some p) (hb : p2.b = p.b) (hsz : w'.heap.size = w.heap.size) (hos : w'.os = w.os) (ht : w'.tape = w.tape) (hout : w'.output = w.output)
    (hk : ∀ b, b ≠ p.b → w'.heap[b]? = w.heap[b]?) (hr : ∀ ρ', (∀ i p, ρ i = some p → ρ' i = some p) → RowAt ρ' w' p2 r') : Goes ρ s w (ρ.set s.nx p2) ⟨(s.h.set i .dead).set s.nx r', s.nx + 1⟩ w' := by
  have hx := Rho.set_ext h p2
  have hilt := (h.nx i p hp).1
  have hget : ∀ j q, ((s.h.set i .dead).set s.nx r').get j = some q → q ≠ .dead → (j = s.nx ∧ q = r') ∨ (j ≠ s.nx ∧ j ≠ i ∧ s.h.get j = some q) := fun j q hj hdq => by
    rcases T.get_set hj with ⟨e, hq⟩ | ⟨e, hj⟩
    · exact .inl ⟨e, hq⟩
    · rcases T.get_set hj with ⟨_, hq⟩ | ⟨e', hj⟩
      · exact absurd hq hdq
      · exact .inr ⟨e, e', hj⟩
  have hset : (ρ.set s.nx p2) s.nx = some p2 := if_pos rfl
  have hne : ∀ i, i ≠ s.nx → (ρ.set s.nx p2) i = ρ i := fun i hi => if_neg hi
  obtain ⟨p', hp', hra⟩ := h.row i r hi hd
  rw [hp] at hp'
  injection hp' with hp'
  subst hp'
  have hplt := hra.lt
  refine ⟨hx, by show s.nx ≤ s.nx + 1; omega, Nat.le_of_eq hsz.symm, hos, ht, hout, fun b hb' ho => ?_, fun b hb' ho => hk b fun e => ho ⟨i, r, p, hi, hd, hp, e.symm⟩, ⟨fun j q hj hd' => ?_, fun j k q q' q1 q2 hj hdj hk' hdk hp1 hp2 he => ?_, fun j q hq => ?_, fun g hg => ?_, by show 1000 ≤ s.nx + 1; have := h.lo; omega⟩, fun j q hq => by
    by_cases e : j = s.nx
    · exact .inr (Nat.le_of_eq e.symm)
    · rw [hne j e] at hq; exact .inl hq, fun g hg => (T.get_set_ne _ _ (by have := h.lo; omega)).trans (T.get_set_ne _ _ (by omega)), fun g q hg hq hd' => hk g fun e => ?_⟩
  rotate_right
  · obtain ⟨sz, hpg⟩ := h.gl g hg
    have := h.inj g i q r _ p hq hd' hi hd hpg hp e
    omega
  · obtain ⟨j, q, p', hj, hd', hp', he⟩ := ho
    rcases hget j q hj hd' with ⟨e, _⟩ | ⟨e, _, hj'⟩
    · subst e
      rw [hset] at hp'
      injection hp' with hp'
      exact ⟨i, r, p, hi, hd, hp, by rw [← he, ← hp', hb]⟩
    · rw [hne j e] at hp'
      exact ⟨j, q, p', hj', hd', hp', he⟩
  · rcases hget j q hj hd' with ⟨e, e'⟩ | ⟨e, e2, hj'⟩
    · subst e e'
      exact ⟨p2, hset, hr _ hx⟩
    · obtain ⟨p', hp', hra'⟩ := h.row j q hj' hd'
      refine ⟨p', hx j p' hp', hra'.keep hx (hk _ fun e' => e2 ?_)⟩
      exact h.inj j i q r p' p hj' hd' hi hd hp' hp e'
  · rcases hget j q hj hdj with ⟨e, _⟩ | ⟨e, e2, hj'⟩ <;> rcases hget k q' hk' hdk with ⟨f, _⟩ | ⟨f, f2, hk''⟩
    · rw [e, f]
    · subst e
      rw [hset] at hp1
      injection hp1 with hp1
      rw [hne k f] at hp2
      exact absurd (h.inj k i q' r q2 p hk'' hdk hi hd hp2 hp (by rw [← he, ← hp1, hb])) f2
    · subst f
      rw [hset] at hp2
      injection hp2 with hp2
      rw [hne j e] at hp1
      exact absurd (h.inj j i q r q1 p hj' hdj hi hd hp1 hp (by rw [he, ← hp2, hb])) e2
    · rw [hne j e] at hp1
      rw [hne k f] at hp2
      exact h.inj j k q q' q1 q2 hj' hdj hk'' hdk hp1 hp2 he
  · by_cases e : j = s.nx
    · subst e
      rw [hset] at hq
      injection hq with hq
      rw [← hq, hb, hsz]
      exact ⟨Nat.lt_succ_self _, fun _ => hplt⟩
    · rw [hne j e] at hq
      obtain ⟨h1, h2⟩ := h.nx j q hq
      exact ⟨Nat.lt_succ_of_lt h1, fun h3 => by rw [hsz]; exact h2 h3⟩
  · obtain ⟨a, hab⟩ := h.gl g hg
    exact ⟨a, hx g _ hab⟩

/-! ### Reads -/
theorem cell_of {w : World} {b k : Nat} {arr : Array Value} {et : TypeId} {fr : Nat × Nat} (h : w.heap[b]? = some (.cells arr et fr)) : w.cell? ⟨b, k, none⟩ = arr[k]? := by
  simp [World.cell?, h]
theorem RV.u8 {ρ : Rho} {c i : Nat} : RV ρ (.int .u8 (.ofNat (bAt c i))) (vU (UInt8.ofNat (bAt c i))) := by
  show vU _ = _
  unfold vU
  rw [UInt8.toNat_ofNat', Nat.mod_eq_of_lt (bAt_lt c i)]
  rfl
theorem RowAt.cell {ρ : Rho} {w : World} {p : Pl} {r : Row} (h : RowAt ρ w p r) {o : Nat} {v : AV} (hv : readCell r o = some v) : ∃ u, w.cell? ⟨p.b, p.o + o, none⟩ = some u ∧ RV ρ v u ∧ v.one = true := by
  cases r with
  | cells e room l =>
    obtain ⟨arr, et, fr, h1, h2, h3, h4, h5, h6⟩ := h
    rw [readCell, nth_eq] at hv
    obtain ⟨g1, u, g2, g3⟩ := h6 o v hv
    exact ⟨u, by rw [cell_of h1]; exact g2, g3, g1⟩
  | bytes e room n c =>
    obtain ⟨h0, arr, et, fr, h1, h2, h3, h4, h5, h6⟩ := h
    rw [readCell, cblt] at hv
    split at hv
    · rename_i ho
      injection hv with hv
      subst hv
      exact ⟨_, by rw [cell_of h1]; exact h6 o _ (byL_get n c o ho), RV.u8, rfl⟩
    · cases hv
  | dead => exact h.elim
theorem allOne_mem : ∀ {l : List AV}, allOne l = true → ∀ x ∈ l, x.one = true
  | [], _, x, hx => by cases hx
  | y :: l, h, x, hx => by
    rw [allOne] at h
    cases ho : y.one with
    | false => rw [ho] at h; cases h
    | true =>
      rw [ho] at h
      cases hx with
      | head => exact ho
      | tail _ hx => exact allOne_mem h x hx
theorem allOne_of : ∀ {l : List AV}, (∀ x ∈ l, x.one = true) → allOne l = true
  | [], _ => rfl
  | y :: l, h => by
    rw [allOne, h y List.mem_cons_self]
    exact allOne_of fun x hx => h x (List.mem_cons_of_mem _ hx)
theorem RowAt.cells_ {ρ : Rho} {w : World} {p : Pl} {r : Row} (h : RowAt ρ w p r) {o n : Nat} {v : AV} (hv : readRow r o n = some v) : ∃ vs : List Value, vs.length = n ∧ (∀ j u, vs[j]? = some u → w.cell? ⟨p.b, p.o + o + j, none⟩ = some u) ∧ RV ρ v (.agg vs.toArray) := by
  cases r with
  | cells e room l =>
    obtain ⟨arr, et, fr, h1, h2, h3, h4, h5, h6⟩ := h
    simp only [readRow, dropL_eq, Option.bind_eq_some_iff] at hv
    obtain ⟨q, hq, hv⟩ := hv
    obtain ⟨rfl, hl⟩ := takeL_some _ _ _ hq
    injection hv with hv
    subst hv
    rw [List.length_drop] at hl
    have hat : ∀ j, j < n → ∃ x u, l[o + j]? = some x ∧ x.one = true ∧ arr[p.o + o + j]? = some u ∧ RV ρ x u := fun j hj => by
      have hlt : o + j < l.length := by omega
      obtain ⟨g1, u, g2, g3⟩ := h6 (o + j) _ (List.getElem?_eq_getElem hlt)
      exact ⟨_, u, List.getElem?_eq_getElem hlt, g1, by rw [show p.o + o + j = p.o + (o + j) by omega]; exact g2, g3⟩
    refine ⟨((arr.toList.drop (p.o + o)).take n), ?_, fun j u hj => ?_, _, rfl, RVs.mk ?_ fun j x hj => ?_, allOne_of fun x hx => ?_⟩
    · rw [List.length_take, List.length_drop, Array.length_toList, h2]
      omega
    · rw [cell_of h1]
      rw [List.getElem?_take, List.getElem?_drop] at hj
      split at hj
      · rw [← Array.getElem?_toList]
        exact hj
      · cases hj
    · simp only [List.length_take, List.length_drop, Array.length_toList, h2]
      omega
    · rw [List.getElem?_take, List.getElem?_drop] at hj
      split at hj
      · rename_i hjn
        obtain ⟨x', u, g1, g2, g3, g4⟩ := hat j hjn
        rw [g1] at hj
        injection hj with hj
        subst hj
        refine ⟨u, ?_, g4⟩
        simp only [List.getElem?_take, List.getElem?_drop, if_pos hjn]
        rw [Array.getElem?_toList]
        exact g3
      · cases hj
    · obtain ⟨j, hj⟩ := List.getElem?_of_mem hx
      rw [List.getElem?_take, List.getElem?_drop] at hj
      split at hj
      · rename_i hjn
        obtain ⟨x', u, g1, g2, g3, g4⟩ := hat j hjn
        rw [g1] at hj
        injection hj with hj
        subst hj
        exact g2
      · cases hj
  | bytes e room m c =>
    obtain ⟨h0, arr, et, fr, h1, h2, h3, h4, h5, h6⟩ := h
    rw [readRow, cble] at hv
    split at hv
    · rename_i ho
      have ho' : o + n ≤ m := ho
      injection hv with hv
      subst hv
      refine ⟨(byL n (bSub c o n)).map vU, by rw [List.length_map, byL_len], fun j u hj => ?_, ?_⟩
      · rw [cell_of h1]
        rw [List.getElem?_map, Option.map_eq_some_iff] at hj
        obtain ⟨x, hx, rfl⟩ := hj
        rw [byL_sub ho', List.getElem?_take, List.getElem?_drop] at hx
        split at hx
        · rw [show p.o + o + j = p.o + (o + j) by omega]
          exact h6 (o + j) x hx
        · cases hx
      · exact ⟨rfl, bSub_lt c o n⟩
    · cases hv
  | dead => exact h.elim

/-! ### Writes -/
theorem setCells_heap (b : Nat) : ∀ (vs : List Value) (o : Nat) (w : World) (arr : Array Value) (et : TypeId) (fr : Nat × Nat), w.heap[b]? = some (.cells arr et fr) →
    ∃ arr', (w.setCells b o vs).heap[b]? = some (.cells arr' et fr) ∧ arr'.size = arr.size ∧ (∀ k, arr'[k]? = if o ≤ k ∧ k < o + vs.length ∧ k < arr.size then vs[k - o]? else arr[k]?) ∧
      (∀ c, c ≠ b → (w.setCells b o vs).heap[c]? = w.heap[c]?) ∧ (w.setCells b o vs).heap.size = w.heap.size ∧ (w.setCells b o vs).os = w.os ∧ (w.setCells b o vs).tape = w.tape ∧ (w.setCells b o vs).output = w.output
  | [], o, w, arr, et, fr, h => ⟨arr, h, rfl, fun k => by rw [if_neg (by simp; omega)], fun _ _ => rfl, rfl, rfl, rfl, rfl⟩
  | v :: vs, o, w, arr, et, fr, h => by
    have hlt := (Array.getElem?_eq_some_iff.1 h).1
    have h1 : (w.setCell ⟨b, o, none⟩ v).heap[b]? = some (.cells (arr.setIfInBounds o v) et fr) := by
      simp only [World.setCell, Array.getElem?_modify, h]
      simp
    obtain ⟨arr', g1, g2, g3, g4, g5, g6, g7, g8⟩ := setCells_heap b vs (o + 1) (w.setCell ⟨b, o, none⟩ v) _ et fr h1
    rw [World.setCells]
    refine ⟨arr', g1, by rw [g2]; simp, fun k => ?_, fun c hc => ?_, by rw [g5]; simp [World.setCell], by rw [g6]; rfl, by rw [g7]; rfl, by rw [g8]; rfl⟩
    · rw [g3 k]
      simp only [Array.size_setIfInBounds, List.length_cons]
      by_cases hk : k = o
      · subst hk
        rw [if_neg (by omega)]
        by_cases hks : k < arr.size
        · rw [if_pos ⟨Nat.le_refl _, by omega, hks⟩]
          simp [Array.getElem?_setIfInBounds, hks]
        · rw [if_neg (by omega)]
          rw [Array.getElem?_setIfInBounds, if_pos rfl, if_neg hks, Array.getElem?_eq_none (by omega)]
      · by_cases hin : o + 1 ≤ k ∧ k < o + 1 + vs.length ∧ k < arr.size
        · rw [if_pos hin, if_pos ⟨by omega, by omega, hin.2.2⟩, show k - o = (k - (o + 1)) + 1 by omega, List.getElem?_cons_succ]
        · rw [if_neg hin, if_neg (by omega), Array.getElem?_setIfInBounds, if_neg (fun e => hk e.symm)]
    · rw [g4 c hc]
      simp only [World.setCell, Array.getElem?_modify]
      rw [if_neg (fun e => hc e.symm)]

end Go.Ev
