/- What is proved: one lemma for each kind of operation of the model: what it yields, frames being lists of pairs ('Fr') and the world a list of known blocks ('St'). Over any program. -/
import Derived.Test.YtbggihomiadjjaaGreatDoorFwRegion
set_option linter.unusedVariables false
set_option linter.unusedSimpArgs false
namespace Go.Fw
open Go Go.RowKit

/-! ### Frames -/
def look (t : Nat) : List (Nat × Value) → Option Value
  | [] => none
  | (k, v) :: l => bif Nat.beq t k then some v else look t l

structure Fr (N : Nat) (a : Act) (m : List (Nat × Value)) : Prop where
  size : a.tmps.size = N
  dfs : a.defers = []
  get : ∀ t v, look t m = some v → slot a t = v

theorem look_cons_ne {t d : Nat} {v : Value} {m : List (Nat × Value)} (h : t ≠ d) : look t ((d, v) :: m) = look t m := by
  have : Nat.beq t d = false := by
    cases hb : Nat.beq t d with
    | false => rfl
    | true => exact absurd (Nat.eq_of_beq_eq_true hb) h
  simp [look, this]
theorem look_cons_eq {d : Nat} {v : Value} {m : List (Nat × Value)} : look d ((d, v) :: m) = some v := by
  simp [look]

section
variable {N : Nat} {a : Act} {m : List (Nat × Value)}
theorem Fr.put (h : Fr N a m) {d : Nat} (v : Value) (hd : Nat.blt d N = true) : Fr N (a.put (some d) v) ((d, v) :: m) := by
  refine ⟨by rw [put_size]; exact h.size, by rw [put_defers]; exact h.dfs, fun t u ht => ?_⟩
  by_cases htd : t = d
  · subst htd
    rw [look_cons_eq] at ht
    injection ht with ht
    rw [slot_put_same v (by rw [h.size]; simpa using hd), ht]
  · rw [look_cons_ne htd] at ht
    rw [slot_put_ne v (by simp only [ne_eq, Option.some.injEq]; exact fun e => htd e.symm)]
    exact h.get t u ht
theorem ev_const (a : Act) (v : Value) : a.eval (.const v) = v := rfl
theorem Fr.t (h : Fr N a m) {t : Nat} {v : Value} (hl : look t m = some v) : a.eval (.tmp t) = v := h.get t v hl
/-- What is asked of a frame: pairs, each of which the other one holds. -/
def Sub : List (Nat × Value) → List (Nat × Value) → Prop
  | [], _ => True
  | (k, v) :: l, m => look k m = some v ∧ Sub l m
theorem Fr.sub (h : Fr N a m) {m' : List (Nat × Value)} (hs : Sub m' m) : Fr N a m' := by
  refine ⟨h.size, h.dfs, fun t v ht => ?_⟩
  induction m' with
  | nil => cases ht
  | cons p l ih =>
    obtain ⟨h1, h2⟩ := hs
    obtain ⟨d, u⟩ := p
    by_cases htd : t = d
    · subst htd
      rw [look_cons_eq] at ht
      injection ht with ht
      subst ht
      exact h.get t u h1
    · rw [look_cons_ne htd] at ht
      exact ih h2 ht
def pars : Nat → List Value → List (Nat × Value)
  | _, [] => []
  | i, v :: l => (i, v) :: pars (i + 1) l
theorem look_pars : ∀ (l : List Value) (i t : Nat) (v : Value), look t (pars i l) = some v → i ≤ t ∧ l[t - i]? = some v
  | [], _, _, _, h => by cases h
  | u :: l, i, t, v, h => by
    by_cases hti : t = i
    · subst hti
      rw [pars, look_cons_eq] at h
      injection h with h
      subst h
      simp
    · rw [pars, look_cons_ne hti] at h
      obtain ⟨h1, h2⟩ := look_pars l (i + 1) t v h
      refine ⟨by omega, ?_⟩
      rw [show t - i = (t - (i + 1)) + 1 by omega]
      simpa using h2
end

section
variable {P : Program}
theorem calls_start {f : FuncId} {fn : Func} {c : Code} {args : List Value} {w : World} {R : Ending → World → Prop} (N : Nat) (hf : P.funcs[f]? = some fn) (hb : fn.body = some c) (hN : fn.ntmps = N)
    (hl : Nat.ble args.length N = true) (h : ∀ a, Fr N a (pars 0 args) → c.wp P (bodyPost P fn R) a w) : Calls P f args.toArray w R := by
  refine calls_of_wp hf hb (h _ ⟨?_, rfl, fun t v ht => ?_⟩)
  · have : args.length ≤ N := by simpa using hl
    simp [hN]; omega
  · obtain ⟨_, h2⟩ := look_pars args 0 t v ht
    simp only [Nat.sub_zero] at h2
    have hlt : t < args.length := (List.getElem?_eq_some_iff.1 h2).1
    simp only [slot, Array.getD_eq_getD_getElem?]
    rw [Array.getElem?_append_left (by simpa using hlt)]
    simp [h2]

/-! ### Worlds -/
/-- A block that is known: new (laid by the call) or old; its number, if it has one; what it holds. -/
structure Ent where
  nw : Bool
  ob : Option Nat
  o : Obj

structure St (w0 w : World) (H : List Ent) : Prop where
  os : w.os = w0.os
  tape : w.tape = w0.tape
  output : w.output = w0.output
  size : w0.heap.size ≤ w.heap.size
  old : ∀ b, b < w0.heap.size → (∀ e ∈ H, e.nw = false → e.ob ≠ some b) → w.heap[b]? = w0.heap[b]?
  has : ∀ e ∈ H, ∀ b, e.ob = some b → w.heap[b]? = some e.o
  new : ∀ e ∈ H, e.nw = true → ∀ b, e.ob = some b → w0.heap.size ≤ b
  once : ∀ (i j : Nat) (ei ej : Ent) (b : Nat), H[i]? = some ei → H[j]? = some ej → ei.ob = some b → ej.ob = some b → i = j

theorem St.refl (w : World) : St w w [] :=
  ⟨rfl, rfl, rfl, Nat.le_refl _, fun _ _ _ => rfl, fun _ h => (by cases h), fun _ h => (by cases h), fun i _ _ _ _ h => (by simp at h)⟩
theorem heap_lt {w : World} {b : Nat} {o : Obj} (h : w.heap[b]? = some o) : b < w.heap.size := (Array.getElem?_eq_some_iff.1 h).1
theorem St.lt {w0 w : World} {H : List Ent} (h : St w0 w H) {e : Ent} (he : e ∈ H) {b : Nat} (hb : e.ob = some b) : b < w.heap.size := heap_lt (h.has e he b hb)
theorem St.ext {w0 w w' : World} {H : List Ent} (h : St w0 w H) (hx : Ext w w') : St w0 w' H :=
  ⟨hx.os.trans h.os, hx.tape.trans h.tape, hx.output.trans h.output, Nat.le_trans h.size hx.size,
    fun b hb hn => (hx.block b (Nat.lt_of_lt_of_le hb h.size)).trans (h.old b hb hn),
    fun e he b hb => (hx.block b (h.lt he hb)).trans (h.has e he b hb), h.new, h.once⟩
theorem St.toExt {w0 w : World} {H : List Ent} (h : St w0 w H) (hn : ∀ e ∈ H, e.nw = true) : Ext w0 w :=
  ⟨h.os, h.tape, h.output, h.size, fun b hb => h.old b hb fun e he hf => (by rw [hn e he] at hf; cases hf)⟩
theorem St.nil {w0 w : World} (h : Ext w0 w) : St w0 w [] := (St.refl w0).ext h
/-- A new block of a later world, into the list. -/
theorem St.attach {w0 w w' : World} {H : List Ent} (h : St w0 w' H) (hlt : ∀ e ∈ H, ∀ b, e.ob = some b → b < w.heap.size) (hw : w0.heap.size ≤ w.heap.size) (ob : Option Nat) (o : Obj)
    (hb : ∀ b, ob = some b → w.heap.size ≤ b ∧ w'.heap[b]? = some o) : St w0 w' (⟨true, ob, o⟩ :: H) := by
  refine ⟨h.os, h.tape, h.output, h.size, fun b hb' hn => h.old b hb' fun e he => hn e (List.mem_cons_of_mem _ he), fun e he b hbe => ?_, fun e he hn b hbe => ?_, fun i j ei ej b hi hj hbi hbj => ?_⟩
  · rcases List.mem_cons.1 he with rfl | he
    · exact (hb b hbe).2
    · exact h.has e he b hbe
  · rcases List.mem_cons.1 he with rfl | he
    · have := (hb b hbe).1; omega
    · exact h.new e he hn b hbe
  · have fresh : ∀ e ∈ H, ∀ b, e.ob = some b → ob ≠ some b := fun e he b hbe ho => by
      have := hlt e he b hbe
      have := (hb b ho).1
      omega
    cases i with
    | zero =>
      cases j with
      | zero => rfl
      | succ j =>
        simp only [List.getElem?_cons_zero, Option.some.injEq, List.getElem?_cons_succ] at hi hj
        subst hi
        exact absurd hbi (fresh ej (List.mem_of_getElem? hj) b hbj)
    | succ i =>
      cases j with
      | zero =>
        simp only [List.getElem?_cons_zero, Option.some.injEq, List.getElem?_cons_succ] at hi hj
        subst hj
        exact absurd hbj (fresh ei (List.mem_of_getElem? hi) b hbi)
      | succ j =>
        simp only [List.getElem?_cons_succ] at hi hj
        rw [h.once i j ei ej b hi hj hbi hbj]
theorem St.lts {w0 w : World} {H : List Ent} (h : St w0 w H) : ∀ e ∈ H, ∀ b, e.ob = some b → b < w.heap.size := fun _ he _ hb => h.lt he hb
theorem St.alloc {w0 w : World} {H : List Ent} (h : St w0 w H) (o : Obj) : St w0 (w.alloc o) (⟨true, some w.heap.size, o⟩ :: H) :=
  (h.ext (Ext.alloc w o)).attach h.lts h.size _ _ fun b hb => by
    injection hb with hb
    subst hb
    exact ⟨Nat.le_refl _, heap_alloc_new w o⟩
/-- An old block, into the list. -/
theorem St.know {w0 w : World} {H : List Ent} (h : St w0 w H) {b : Nat} {o : Obj} (hb : w.heap[b]? = some o) (hlt : b < w0.heap.size) (hne : ∀ e ∈ H, e.ob ≠ some b) : St w0 w (⟨false, some b, o⟩ :: H) := by
  refine ⟨h.os, h.tape, h.output, h.size, fun c hc hn => h.old c hc fun e he => hn e (List.mem_cons_of_mem _ he), fun e he c hbe => ?_, fun e he hn c hbe => ?_, fun i j ei ej c hi hj hbi hbj => ?_⟩
  · rcases List.mem_cons.1 he with rfl | he
    · injection hbe with hbe; subst hbe; exact hb
    · exact h.has e he c hbe
  · rcases List.mem_cons.1 he with rfl | he
    · cases hn
    · exact h.new e he hn c hbe
  · cases i with
    | zero =>
      cases j with
      | zero => rfl
      | succ j =>
        simp only [List.getElem?_cons_zero, Option.some.injEq, List.getElem?_cons_succ] at hi hj
        subst hi
        exact absurd (hbj.trans hbi.symm) (hne ej (List.mem_of_getElem? hj))
    | succ i =>
      cases j with
      | zero =>
        simp only [List.getElem?_cons_zero, Option.some.injEq, List.getElem?_cons_succ] at hi hj
        subst hj
        exact absurd (hbi.trans hbj.symm) (hne ei (List.mem_of_getElem? hi))
      | succ j =>
        simp only [List.getElem?_cons_succ] at hi hj
        rw [h.once i j ei ej c hi hj hbi hbj]
theorem St.first {w : World} {b : Nat} {o : Obj} (hb : w.heap[b]? = some o) : St w w [⟨false, some b, o⟩] := (St.refl w).know hb (heap_lt hb) fun _ h => (by cases h)
/-- One block of the list has turned, and nothing else. -/
theorem St.turn {w0 w w' : World} {H : List Ent} (h : St w0 w H) {k : Nat} {nw : Bool} {b : Nat} {o o' : Obj} (hk : H[k]? = some ⟨nw, some b, o⟩)
    (hos : w'.os = w.os) (htape : w'.tape = w.tape) (hout : w'.output = w.output) (hsize : w.heap.size ≤ w'.heap.size) (hb : w'.heap[b]? = some o') (hx : ∀ c, c < w.heap.size → c ≠ b → w'.heap[c]? = w.heap[c]?) :
    St w0 w' (H.set k ⟨nw, some b, o'⟩) := by
  have hkl : k < H.length := (List.getElem?_eq_some_iff.1 hk).1
  have hat : ∀ i e, (H.set k ⟨nw, some b, o'⟩)[i]? = some e → (i = k ∧ e = ⟨nw, some b, o'⟩) ∨ (i ≠ k ∧ H[i]? = some e) := fun i e hi => by
    rw [List.getElem?_set] at hi
    by_cases hik : k = i
    · subst hik
      rw [if_pos rfl, if_pos hkl] at hi
      injection hi with hi
      exact .inl ⟨rfl, hi.symm⟩
    · rw [if_neg hik] at hi
      exact .inr ⟨fun e => hik e.symm, hi⟩
  have hmem : ∀ e ∈ H.set k ⟨nw, some b, o'⟩, ∃ i, (H.set k ⟨nw, some b, o'⟩)[i]? = some e := fun e he => List.getElem?_of_mem he
  refine ⟨hos.trans h.os, htape.trans h.tape, hout.trans h.output, Nat.le_trans h.size hsize, fun c hc hn => ?_, fun e he c hbe => ?_, fun e he hn c hbe => ?_, fun i j ei ej c hi hj hbi hbj => ?_⟩
  · have hme : (⟨nw, some b, o'⟩ : Ent) ∈ H.set k ⟨nw, some b, o'⟩ := List.mem_of_getElem? (by rw [List.getElem?_set, if_pos rfl, if_pos hkl])
    have hcb : c ≠ b := by
      rintro rfl
      cases nw with
      | false => exact hn _ hme rfl rfl
      | true => have := h.new _ (List.mem_of_getElem? hk) rfl c rfl; omega
    rw [hx c (Nat.lt_of_lt_of_le hc h.size) hcb]
    refine h.old c hc fun e he hnf hec => ?_
    obtain ⟨i, hi⟩ := List.getElem?_of_mem he
    by_cases hik : i = k
    · subst hik
      rw [hk] at hi
      injection hi with hi
      subst hi
      injection hec with hec
      exact hcb hec.symm
    · exact hn e (List.mem_of_getElem? (i := i) (by rw [List.getElem?_set, if_neg (fun e => hik e.symm)]; exact hi)) hnf hec
  · obtain ⟨i, hi⟩ := hmem e he
    rcases hat i e hi with ⟨rfl, rfl⟩ | ⟨hik, hi'⟩
    · injection hbe with hbe; subst hbe; exact hb
    · have hcb : c ≠ b := fun hcb => hik (h.once i k e _ c hi' hk hbe (by rw [hcb]))
      rw [hx c (h.lt (List.mem_of_getElem? hi') hbe) hcb]
      exact h.has e (List.mem_of_getElem? hi') c hbe
  · obtain ⟨i, hi⟩ := hmem e he
    rcases hat i e hi with ⟨rfl, rfl⟩ | ⟨_, hi'⟩
    · exact h.new _ (List.mem_of_getElem? hk) hn c hbe
    · exact h.new e (List.mem_of_getElem? hi') hn c hbe
  · have back : ∀ (i : Nat) (e : Ent), (H.set k ⟨nw, some b, o'⟩)[i]? = some e → ∃ e' : Ent, H[i]? = some e' ∧ e'.ob = e.ob := fun i e hi => by
      rcases hat i e hi with ⟨rfl, rfl⟩ | ⟨_, hi'⟩
      · exact ⟨_, hk, rfl⟩
      · exact ⟨e, hi', rfl⟩
    obtain ⟨ei', hi', he1⟩ := back i ei hi
    obtain ⟨ej', hj', he2⟩ := back j ej hj
    exact h.once i j ei' ej' c hi' hj' (he1.trans hbi) (he2.trans hbj)
/-- New blocks of the list may be forgotten. -/
theorem St.drop {w0 w : World} {e : Ent} {H : List Ent} (h : St w0 w (e :: H)) (hn : e.nw = true) : St w0 w H :=
  ⟨h.os, h.tape, h.output, h.size, fun b hb hne => h.old b hb fun d hd hf => by
      rcases List.mem_cons.1 hd with rfl | hd
      · rw [hn] at hf; cases hf
      · exact hne d hd hf,
    fun d hd => h.has d (List.mem_cons_of_mem _ hd), fun d hd => h.new d (List.mem_cons_of_mem _ hd),
    fun i j ei ej b hi hj => by
      intro h1 h2
      have := h.once (i + 1) (j + 1) ei ej b (by simpa using hi) (by simpa using hj) h1 h2
      omega⟩
theorem St.drop2 {w0 w : World} {d e : Ent} {H : List Ent} (h : St w0 w (d :: e :: H)) (hn : e.nw = true) : St w0 w (d :: H) := by
  refine ⟨h.os, h.tape, h.output, h.size, fun b hb hne => h.old b hb fun c hc hf => ?_, fun c hc => h.has c ?_, fun c hc => h.new c ?_, fun i j ei ej b hi hj h1 h2 => ?_⟩
  · rcases List.mem_cons.1 hc with rfl | hc
    · exact hne c (List.mem_cons_self) hf
    · rcases List.mem_cons.1 hc with rfl | hc
      · rw [hn] at hf; cases hf
      · exact hne c (List.mem_cons_of_mem _ hc) hf
  · rcases List.mem_cons.1 hc with rfl | hc
    · exact List.mem_cons_self
    · exact List.mem_cons_of_mem _ (List.mem_cons_of_mem _ hc)
  · rcases List.mem_cons.1 hc with rfl | hc
    · exact List.mem_cons_self
    · exact List.mem_cons_of_mem _ (List.mem_cons_of_mem _ hc)
  · have up : ∀ i x, (d :: H)[i]? = some x → (d :: e :: H)[if i = 0 then 0 else i + 1]? = some x := fun i x hx => by
      cases i with
      | zero => simpa using hx
      | succ i => simpa using hx
    have := h.once _ _ ei ej b (up i ei hi) (up j ej hj) h1 h2
    split at this <;> split at this <;> omega
/-- An old block of the list that holds what it held may be forgotten. -/
theorem St.forget {w0 w : World} {b : Nat} {o : Obj} {H : List Ent} (h : St w0 w (⟨false, some b, o⟩ :: H)) (hb : w0.heap[b]? = some o) : St w0 w H :=
  ⟨h.os, h.tape, h.output, h.size, fun c hc hne => by
      by_cases hcb : c = b
      · subst hcb; rw [hb]; exact h.has _ List.mem_cons_self c rfl
      · refine h.old c hc fun d hd hf => ?_
        rcases List.mem_cons.1 hd with rfl | hd
        · intro he; injection he with he; exact hcb he.symm
        · exact hne d hd hf,
    fun d hd => h.has d (List.mem_cons_of_mem _ hd), fun d hd => h.new d (List.mem_cons_of_mem _ hd),
    fun i j ei ej b hi hj => by
      intro h1 h2
      have := h.once (i + 1) (j + 1) ei ej b (by simpa using hi) (by simpa using hj) h1 h2
      omega⟩
/-- A call that has turned nothing but new memory; one that has turned block k of the list. -/
theorem St.call0 {w0 w w' : World} {H H' : List Ent} (h : St w0 w H) (hc : St w w' H') (hn : ∀ e ∈ H', e.nw = true) : St w0 w' H := h.ext (hc.toExt hn)
theorem St.call1 {w0 w w' : World} {H H' : List Ent} (h : St w0 w H) {k : Nat} {nw : Bool} {b : Nat} {o o' : Obj} (hk : H[k]? = some ⟨nw, some b, o⟩) (hc : St w w' (⟨false, some b, o'⟩ :: H')) (hn : ∀ e ∈ H', e.nw = true) :
    St w0 w' (H.set k ⟨nw, some b, o'⟩) :=
  h.turn hk hc.os hc.tape hc.output hc.size (hc.has _ List.mem_cons_self b rfl) fun c hlt hne => hc.old c hlt fun e he hf => by
    rcases List.mem_cons.1 he with rfl | he
    · intro h; injection h with h; exact hne h.symm
    · rw [hn e he] at hf; cases hf
/-- .. and a new block that it hands back. -/
theorem St.newOf {w0 w w' : World} {H H' : List Ent} (hw : St w0 w H) {H1 : List Ent} (h : St w0 w' H1) (hH : H1.map (·.ob) = H.map (·.ob)) (hc : St w w' H') {e : Ent} (he : e ∈ H') (hn : e.nw = true) : St w0 w' (⟨true, e.ob, e.o⟩ :: H1) :=
  h.attach (w := w) (fun d hd b hb => by
    have : d.ob ∈ H1.map (·.ob) := List.mem_map.2 ⟨d, hd, rfl⟩
    rw [hH] at this
    obtain ⟨c, hc, hcd⟩ := List.mem_map.1 this
    exact hw.lt hc (hcd.trans hb)) hw.size _ _ fun b hb => ⟨hc.new e he hn b hb, hc.has e he b hb⟩

/-! ### What is read -/
/-- A row of cells. -/
def blk (t : TypeId) (cs : List Value) : Obj := .cells cs.toArray t (0, 0)
theorem cell_blk {w : World} {b i : Nat} {t : TypeId} {cs : List Value} {fr : Nat × Nat} (h : w.heap[b]? = some (.cells cs.toArray t fr)) : w.cell? ⟨b, i, none⟩ = cs[i]? := by
  simp [World.cell?, h]
theorem St.cell {w0 w : World} {H : List Ent} (h : St w0 w H) {k i : Nat} {nw : Bool} {b : Nat} {t : TypeId} {cs : List Value} {v : Value} (hk : H[k]? = some ⟨nw, some b, blk t cs⟩) (hv : cs[i]? = some v) : w.cell? ⟨b, i, none⟩ = some v :=
  (cell_blk (h.has _ (List.mem_of_getElem? hk) b rfl)).trans hv
/-- A slice value that reads as these values, one cell each. -/
structure Rd (w : World) (v : Value) (xs : List Value) : Prop where
  is : ∃ A c, v = .slice A xs.length c ∧ xs.length ≤ c ∧ c ≤ 9223372036854775807 ∧ (0 < xs.length → ∃ b o, A = some ⟨b, o, none⟩ ∧ ∀ i u, xs[i]? = some u → w.cell? ⟨b, o + i, none⟩ = some u)
def Value.at? : Value → Option Nat
  | .slice (some a) _ _ => some a.block
  | _ => none
theorem Rd.nil (w : World) : Rd w (.slice none 0 0) [] := ⟨none, 0, rfl, Nat.le_refl _, by omega, fun h => absurd h (by simp)⟩
theorem cell_lt {w : World} {b i : Nat} {u : Value} (h : w.cell? ⟨b, i, none⟩ = some u) : b < w.heap.size := by
  rcases Nat.lt_or_ge b w.heap.size with hlt | hge
  · exact hlt
  · simp [World.cell?, Array.getElem?_eq_none hge] at h
theorem cell_same {w w' : World} {b i : Nat} (h : w'.heap[b]? = w.heap[b]?) : w'.cell? ⟨b, i, none⟩ = w.cell? ⟨b, i, none⟩ := by simp [World.cell?, h]
theorem Rd.keep {w w' : World} {v : Value} {xs : List Value} (h : Rd w v xs) (hk : ∀ b, Value.at? v = some b → b < w.heap.size → w'.heap[b]? = w.heap[b]?) : Rd w' v xs := by
  obtain ⟨A, c, rfl, h1, h1', h2⟩ := h.is
  refine ⟨A, c, rfl, h1, h1', fun hp => ?_⟩
  obtain ⟨b, o, rfl, hc⟩ := h2 hp
  refine ⟨b, o, rfl, fun i u hu => ?_⟩
  have := hc i u hu
  rw [cell_same (hk b rfl (cell_lt this))]
  exact this
theorem Rd.ext {w w' : World} {v : Value} {xs : List Value} (h : Rd w v xs) (hx : Ext w w') : Rd w' v xs := h.keep fun b _ hb => hx.block b hb
/-- What was read in the first world is read in a later one, if its block isn't one that is written. -/
theorem St.rd {w0 w : World} {H : List Ent} (h : St w0 w H) {v : Value} {xs : List Value} (hr : Rd w0 v xs) (hne : ∀ e ∈ H, e.nw = false → e.ob ≠ none → e.ob ≠ Value.at? v) : Rd w v xs :=
  hr.keep fun b hb hlt => h.old b hlt fun e he hf heb => hne e he hf (by rw [heb]; simp) (heb.trans hb.symm)
theorem St.rdNew {w0 w : World} {H : List Ent} (h : St w0 w H) {v : Value} {xs : List Value} (hr : Rd w0 v xs) (hne : ∀ e ∈ H, e.nw = true) : Rd w v xs := hr.ext (h.toExt hne)
/-- A slice over a block of the list. -/
theorem St.rdOf {w0 w : World} {H : List Ent} (h : St w0 w H) {k : Nat} {nw : Bool} {b : Nat} {t : TypeId} {cs : List Value} (hk : H[k]? = some ⟨nw, some b, blk t cs⟩) (o n c : Nat) (hn : o + n ≤ cs.length) (hc : n ≤ c) (hc' : c ≤ 9223372036854775807) :
    Rd w (.slice (some ⟨b, o, none⟩) n c) ((cs.drop o).take n) := by
  have hl : ((cs.drop o).take n).length = n := by simp; omega
  refine ⟨some ⟨b, o, none⟩, c, by rw [hl], by rw [hl]; exact hc, hc', fun _ => ⟨b, o, rfl, fun i u hu => ?_⟩⟩
  refine h.cell hk ?_
  rw [List.getElem?_take] at hu
  split at hu
  · rw [List.getElem?_drop] at hu; exact hu
  · cases hu
end
end Go.Fw
