/- What is proved: how the evaluator's values and memory stand for the model's: relations, and what reads and writes make of them. -/
import Derived.Test.YtbggihomiadjjaaGreatDoorEvLem
import Derived.Test.YtbggihomiadjjaaGreatDoorFwCtl
set_option linter.unusedVariables false
set_option linter.unusedSimpArgs false
namespace Go.Ev
open Go Go.Fw

/-- Where a row lies: its block, from which cell on, how many cells the block has. -/
structure Pl where
  b : Nat
  o : Nat
  sz : Nat
abbrev Rho := Nat → Option Pl
def vU (x : UInt8) : Value := .int .u8 (x.toNat : Int)

mutual
/-- A value stands for a value. -/
def RV (ρ : Rho) : AV → Value → Prop
  | .bool b, v => v = .bool b
  | .int k n, v => v = .int k n
  | .str n c, v => ∃ s : ByteArray, v = .string s ∧ s.data.toList = byL n c ∧ c < 2 ^ (8 * n)
  | .nil, v => v = .pointer none
  | .ptr i o, v => ∃ p, ρ i = some p ∧ v = .pointer (some ⟨p.b, p.o + o, none⟩)
  | .slN, v => v = .slice none 0 0
  | .sl i o n (.k c), v => ∃ p, ρ i = some p ∧ v = .slice (some ⟨p.b, p.o + o, none⟩) n c ∧ n ≤ c
  | .sl i o n (.u z), v => ∃ p a c, ρ i = some p ∧ v = .slice (some a) n c ∧ n ≤ c ∧ (a = ⟨p.b, p.o + o, none⟩ ∧ p.o + o + c * z = p.sz ∨ c = 0)
  | .fn k f c, v => ∃ f' c', v = .func (.func k) f' c' ∧ RVs ρ f f'.toList ∧ RVs ρ c c'.toList
  | .nilF, v => v = .nilFunc
  | .agg l, v => ∃ a, v = .agg a ∧ RVs ρ l a.toList ∧ allOne l = true
  | .bag n c, v => v = .agg ((byL n c).map vU).toArray ∧ c < 2 ^ (8 * n)
  | .tup l, v => ∃ a, v = .tuple a ∧ RVs ρ l a.toList
  | .ifc t a, v => ∃ u, v = .iface t u ∧ RV ρ a u
  | .nilI, v => v = .nilIface
  | .undef, v => v = undef
  | .val _ u, v => v = u ∧ u.oneCell' = true ∧ u.cells = #[u]
def RVs (ρ : Rho) : List AV → List Value → Prop
  | [], l => l = []
  | x :: xs, l => ∃ v vs, l = v :: vs ∧ RV ρ x v ∧ RVs ρ xs vs
end
mutual
theorem RV.mono {ρ ρ' : Rho} (h : ∀ i p, ρ i = some p → ρ' i = some p) : ∀ (a : AV) (v : Value), RV ρ a v → RV ρ' a v
  | .bool _, _, g => g
  | .int _ _, _, g => g
  | .str _ _, _, g => g
  | .nil, _, g => g
  | .ptr i o, v, ⟨p, hp, hv⟩ => ⟨p, h _ _ hp, hv⟩
  | .slN, _, g => g
  | .sl i o n (.k c), v, ⟨p, hp, hv⟩ => ⟨p, h _ _ hp, hv⟩
  | .sl i o n (.u z), v, ⟨p, a, c, hp, hv⟩ => ⟨p, a, c, h _ _ hp, hv⟩
  | .fn k f c, v, ⟨f', c', hv, h1, h2⟩ => ⟨f', c', hv, RVs.mono h f _ h1, RVs.mono h c _ h2⟩
  | .nilF, _, g => g
  | .agg l, v, ⟨a, hv, h1, h2⟩ => ⟨a, hv, RVs.mono h l _ h1, h2⟩
  | .bag _ _, _, g => g
  | .tup l, v, ⟨a, hv, h1⟩ => ⟨a, hv, RVs.mono h l _ h1⟩
  | .ifc t a, v, ⟨u, hv, h1⟩ => ⟨u, hv, RV.mono h a u h1⟩
  | .nilI, _, g => g
  | .undef, _, g => g
  | .val _ _, _, g => g
theorem RVs.mono {ρ ρ' : Rho} (h : ∀ i p, ρ i = some p → ρ' i = some p) : ∀ (l : List AV) (vs : List Value), RVs ρ l vs → RVs ρ' l vs
  | [], _, g => g
  | x :: xs, _, ⟨v, vs, hl, h1, h2⟩ => ⟨v, vs, hl, RV.mono h x v h1, RVs.mono h xs vs h2⟩
end
theorem RVs.len {ρ : Rho} : ∀ {l : List AV} {vs : List Value}, RVs ρ l vs → l.length = vs.length
  | [], vs, g => by rw [show vs = [] from g]; rfl
  | x :: xs, _, ⟨v, vs, hl, _, h2⟩ => by rw [hl, List.length_cons, List.length_cons, RVs.len h2]
theorem RVs.get {ρ : Rho} : ∀ {l : List AV} {vs : List Value}, RVs ρ l vs → ∀ {i : Nat} {x : AV}, l[i]? = some x → ∃ v, vs[i]? = some v ∧ RV ρ x v
  | [], _, _, i, x, h => by simp at h
  | y :: xs, _, ⟨v, vs, hl, h1, h2⟩, 0, x, h => by
    simp only [List.getElem?_cons_zero, Option.some.injEq] at h
    subst h
    exact ⟨v, by rw [hl]; rfl, h1⟩
  | y :: xs, _, ⟨v, vs, hl, h1, h2⟩, i + 1, x, h => by
    rw [List.getElem?_cons_succ] at h
    obtain ⟨u, hu, hr⟩ := RVs.get h2 h
    exact ⟨u, by rw [hl, List.getElem?_cons_succ]; exact hu, hr⟩
theorem RVs.mk {ρ : Rho} : ∀ {l : List AV} {vs : List Value}, l.length = vs.length → (∀ (i : Nat) (x : AV), l[i]? = some x → ∃ v, vs[i]? = some v ∧ RV ρ x v) → RVs ρ l vs
  | [], vs, hl, _ => List.length_eq_zero_iff.1 (by simpa using hl.symm)
  | x :: xs, [], hl, _ => by simp at hl
  | x :: xs, v :: vs, hl, h => by
    refine ⟨v, vs, rfl, ?_, RVs.mk (by simpa using hl) fun i y hy => ?_⟩
    · obtain ⟨u, hu, hr⟩ := h 0 x rfl
      simp only [List.getElem?_cons_zero, Option.some.injEq] at hu
      rw [hu]; exact hr
    · obtain ⟨u, hu, hr⟩ := h (i + 1) y (by rw [List.getElem?_cons_succ]; exact hy)
      exact ⟨u, by rwa [List.getElem?_cons_succ] at hu, hr⟩
theorem RVs.append {ρ : Rho} {l m : List AV} {vs us : List Value} (h : RVs ρ l vs) (g : RVs ρ m us) : RVs ρ (l ++ m) (vs ++ us) := by
  refine RVs.mk (by rw [List.length_append, List.length_append, h.len, g.len]) fun i x hx => ?_
  by_cases hi : i < l.length
  · rw [List.getElem?_append_left hi] at hx
    rw [List.getElem?_append_left (by rw [← h.len]; exact hi)]
    exact h.get hx
  · rw [List.getElem?_append_right (by omega)] at hx
    rw [List.getElem?_append_right (by rw [← h.len]; omega), ← h.len]
    exact g.get hx
theorem RVs.drop {ρ : Rho} {l : List AV} {vs : List Value} (h : RVs ρ l vs) (n : Nat) : RVs ρ (l.drop n) (vs.drop n) := by
  refine RVs.mk (by rw [List.length_drop, List.length_drop, h.len]) fun i x hx => ?_
  rw [List.getElem?_drop] at hx ⊢
  exact h.get hx
theorem RVs.take {ρ : Rho} {l : List AV} {vs : List Value} (h : RVs ρ l vs) (n : Nat) : RVs ρ (l.take n) (vs.take n) := by
  refine RVs.mk (by rw [List.length_take, List.length_take, h.len]) fun i x hx => ?_
  rw [List.getElem?_take] at hx ⊢
  split at hx
  · rename_i hi
    rw [if_pos hi]
    exact h.get hx
  · cases hx
mutual
theorem ofV_rv {ρ : Rho} : ∀ (v : Value) (a : AV), ofV v = some a → RV ρ a v
  | .bool b, a, h => by simp [ofV] at h; subst h; rfl
  | .int k n, a, h => by simp [ofV] at h; subst h; rfl
  | .string s, a, h => by
    simp [ofV] at h
    subst h
    obtain ⟨h1, h2⟩ := byL_bOf s.data.toList
    have e : s.size = s.data.toList.length := rfl
    refine ⟨s, rfl, ?_, ?_⟩
    · rw [e, h1]
    · rw [e]; exact h2
  | .pointer none, a, h => by simp [ofV] at h; subst h; rfl
  | .pointer (some _), a, h => by simp [ofV] at h
  | .slice none 0 0, a, h => by simp [ofV] at h; subst h; rfl
  | .slice none 0 (_ + 1), a, h => by simp [ofV] at h
  | .slice none (_ + 1) _, a, h => by simp [ofV] at h
  | .slice (some _) _ _, a, h => by simp [ofV] at h
  | .nilFunc, a, h => by simp [ofV] at h; subst h; rfl
  | .agg ⟨l⟩, a, h => by
    simp only [ofV, Option.bind_eq_some_iff] at h
    obtain ⟨q, hq, h⟩ := h
    cases ho : allOne q with
    | false => rw [ho] at h; cases h
    | true =>
      rw [ho] at h
      injection h with h
      subst h
      exact ⟨⟨l⟩, rfl, ofVs_rv l q hq, ho⟩
  | .tuple ⟨l⟩, a, h => by
    simp only [ofV, Option.map_eq_some_iff] at h
    obtain ⟨q, hq, rfl⟩ := h
    exact ⟨⟨l⟩, rfl, ofVs_rv l q hq⟩
  | .float _ _, a, h => by simp [ofV] at h
  | .complex _ _ _, a, h => by simp [ofV] at h
  | .map _, a, h => by simp [ofV] at h
  | .chan _, a, h => by simp [ofV] at h
  | .func _ _ _, a, h => by simp [ofV] at h
  | .iface _ _, a, h => by simp [ofV] at h
  | .nilIface, a, h => by simp [ofV] at h; subst h; rfl
theorem ofVs_rv {ρ : Rho} : ∀ (l : List Value) (as : List AV), ofVs l = some as → RVs ρ as l
  | [], as, h => by simp [ofVs] at h; subst h; rfl
  | v :: l, as, h => by
    simp only [ofVs] at h
    split at h
    · rename_i a as' h1 h2
      injection h with h
      subst h
      exact ⟨v, l, rfl, ofV_rv v a h1, ofVs_rv l as' h2⟩
    · cases h
end

/-! ### Memory -/
def FrOk (fr : Nat × Nat) (n : Nat) : Prop := fr.1 = fr.2 ∨ n ≤ fr.1
theorem FrOk.no {fr : Nat × Nat} {n : Nat} (h : FrOk fr n) (i : Nat) (hi : i < n) : ¬ (fr.1 ≤ i ∧ i < fr.2) := by
  rcases h with h | h <;> omega
/-- A row lies at a place. -/
def RowAt (ρ : Rho) (w : World) (p : Pl) : Row → Prop
  | .cells e room l => ∃ arr et fr, w.heap[p.b]? = some (.cells arr et fr) ∧ arr.size = p.sz ∧ FrOk fr p.sz ∧ p.o + l.length ≤ p.sz ∧ (room = false → p.o + l.length = p.sz) ∧ ∀ k v, l[k]? = some v → v.one = true ∧ ∃ u, arr[p.o + k]? = some u ∧ RV ρ v u
  | .bytes e room n c => c < 2 ^ (8 * n) ∧ ∃ arr et fr, w.heap[p.b]? = some (.cells arr et fr) ∧ arr.size = p.sz ∧ FrOk fr p.sz ∧ p.o + n ≤ p.sz ∧ (room = false → p.o + n = p.sz) ∧ ∀ k x, (byL n c)[k]? = some x → arr[p.o + k]? = some (vU x)
  | .dead => False
/-- What is known of memory. -/
structure Rel (ρ : Rho) (s : S) (w : World) : Prop where
  row : ∀ i r, s.h.get i = some r → r ≠ .dead → ∃ p, ρ i = some p ∧ RowAt ρ w p r
  inj : ∀ i j r q p p', s.h.get i = some r → r ≠ .dead → s.h.get j = some q → q ≠ .dead → ρ i = some p → ρ j = some p' → p.b = p'.b → i = j
  nx : ∀ i p, ρ i = some p → i < s.nx ∧ (1000 ≤ i → p.b < w.heap.size)
  gl : ∀ g, g < 1000 → ∃ sz, ρ g = some ⟨g, 0, sz⟩
  lo : 1000 ≤ s.nx
def Own (ρ : Rho) (s : S) (b : Nat) : Prop := ∃ i r p, s.h.get i = some r ∧ r ≠ .dead ∧ ρ i = some p ∧ p.b = b
/-- What becomes of memory. -/
structure Goes (ρ : Rho) (s : S) (w : World) (ρ' : Rho) (s' : S) (w' : World) : Prop where
  ext : ∀ i p, ρ i = some p → ρ' i = some p
  nx : s.nx ≤ s'.nx
  size : w.heap.size ≤ w'.heap.size
  os : w'.os = w.os
  tape : w'.tape = w.tape
  output : w'.output = w.output
  own : ∀ b, b < w.heap.size → Own ρ' s' b → Own ρ s b
  keep : ∀ b, b < w.heap.size → ¬ Own ρ s b → w'.heap[b]? = w.heap[b]?
  rel : Rel ρ' s' w'
  fresh : ∀ i p, ρ' i = some p → ρ i = some p ∨ s.nx ≤ i
  gh : ∀ g, g < 1000 → s'.h.get g = s.h.get g
  gk : ∀ g r, g < 1000 → s.h.get g = some r → r ≠ .dead → w'.heap[g]? = w.heap[g]?
theorem Goes.refl {ρ : Rho} {s : S} {w : World} (h : Rel ρ s w) : Goes ρ s w ρ s w := ⟨fun _ _ h => h, Nat.le_refl _, Nat.le_refl _, rfl, rfl, rfl, fun _ _ h => h, fun _ _ _ => rfl, h, fun _ _ h => .inl h, fun _ _ => rfl, fun _ _ _ _ _ => rfl⟩
theorem Goes.trans {ρ ρ' ρ'' : Rho} {s s' s'' : S} {w w' w'' : World} (h : Goes ρ s w ρ' s' w') (g : Goes ρ' s' w' ρ'' s'' w'') : Goes ρ s w ρ'' s'' w'' :=
  ⟨fun i p hp => g.ext i p (h.ext i p hp), Nat.le_trans h.nx g.nx, Nat.le_trans h.size g.size, g.os.trans h.os, g.tape.trans h.tape, g.output.trans h.output,
   fun b hb ho => h.own b hb (g.own b (Nat.lt_of_lt_of_le hb h.size) ho),
   fun b hb ho => (g.keep b (Nat.lt_of_lt_of_le hb h.size) fun h' => ho (h.own b hb h')).trans (h.keep b hb ho), g.rel,
   fun i p hp => (g.fresh i p hp).elim (h.fresh i p) fun hge => .inr (Nat.le_trans h.nx hge),
   fun i hi => (g.gh i hi).trans (h.gh i hi), fun i r hi hr hd => (g.gk i r hi ((h.gh i hi).trans hr) hd).trans (h.gk i r hi hr hd)⟩
theorem Rel.drew {ρ : Rho} {s : S} {w : World} (h : Rel ρ s w) (n : Nat) : Rel ρ s { w with drawn := n } := ⟨h.row, h.inj, h.nx, h.gl, h.lo⟩
theorem Goes.drew {ρ : Rho} {s : S} {w : World} (h : Rel ρ s w) (n : Nat) : Goes ρ s w ρ s { w with drawn := n } := ⟨fun _ _ h => h, Nat.le_refl _, Nat.le_refl _, rfl, rfl, rfl, fun _ _ h => h, fun _ _ _ => rfl, h.drew n, fun _ _ h => .inl h, fun _ _ => rfl, fun _ _ _ _ _ => rfl⟩

end Go.Ev
