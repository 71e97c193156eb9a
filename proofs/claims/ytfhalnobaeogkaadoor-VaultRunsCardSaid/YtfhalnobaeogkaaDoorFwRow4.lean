/- What is proved: how a slice of structs comes in: its fields one by one. -/
import Derived.Test.YtfhalnobaeogkaaDoorFwLaid
import Derived.Deep.SlicePairs
set_option linter.unusedVariables false
set_option linter.unusedSimpArgs false
namespace Go.Fw
open Go Go.RowKit Go.ChangeShapes Go.WideShapes Go.Deep
theorem weights_each {H : Type} {P : Program} : ∀ {ts : List TypeId} {l : List (DataW H)} {j : Nat} {t : TypeId} {d : DataW H}, ts[j]? = some t → l[j]? = some d → ∀ n ∈ d.weights P t, n ∈ DataW.weightsEach P ts l
  | t :: ts, d :: l, 0, _, _, h1, h2, n, hn => by
    simp only [List.getElem?_cons_zero, Option.some.injEq] at h1 h2
    subst h1; subst h2
    simp only [DataW.weightsEach, List.mem_append]
    exact .inl hn
  | t :: ts, d :: l, j + 1, _, _, h1, h2, n, hn => by
    simp only [List.getElem?_cons_succ] at h1 h2
    simp only [DataW.weightsEach, List.mem_append]
    exact .inr (weights_each h1 h2 n hn)
  | [], _, _, _, _, h1, _, _, _ => by simp at h1
  | _ :: _, [], _, _, _, _, h2, _, _ => by simp at h2
/-- A field of an element: its cell, how it reads, what it weighs. -/
structure FieldAt {H : Type} (enc : TypeId × Value → H) (P : Program) (w : World) (base : Nat) (held : Bool) (T : TypeId) (d : DataW H) (at_ : Nat × Nat) (ft : TypeId) (v : Value) : Prop where
  cell : w.cell? ⟨at_.1, at_.2, none⟩ = some v
  rd : ∃ n y, DataW.trod enc P w base (fun _ => true) held n ft [v] = some y ∧ ∀ x ∈ y.1.weights P ft, x ∈ d.weights P T
theorem open_structs {H : Type} {enc : TypeId × Value → H} {P : Program} {w : World} {base : Nat} {held : Bool} {t e : TypeId} {fs : Array Field} {k : Nat} {A : Option Addr} {len cap : Nat} {d : DataW H} {p : List MemPlace} (ht : P.underlying t = some (.slice e)) (he : P.underlying e = some (.struct fs)) (hc : P.cellsOf e = k) (hk : fs.size = k) (hk0 : 0 < k)
    (hf : ∀ (j : Nat) (f : Field), fs[j]? = some f → f.offset = j ∧ P.cellsOf f.type = 1) (h : DataW.Trod enc P w base (fun _ => true) held t (.slice A len cap) d p) :
    len ≤ cap ∧ cap ≤ maxLen ∧ (0 < len → ∃ b o, A = some ⟨b, o, none⟩ ∧ ∀ i, i < len → ∀ (j : Nat) (f : Field), fs[j]? = some f → ∃ v, FieldAt enc P w base held t d (b, o + i * k + j) f.type v) := by
  obtain ⟨fuel, hfu⟩ := h
  rcases open_slice ht hfu with ⟨hcs, _⟩ | ⟨x, l, c, m, n, D, Pl, hcs, hb, hl, hm, hmm, hx, hel⟩
  · simp [Value.cells] at hcs
    obtain ⟨rfl, rfl, rfl⟩ := hcs
    exact ⟨Nat.le_refl _, by simp [maxLen], fun h => absurd h (by omega)⟩
  · simp [Value.cells] at hcs
    obtain ⟨rfl, rfl, rfl⟩ := hcs
    simp only [Prod.mk.injEq] at hx
    have hm' : m = cap := by simpa using hmm
    subst hm'
    refine ⟨hl, hm, fun hpos => ?_⟩
    have each : ∀ i, i < len → ∀ (j : Nat) (f : Field), fs[j]? = some f → ∃ v, w.cell? ((x.add (i * k)).add j) = some v ∧ ∃ n y, DataW.trod enc P w base (fun _ => true) held n f.type [v] = some y ∧ ∀ q ∈ y.1.weights P f.type, q ∈ d.weights P t := by
      intro i hi j f hjf
      obtain ⟨cs', h1, h2⟩ := hel i (by omega)
      rw [hc] at h1
      obtain ⟨_, hlen, hcell⟩ := World.cells?_some h1
      obtain ⟨xs, q, hq, hxy, _, hxl, hfd⟩ := DataW.trod_struct he h2
      have hjk : j < k := by rw [← hk]; exact (Array.getElem?_eq_some_iff.1 hjf).1
      obtain ⟨ho, hcf⟩ := hf j f hjf
      have hj := hfd j f hjf
      rw [ho, hcf] at hj
      have hcj : cs'[j]? = some cs'[j] := List.getElem?_eq_getElem (by omega)
      have h1' : (cs'.drop j).take 1 = [cs'[j]] := by rw [List.drop_eq_getElem_cons (by omega)]; rfl
      rw [h1', List.getElem?_eq_getElem (by omega)] at hj
      refine ⟨cs'[j], by rw [hcell j hjk, hcj], q, _, hj, fun z hz => ?_⟩
      rw [hx.1]
      simp only [DataW.weights, ht, List.mem_cons, List.mem_append]
      refine .inr (.inl (weights_all (d := D i) (List.mem_map.2 ⟨i, List.mem_range.2 hi, rfl⟩) _ ?_))
      simp only [Prod.mk.injEq] at hxy
      rw [hxy.1]
      simp only [DataW.weights, he]
      refine weights_each (j := j) (t := f.type) (d := xs[j].1) ?_ ?_ _ hz
      · rw [List.getElem?_map, Array.getElem?_toList, hjf]; rfl
      · rw [List.getElem?_map, List.getElem?_eq_getElem (by omega)]; rfl
    have hf0 : fs[0]? = some fs[0] := Array.getElem?_eq_getElem (by omega)
    obtain ⟨v0, hv0, _⟩ := each 0 hpos 0 _ hf0
    obtain ⟨bb, off, spot⟩ := x
    have hspot : spot = none := by simpa [Addr.add] using World.cell?_spot hv0
    subst hspot
    refine ⟨bb, off, rfl, fun i hi j f hjf => ?_⟩
    obtain ⟨v, h1, h2⟩ := each i hi j f hjf
    rw [add_plain, add_plain] at h1
    exact ⟨v, h1, h2⟩
theorem FieldAt.int {H : Type} {enc : TypeId × Value → H} {P : Program} {w : World} {base : Nat} {held : Bool} {T : TypeId} {d : DataW H} {at_ : Nat × Nat} {ft : TypeId} {v : Value} (h : FieldAt enc P w base held T d at_ ft v) (ht : P.underlying ft = some (.int .i64)) : ∃ n : Int, v = .int .i64 n ∧ -9223372036854775808 ≤ n ∧ n ≤ 9223372036854775807 := by
  obtain ⟨_, n, y, hy, _⟩ := h
  obtain ⟨k, h1, _, h3⟩ := DataW.trod_int ht hy
  injection h1 with h1
  exact ⟨k, h1, bounds_i64 h3⟩
theorem FieldAt.bool {H : Type} {enc : TypeId × Value → H} {P : Program} {w : World} {base : Nat} {held : Bool} {T : TypeId} {d : DataW H} {at_ : Nat × Nat} {ft : TypeId} {v : Value} (h : FieldAt enc P w base held T d at_ ft v) (ht : P.underlying ft = some .bool) : ∃ b : Bool, v = .bool b := by
  obtain ⟨_, n, y, hy, _⟩ := h
  obtain ⟨k, h1, _⟩ := DataW.trod_bool ht hy
  injection h1 with h1
  exact ⟨k, h1⟩
theorem FieldAt.str {H : Type} {enc : TypeId × Value → H} {P : Program} {w : World} {base : Nat} {held : Bool} {T : TypeId} {d : DataW H} {at_ : Nat × Nat} {ft : TypeId} {v : Value} (h : FieldAt enc P w base held T d at_ ft v) (ht : P.underlying ft = some .string) (hs : ∀ n ∈ d.weights P T, n ≤ reachBytes) : ∃ l : List UInt8, v = sV l ∧ l.length ≤ 140737488351232 := by
  obtain ⟨_, n, y, hy, hw⟩ := h
  obtain ⟨s, h1, h2, _⟩ := DataW.trod_string ht hy
  injection h1 with h1
  refine ⟨s.data.toList, h1, ?_⟩
  have := hs _ (hw s.data.toList.length (by rw [h2]; simp [DataW.weights]))
  simpa [reachBytes] using this
theorem FieldAt.bytes {H : Type} {enc : TypeId × Value → H} {P : Program} {w : World} {base : Nat} {held : Bool} {T : TypeId} {d : DataW H} {at_ : Nat × Nat} {ft b : TypeId} {v : Value} (h : FieldAt enc P w base held T d at_ ft v) (ht : P.underlying ft = some (.slice b)) (hb : P.underlying b = some (.int .u8)) (hcb : P.cellsOf b = 1) (hby : P.bytesOf b = 1) (hs : ∀ n ∈ d.weights P T, n ≤ reachBytes) :
    v.cells = #[v] ∧ ∃ l : List UInt8, Rd w v (l.map vB) ∧ l.length ≤ 140737488351232 := by
  obtain ⟨_, n, y, hy, hw⟩ := h
  rcases open_ints ht hb hcb hy with ⟨hcs, _⟩ | ⟨x, l', c', zs, hcs, _, hl', hm', hz, hy2, hcell, hwz⟩
  · injection hcs with hcs _
    rw [hcs]
    exact ⟨rfl, [], Rd.nil w, by simp⟩
  · injection hcs with hcs _
    rw [hcs]
    obtain ⟨l, hr, hlen⟩ := rd_ints_len hl' hm' (by simpa using hz) hcell hwz
    refine ⟨rfl, l, hr, ?_⟩
    have hq := hs ((lits IntKind.u8 (zs.take l') (H := H)).length + (lits IntKind.u8 (zs.drop l') (H := H)).length) (hw _ (by
      rw [hy2]
      simp only [DataW.weights, ht, hby, Nat.mul_one, List.mem_cons, true_or]))
    have hzl : zs.length = c' := by simpa using hz
    simp only [lits, List.length_map, List.length_take, List.length_drop, reachBytes] at hq
    rw [hlen]
    omega
end Go.Fw
