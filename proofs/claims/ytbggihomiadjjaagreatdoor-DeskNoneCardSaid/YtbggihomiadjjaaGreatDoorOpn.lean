/- What is proved: how elements and a request come in. -/
import Derived.Test.YtbggihomiadjjaaGreatDoorSml
import Derived.Test.YtbggihomiadjjaaGreatDoorFwRow3
import Derived.ChangeArms
set_option linter.unusedVariables false
set_option linter.unusedSimpArgs false
namespace Go.Proofs.YtbggihomiadjjaaGreatDoor
open Go Go.RowKit Go.Fw

instance : Inhabited El := ⟨⟨.empty, .empty, none, 0, 0, .empty, undef⟩⟩
theorem Tryz.cells57 : Tryz.prog.cellsOf 57 = 5 := by kernel_rfl
theorem Tryz.cells9 : Tryz.prog.cellsOf 9 = 1 := by kernel_rfl
theorem Tryz.cells55 : Tryz.prog.cellsOf 55 = 1 := by kernel_rfl
theorem Tryz.cells22 : Tryz.prog.cellsOf 22 = 1 := by kernel_rfl
section
variable {H : Type} {enc : TypeId × Value → H} {w : World} {base : Nat} {sp : Nat → Bool} {held : Bool}
theorem trod_str1 {P : Program} {t : TypeId} (ht : P.underlying t = some .string) {fuel : Nat} {cs : List Value} {x : DataW H × List MemPlace} (h : DataW.trod enc P w base sp held fuel t cs = some x) : ∃ s, cs = [.string s] := by
  cases fuel with
  | zero => simp [DataW.trod] at h
  | succ n =>
    unfold DataW.trod at h
    rw [ht] at h
    split at h <;> first | exact ⟨_, rfl⟩ | (simp_all; done)
theorem trod_sl1 {P : Program} {t e : TypeId} (ht : P.underlying t = some (.slice e)) {fuel : Nat} {cs : List Value} {x : DataW H × List MemPlace} (h : DataW.trod enc P w base sp held fuel t cs = some x) : ∃ A n c, cs = [.slice A n c] := by
  rcases DataW.trod_slice ht h with ⟨h0, _⟩ | ⟨a, len, cap, elems, rest, n, _, h0, _⟩
  · exact ⟨none, 0, 0, h0⟩
  · exact ⟨some a, len, cap, h0⟩
theorem addr_none {a : Addr} {u : Value} (h : w.cell? a = some u) : a = ⟨a.block, a.off, none⟩ := by
  obtain ⟨b, o, s⟩ := a
  cases s with
  | none => rfl
  | some s =>
    exfalso
    unfold World.cell? at h
    simp only [Option.isSome_some, if_true] at h
    split at h <;> cases h
theorem one_of {α : Type} {l : List α} {j : Nat} {x : α} (h : l[j]? = some x) : (l.drop j).take 1 = [x] := by
  have hj := (List.getElem?_eq_some_iff.1 h).1
  rw [List.drop_eq_getElem_cons hj, List.take_succ_cons, List.take_zero]
  have := (List.getElem?_eq_some_iff.1 h).2
  rw [this]
theorem fld1 {P : Program} {fs : Array Field} {cl : List Value} {xs : List (DataW H × List MemPlace)} {m : Nat} (hxs : ∀ (i : Nat) (f : Field), fs[i]? = some f → DataW.trod enc P w base sp held m f.type ((cl.drop f.offset).take (P.cellsOf f.type)) = xs[i]?)
    (i : Nat) {f : Field} (hf : fs[i]? = some f) {t : TypeId} (ht : f.type = t) {k : Nat} (ho : f.offset = k) (hc : P.cellsOf t = 1) {c : Value} (hcl : cl[k]? = some c) {z : DataW H × List MemPlace} (hz : xs[i]? = some z) : DataW.trod enc P w base sp held m t [c] = some z := by
  have := hxs i f hf
  rw [ho, ht, hc, one_of hcl, hz] at this
  exact this
theorem list5 {α : Type} {l : List α} (h : l.length = 5) : ∃ a b c d e, l = [a, b, c, d, e] := by
  match l, h with
  | [a, b, c, d, e], _ => exact ⟨a, b, c, d, e, rfl⟩
theorem els_trod : ∀ (fuel : Nat) (cs : List Value) (x : DataW H × List MemPlace), DataW.trod enc Tryz.prog w base sp held fuel 22 cs = some x → ∃ v, cs = [v] ∧ Els w v := by
  intro fuel
  induction fuel using Nat.strongRecOn with
  | _ fuel ih =>
  intro cs x h
  rcases DataW.trod_slice Tryz.underlying22 h with ⟨h0, _⟩ | ⟨a, len, cap, elems, rest, n, hf, h0, _, hb, hl, hm, hlen, hel, _⟩
  · exact ⟨_, h0, .mk (cs := []) (fun h => absurd h (by simp)) (fun i x h => by simp at h) (by simp)⟩
  · refine ⟨_, h0, ?_⟩
    have key : ∀ i, ∃ y : El, i < len → Els w y.kv ∧ ∀ j u, y.cells[j]? = some u → w.cell? ((a.add (i * 5)).add j) = some u := fun i => by
      by_cases hi : i < len
      · have he := hel i hi
        rw [List.getElem?_eq_getElem (by omega), Tryz.cells57] at he
        obtain ⟨cl, hcl, he⟩ := Option.bind_eq_some_iff.1 he
        obtain ⟨_, hcll, hcell⟩ := World.cells?_some hcl
        obtain ⟨xs, m, hn, _, _, hxl, hxs⟩ := DataW.trod_struct Tryz.underlying57 he
        obtain ⟨c0, c1, c2, c3, c4, rfl⟩ := list5 hcll
        · have hx : ∀ k, k < 5 → ∃ z, xs[k]? = some z := fun k hk => ⟨_, List.getElem?_eq_getElem (by rw [hxl]; exact hk)⟩
          obtain ⟨z0, e0⟩ := hx 0 (by omega)
          obtain ⟨z1, e1⟩ := hx 1 (by omega)
          obtain ⟨z2, e2⟩ := hx 2 (by omega)
          obtain ⟨z3, e3⟩ := hx 3 (by omega)
          obtain ⟨z4, e4⟩ := hx 4 (by omega)
          have g0 := fld1 hxs 0 rfl rfl rfl Tryz.cells9 rfl e0
          have g1 := fld1 hxs 1 rfl rfl rfl Tryz.cells9 rfl e1
          have g2 := fld1 hxs 2 rfl rfl rfl Tryz.cells55 rfl e2
          have g3 := fld1 hxs 3 rfl rfl rfl Tryz.cells9 rfl e3
          have g4 := fld1 hxs 4 rfl rfl rfl Tryz.cells22 rfl e4
          obtain ⟨s0, q0⟩ := trod_str1 Tryz.underlying9 g0
          obtain ⟨s1, q1⟩ := trod_str1 Tryz.underlying9 g1
          obtain ⟨A2, n2, k2, q2⟩ := trod_sl1 Tryz.underlying55 g2
          obtain ⟨s3, q3⟩ := trod_str1 Tryz.underlying9 g3
          obtain ⟨v4, q4, hv4⟩ := ih m (by omega) _ _ g4
          injection q0 with q0
          injection q1 with q1
          injection q2 with q2
          injection q3 with q3
          injection q4 with q4
          subst q0 q1 q2 q3 q4
          refine ⟨⟨s0, s1, A2, n2, k2, s3, c4⟩, fun _ => ⟨hv4, fun j u hu => ?_⟩⟩
          have hj : j < 5 := by have := (List.getElem?_eq_some_iff.1 hu).1; simpa [El.cells] using this
          rw [hcell j hj]
          exact hu
      · exact ⟨default, fun h => absurd h hi⟩
    obtain ⟨C, hC⟩ := Classical.skolem.1 key
    have hget : ∀ i y, ((List.range len).map C)[i]? = some y → i < len ∧ y = C i := fun i y hy => by
      rw [List.getElem?_map] at hy
      obtain ⟨q, hq, rfl⟩ := Option.map_eq_some_iff.1 hy
      obtain ⟨h1, h2⟩ := List.getElem?_eq_some_iff.1 hq
      have hlt : i < len := by simpa using h1
      have : q = i := by simpa using h2.symm
      exact ⟨hlt, by rw [this]⟩
    have hll : ((List.range len).map C).length = len := by simp
    have hmk := Els.mk (w := w) (A := some a) (cs := (List.range len).map C) (c := cap) (fun hp => ?_) (fun i y hy => by obtain ⟨h1, rfl⟩ := hget i y hy; exact (hC i h1).1) (by rw [hll]; have : maxLen = 9223372036854775807 := rfl; omega)
    · rw [hll] at hmk
      exact hmk
    · rw [hll] at hp
      have h00 := (hC 0 hp).2 0 _ rfl
      have h01 : (a.add (0 * 5)).add 0 = a := by simp [Addr.add]
      rw [h01] at h00
      have ha := addr_none h00
      obtain ⟨b, o, s⟩ := a
      injection ha with _ _ hs
      subst hs
      refine ⟨b, o, rfl, fun i y hy j u hu => ?_⟩
      obtain ⟨h1, rfl⟩ := hget i y hy
      have := (hC i h1).2 j u hu
      rw [Fw.add_lit, Fw.add_lit] at this
      exact this
end
end Go.Proofs.YtbggihomiadjjaaGreatDoor
