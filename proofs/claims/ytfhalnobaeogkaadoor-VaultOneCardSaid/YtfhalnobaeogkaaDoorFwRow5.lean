/- What is proved: how a struct of two texts and a truth comes in; how an array of three ints comes in. -/
import Derived.Test.YtfhalnobaeogkaaDoorFwRow4
import Derived.Test.YtfhalnobaeogkaaDoorFwVlt
set_option linter.unusedVariables false
set_option linter.unusedSimpArgs false
namespace Go.Fw
open Go Go.RowKit Go.ChangeShapes Go.WideShapes Go.Deep
theorem one_of {α : Type} {l : List α} {j : Nat} {x : α} (h : l[j]? = some x) : (l.drop j).take 1 = [x] := by
  have hj := (List.getElem?_eq_some_iff.1 h).1
  rw [List.drop_eq_getElem_cons hj, List.take_succ_cons, List.take_zero]
  have := (List.getElem?_eq_some_iff.1 h).2
  rw [this]
theorem open_rec3 {H : Type} {enc : TypeId × Value → H} {P : Program} {w : World} {r : Reach} {base0 base : Nat} {held : Bool} {t s b : TypeId} {F0 F1 F2 : Field} {v : Value} {d : DataW H} {p : List MemPlace} (ht : P.underlying t = some (.struct #[F0, F1, F2])) (ho : F0.offset = 0 ∧ F1.offset = 1 ∧ F2.offset = 2) (hty : F0.type = s ∧ F1.type = s ∧ F2.type = b)
    (hs : P.underlying s = some .string) (hb : P.underlying b = some .bool) (hct : P.cellsOf t = 3) (hcs : P.cellsOf s = 1) (hcb : P.cellsOf b = 1)
    (hok : Value.okWide P w r base0 t v) (h : DataW.Trod enc P w base (fun _ => true) held t v d p) (hw : ∀ n ∈ d.weights P t, n ≤ reachBytes) : ∃ (a c : List UInt8) (q : Bool), v = recV a c q ∧ a.length ≤ 140737488355328 ∧ c.length ≤ 140737488355328 := by
  simp only [Value.okWide, ht] at hok
  obtain ⟨cs, rfl, h2, _⟩ := hok
  obtain ⟨o0, o1, o2⟩ := ho
  obtain ⟨t0, t1, t2⟩ := hty
  obtain ⟨fuel, hf⟩ := h
  obtain ⟨xs, m, _, hx, _, hl, hel⟩ := DataW.trod_struct ht hf
  obtain ⟨cl⟩ := cs
  rw [hct] at h2
  match cl, h2, xs, hl with
  | [c0, c1, c2], _, [x0, x1, x2], _ =>
    have h0 := hel 0 F0 rfl
    have h1 := hel 1 F1 rfl
    have h3 := hel 2 F2 rfl
    rw [o0, t0, hcs] at h0
    rw [o1, t1, hcs] at h1
    rw [o2, t2, hcb] at h3
    have g0 : DataW.trod enc P w base (fun _ => true) held m s [c0] = some x0 := h0
    have g1 : DataW.trod enc P w base (fun _ => true) held m s [c1] = some x1 := h1
    have g2 : DataW.trod enc P w base (fun _ => true) held m b [c2] = some x2 := h3
    obtain ⟨s0, e0, d0, _⟩ := DataW.trod_string hs g0
    obtain ⟨s1, e1, d1, _⟩ := DataW.trod_string hs g1
    obtain ⟨q, e2, _⟩ := DataW.trod_bool hb g2
    injection e0 with e0
    injection e1 with e1
    injection e2 with e2
    subst e0; subst e1; subst e2
    simp only [Prod.mk.injEq] at hx
    have wt : ∀ (x : DataW H × List MemPlace) (sx : ByteArray) (j : Nat) (Fj : Field), ([x0, x1, x2] : List (DataW H × List MemPlace))[j]? = some x → (#[F0, F1, F2] : Array Field)[j]? = some Fj → x.1 = .lit (.string sx.data.toList) → sx.data.toList.length ≤ 140737488355328 := by
      intro x sx j Fj hxj hfj hxe
      have : sx.data.toList.length ≤ reachBytes := by
        refine hw _ ?_
        rw [hx.1]
        simp only [DataW.weights, ht]
        refine weights_each (j := j) (t := Fj.type) (d := x.1) ?_ ?_ _ ?_
        · rw [List.getElem?_map, Array.getElem?_toList, hfj]; rfl
        · rw [List.getElem?_map, hxj]; rfl
        · rw [hxe]; simp [DataW.weights]
      have hr : reachBytes = 140737488351232 := by decide
      omega
    refine ⟨s0.data.toList, s1.data.toList, q, by rw [recV, sV, sV], wt x0 s0 0 F0 rfl rfl (congrArg Prod.fst d0), wt x1 s1 1 F1 rfl rfl (congrArg Prod.fst d1)⟩
theorem open_int3 {P : Program} {w : World} {r : Reach} {base : Nat} {t e : TypeId} {v : Value} (ht : P.underlying t = some (.array 3 e)) (he : P.underlying e = some (.int .i64)) (hc : P.cellTypes P.depth t = some [e, e, e]) (hn : P.cellsOf t = 3) (h : Value.okWide P w r base t v) :
    ∃ i j k : Int, v = .agg #[.int .i64 i, .int .i64 j, .int .i64 k] := by
  simp only [Value.okWide, ht] at h
  obtain ⟨cs, rfl, h2, ts', h3, _, h4⟩ := h
  rw [hc] at h3
  injection h3 with h3
  subst h3
  have one : ∀ (i : Nat) (v : Value), cs[i]? = some v → ∃ k : Int, v = .int .i64 k := by
    intro i v hi
    obtain ⟨u, hu, hk⟩ := h4 i v hi
    have hue : u = e := by
      have := List.mem_of_getElem? hu
      simpa using this
    subst hue
    unfold Cell.okWide at hk
    rw [he] at hk
    cases v <;> simp [Cell.ok, he] at hk
    obtain ⟨rfl, _⟩ := hk
    exact ⟨_, rfl⟩
  obtain ⟨cl⟩ := cs
  rw [hn] at h2
  match cl, h2 with
  | [c0, c1, c2], _ =>
    obtain ⟨i, rfl⟩ := one 0 c0 rfl
    obtain ⟨j, rfl⟩ := one 1 c1 rfl
    obtain ⟨k, rfl⟩ := one 2 c2 rfl
    exact ⟨i, j, k, rfl⟩
end Go.Fw
