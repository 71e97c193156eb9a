/- What is proved: the evaluator's conversions are the model's. -/
import Derived.Test.YtbggihomiadjjaaGreatDoorEvOps2
import Derived.Laws.IdiomStrings
import Derived.Laws.BytesArg
import Derived.Laws.AppendOwn
set_option linter.unusedVariables false
set_option linter.unusedSimpArgs false
namespace Go.Ev
open Go Go.Fw

section
variable {P : Program} {o : Oper} {a : Act} {w : World} {f : F} {s s' : S} {ρ : Rho} {N : Nat} {r : AV}
theorem RV.sl_ {i k n : Nat} {c : Cap} {v : Value} (h : RV ρ (.sl i k n c) v) : ∃ A c' p, v = .slice (some A) n c' ∧ n ≤ c' ∧ ρ i = some p ∧ (0 < n → A = ⟨p.b, p.o + k, none⟩) := by
  cases c with
  | u z =>
    obtain ⟨p, A, c', hp, rfl, hn, hor⟩ := h
    refine ⟨A, c', p, rfl, hn, hp, fun h0 => ?_⟩
    rcases hor with ⟨e, _⟩ | e
    · exact e
    · omega
  | k c =>
    obtain ⟨p, hp, rfl, hn⟩ := h
    exact ⟨_, c, p, rfl, hn, hp, fun _ => rfl⟩
theorem slBytes_read {i k n x : Nat} (h : slBytes s i k n = some x) : ∃ row, s.h.get i = some row ∧ row ≠ .dead ∧ readRow row k n = some (.bag n x) := by
  simp only [slBytes, Option.bind_eq_some_iff] at h
  obtain ⟨row, hrow, h⟩ := h
  refine ⟨row, hrow, ?_⟩
  cases row with
  | bytes e m q c =>
    simp only [readRow] at h ⊢
    rw [cble] at h ⊢
    split at h
    · rename_i hfit
      injection h with h
      subst h
      rw [if_pos hfit]
      exact ⟨by simp, rfl⟩
    · cases h
  | _ => cases h
theorem run_toStr {src dst e : TypeId} (hs : P.underlying src = some (.slice e)) (he : P.underlying e = some (.int .u8)) (hd : P.underlying dst = some .string) {i k n x : Nat} {c : Cap} {v : Value} (hv : RV ρ (.sl i k n c) v) (hl : Rel ρ s w) (h : slBytes s i k n = some x) :
    ∃ u, (convert src dst v).run P w = .ok u w ∧ RV ρ (.str n x) u := by
  obtain ⟨row, hrow, hnd, hread⟩ := slBytes_read h
  obtain ⟨A, c', p, rfl, hn, hp, hA⟩ := hv.sl_
  obtain ⟨p', hp', hra⟩ := hl.row i row hrow hnd
  rw [hp] at hp'
  injection hp' with hp'
  subst hp'
  obtain ⟨vs, hlen, hcs, hru⟩ := hra.cells_ hread
  obtain ⟨e1, e2⟩ := hru
  have e3 : vs = (byL n x).map vU := by
    injection e1 with e1
    simpa using congrArg Array.toList e1
  subst e3
  by_cases h0 : 0 < n
  · have hA' := hA h0
    subst hA'
    have hrun := run_convert_bytes_arg (P := P) w src e hs he p.b (p.o + k) n c' ((byL n x).map fun z => (z.toNat : Int)) (by rw [List.length_map, byL_len]) (fun j hj => by
      have hg : (byL n x)[j]? = some ((byL n x)[j]'(by rw [byL_len]; exact hj)) := List.getElem?_eq_getElem _
      have := hcs j (vU ((byL n x)[j]'(by rw [byL_len]; exact hj))) (by rw [List.getElem?_map, hg]; rfl)
      rw [this]
      simp [vU, List.getD_eq_getElem?_getD, List.getElem?_map, hg]) dst hd
    refine ⟨_, hrun, _, rfl, ?_, e2⟩
    simp [strOfNums, Function.comp_def]
  · have hn0 : n = 0 := by omega
    subst hn0
    rw [run_convert_bytes_string w src dst e _ _ _ hs he hd]
    have hz := run_bytesToString (P := P) w A 0 c' [] (by rfl)
    exact ⟨_, hz, _, rfl, rfl, e2⟩
theorem op_convert {src dst : Nat} {x : Operand} (ho : o.op = .convert src dst x) (h : oConv P f s src dst x = some (r, s')) (hF : FO ρ f a o) (hl : Rel ρ s w) : OpS P o a w ρ s r s' := by
  simp only [oConv, Option.bind_eq_some_iff] at h
  obtain ⟨v, hv, h⟩ := h
  have hc := hF.opd (by rw [ho]; simp [Op.operands]) hv
  have fin : ∀ {z w' ρ'}, (convert src dst (a.eval x)).run P w = .ok z w' → RV ρ' r z → Goes ρ s w ρ' s' w' → OpS P o a w ρ s r s' := fun {z w' ρ'} g1 g2 g3 => by
    refine ⟨z, ρ', w', .inl ?_, g2, g3⟩
    unfold execOp
    rw [ho]
    simp [g1]
  unfold convA at h
  split at h
  · rename_i k k' k2 n hs hd
    injection h with h
    injection h with h1 h2
    subst h1 h2
    have e : a.eval x = .int k2 n := hc
    refine fin (z := .int k' (k'.wrap n)) (w' := w) ?_ wr_rv (Goes.refl hl)
    rw [e]
    simp [convert, run_und (undT_eq hs), run_und (undT_eq hd), Conv.intToInt]
  · rename_i d n c hs hd
    injection h with h
    injection h with h1 h2
    subst h1 h2
    obtain ⟨b, e, hb⟩ := hc
    refine fin (z := .string b) (w' := w) ?_ ⟨b, rfl, hb⟩ (Goes.refl hl)
    rw [e]
    cases d <;> simp [convert, run_und (undT_eq hs), run_und (undT_eq hd)]
  · rename_i e hs hd
    cases hU : isU8 P e with
    | false => rw [hU] at h; cases h
    | true =>
      rw [hU] at h
      injection h with h
      injection h with h1 h2
      subst h1 h2
      have he : a.eval x = .slice none 0 0 := hc
      refine fin (w' := w) (by rw [he]; exact run_convert_bytes_nil w src e (undT_eq hs) (isU8_eq hU) 0 0 dst (undT_eq hd)) ⟨_, rfl, rfl, by decide⟩ (Goes.refl hl)
  · rename_i e i k n c hs hd
    cases hU : isU8 P e with
    | false => rw [hU] at h; cases h
    | true =>
      rw [hU] at h
      simp only [cond_true, Option.bind_eq_some_iff, Option.some.injEq, Prod.mk.injEq] at h
      obtain ⟨q, hq, rfl, rfl⟩ := h
      obtain ⟨u, hu, hr⟩ := run_toStr (undT_eq hs) (isU8_eq hU) (undT_eq hd) hc hl hq
      exact fin hu hr (Goes.refl hl)
  · rename_i e' e i k n c hs hd
    cases hU : and (isU8 P e) (and (Nat.beq src dst) (Nat.blt 0 n)) with
    | false => rw [hU] at h; cases h
    | true =>
      rw [hU] at h
      simp only [Bool.and_eq_true] at hU
      obtain ⟨hU, hsd, h0⟩ := hU
      have hsd := Nat.eq_of_beq_eq_true hsd
      subst hsd
      have h0 : 0 < n := by rw [blt_dec] at h0; exact of_decide_eq_true h0
      simp only [cond_true, markA] at h
      rw [cblt] at h
      split at h
      · cases h
      rename_i h1000
      simp only [Option.bind_eq_some_iff] at h
      obtain ⟨row, hrow, h⟩ := h
      cases row with
      | bytes e2 m q d =>
        injection h with h
        injection h with h1 h2
        subst h1 h2
        have hc0 := hc
        obtain ⟨A, c', p, ev, hn, hp, hA⟩ := hc.sl_
        have hA' := hA h0
        subst hA'
        obtain ⟨p', hp', hra⟩ := hl.row i _ hrow (by simp)
        rw [hp] at hp'
        injection hp' with hp'
        subst hp'
        obtain ⟨hd0, arr, et, fr, hb, hsz, hfr, h4, h5, h6⟩ := hra
        have hsh : w.shape? p.b = some (et, arr.size) := by
          unfold World.shape?
          rw [hb]
        have hrun : (convert src src (a.eval x)).run P w = .ok (a.eval x) (w.freeze ⟨p.b, arr.size, none⟩ 1) := by
          rw [ev]
          simp [convert, run_und (undT_eq hd), run_und (isU8_eq hU), markStringish, hsh]
        have hp1 : (w.freeze ⟨p.b, arr.size, none⟩ 1).heap[p.b]? = some (.cells arr et (if fr.1 == fr.2 then (arr.size, arr.size + 1) else (min fr.1 arr.size, max fr.2 (arr.size + 1)))) := by
          simp [World.freeze, Array.getElem?_modify, hb]
        refine fin hrun hc0 (goes_put hl (by omega) hrow (by simp) hp (by simp [World.freeze]) rfl rfl rfl (fun b hb' => ?_) fun _ => ⟨hd0, arr, et, _, hp1, hsz, ?_, h4, h5, h6⟩)
        · have hne' : ¬ p.b = b := fun e => hb' e.symm
          simp [World.freeze, Array.getElem?_modify, hne']
        · rcases hfr with hfr | hfr
          · rw [hfr, beq_self_eq_true, if_pos rfl]
            right
            show p.sz ≤ arr.size
            omega
          · split
            · right
              show p.sz ≤ arr.size
              omega
            · right
              show p.sz ≤ min fr.1 arr.size
              omega
      | _ => cases h
  · rename_i e n c hs hd
    cases hU : isU8 P e with
    | false => rw [hU] at h; cases h
    | true =>
      rw [hU] at h
      simp only [cond_true, ret2, Option.bind_eq_some_iff, Option.some.injEq, Prod.mk.injEq] at h
      obtain ⟨row, rfl, rfl, rfl⟩ := h
      obtain ⟨b, ev, hb, hcl⟩ := hc
      have hbs : b.size = n := by
        show b.data.size = n
        rw [← Array.length_toList, hb, byL_len]
      have hge := grownCap_ge w b.size 0 e
      have hrun := run_bytes_of_string (P := P) w src dst e b (undT_eq hs) (undT_eq hd) (isU8_eq hU)
      obtain ⟨C, hC⟩ : ∃ C, C = grownCap w b.size 0 e := ⟨_, rfl⟩
      rw [← hC] at hrun hge
      have hsize : (bytesRow b C).size = C := by
        simp [bytesRow]
        show b.data.size + (C - b.size) = C
        have : b.data.size = b.size := rfl
        omega
      have hh : (w.drew.alloc (.cells (bytesRow b C) e ((bytesRow b C).size, (bytesRow b C).size + 1))).heap = w.heap.push (.cells (bytesRow b C) e ((bytesRow b C).size, (bytesRow b C).size + 1)) := rfl
      refine fin (w' := w.drew.alloc (.cells (bytesRow b C) e ((bytesRow b C).size, (bytesRow b C).size + 1))) (ρ' := ρ.set s.nx ⟨w.heap.size, 0, C⟩) (by rw [ev]; exact hrun) ⟨⟨w.heap.size, 0, C⟩, ⟨w.heap.size, 0, none⟩, C, if_pos rfl, by rw [hbs], by omega, .inl ⟨rfl, by show 0 + 0 + C * 1 = C; omega⟩⟩
        (goes_new hl (by rw [hh, Array.size_push]; omega) rfl rfl rfl (fun j hj => by rw [hh, Array.getElem?_push, if_neg (Nat.ne_of_lt hj)]) fun ρ' _ => ⟨hcl, _, e, _, by rw [hh, Array.getElem?_push, if_pos rfl], hsize, .inr (by show C ≤ (bytesRow b C).size; omega), by show 0 + n ≤ C; omega, (fun h => absurd h (by decide)), fun j y hy => ?_⟩)
      rw [Nat.zero_add]
      have hj : j < n := by have := (List.getElem?_eq_some_iff.1 hy).1; rwa [byL_len] at this
      rw [← hb] at hy
      simp only [bytesRow]
      rw [Array.getElem?_append_left (by rw [Array.size_map]; show j < b.data.size; have : b.data.size = b.size := rfl; omega), Array.getElem?_map, ← Array.getElem?_toList, hy]
      rfl
  · cases h
end
end Go.Ev
