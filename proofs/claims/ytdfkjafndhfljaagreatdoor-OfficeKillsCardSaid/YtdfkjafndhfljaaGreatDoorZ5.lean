/- What is proved: append where there is room. And what follows from it: the row behind an append that grows. append that grows. append onto a slice that is none. append onto a slice whose room is not known, where there is room. what the evaluator says of an append is what the model does. maps whose keys are strings: what the evaluator makes of them is what the model does. unsafe.SliceData and unsafe.String: what the evaluator makes of them is what the model does. loops over a string's letters (ASCII alone): what the evaluator says is what the model does. what the evaluator says of any operation but a call is what the model does; which operations look at no memory, and which lay a row and do nothing else. -/
import Derived.Test.YtdfkjafndhfljaaGreatDoorZ2
import Derived.Test.YtdfkjafndhfljaaGreatDoorZ4
import Derived.Laws.IdiomCopy
import Derived.MapKept
import Derived.Laws.RangeString
set_option linter.unusedVariables false
set_option linter.unusedSimpArgs false
namespace Go.Ev
open Go Go.Fw

section
variable {P : Program} {w : World} {s s' : S} {ρ : Rho}
/-- What an append does where there is room. -/
def RoomP (P : Program) (w : World) (T : Array TypeId) (ty : TypeId) (A : Array Value) (z k : Nat) (cs : Array Value) : Prop :=
  ∀ (b : Addr) (n c : Nat) (w' : World), A[0]? = some (.slice (some b) n c) → n + k ≤ c → (storeCells (b.add (n * z)) cs.toList).run P w = .ok () w' → (Builtin.append_ T ty A).run P w = .ok (.slice (some b) (n + k) c) w'
theorem appK_run {i q n c k z : Nat} {ty : TypeId} {T : Array TypeId} {A cs : Array Value} {v : AV} {su : Value} {s2 : S} (hS : RoomP P w T ty A z k cs)
    (hA : A[0]? = some su) (hr : RV ρ v (.agg cs)) (hs : RV ρ (.sl i q n (.k c)) su) (hl : Rel ρ s w) (hst : storeA s i (q + n * z) v = some s2) (hroom : n + k ≤ c) :
    ∃ r' w', (Builtin.append_ T ty A).run P w = .ok r' w' ∧ RV ρ (.sl i q (n + k) (.k c)) r' ∧ Goes ρ s w ρ s2 w' := by
  obtain ⟨p, hp, rfl, hn⟩ := hs
  obtain ⟨g1, g2⟩ := storeA_goes (P := P) hst hr hl hp
  refine ⟨_, _, hS _ n c (w.setCells p.b (p.o + (q + n * z)) cs.toList) hA hroom ?_, ⟨p, hp, rfl, hroom⟩, g2⟩
  rw [Addr.add_lit, Nat.add_assoc]
  exact g1
end
end Go.Ev
set_option linter.unusedVariables false
set_option linter.unusedSimpArgs false
namespace Go.Ev
open Go Go.Fw

section
variable {P : Program} {w : World} {s s' : S} {ρ : Rho}
theorem cells_at {e : Nat} {l : List AV} {vs pad : List Value} (h1 : RVs ρ l vs) (h2 : ∀ y ∈ l, y.one = true) {w' : World} {b sz : Nat} {arr : Array Value} {et : TypeId} {fr : Nat × Nat} (hb : w'.heap[b]? = some (.cells arr et fr)) (harr : arr.toList = vs ++ pad) (hsz : arr.size = sz) (hfr : FrOk fr sz) :
    ∀ ρ', (∀ i p, ρ i = some p → ρ' i = some p) → RowAt ρ' w' ⟨b, 0, sz⟩ (.cells e true l) := by
  intro ρ' hx
  have hlen : arr.size = vs.length + pad.length := by rw [← Array.length_toList, harr, List.length_append]
  refine ⟨arr, et, fr, hb, hsz, hfr, by show 0 + l.length ≤ sz; rw [h1.len]; omega, (fun hr => absurd hr (by decide)), fun k y hy => ?_⟩
  obtain ⟨u, hu, hru⟩ := h1.get hy
  refine ⟨h2 y (List.mem_of_getElem? hy), u, ?_, RV.mono hx y u hru⟩
  rw [Nat.zero_add, ← Array.getElem?_toList, harr, List.getElem?_append_left (by exact (List.getElem?_eq_some_iff.1 hu).1)]
  exact hu
theorem bytes_at {e n c : Nat} {pad : List Value} (hc : c < 2 ^ (8 * n)) {w' : World} {b sz : Nat} {arr : Array Value} {et : TypeId} {fr : Nat × Nat} (hb : w'.heap[b]? = some (.cells arr et fr)) (harr : arr.toList = (byL n c).map vU ++ pad) (hsz : arr.size = sz) (hfr : FrOk fr sz) (het : e = 0 ∨ et = e) :
    ∀ ρ' : Rho, RowAt ρ' w' ⟨b, 0, sz⟩ (.bytes e true n c) := by
  intro ρ'
  have hlen : arr.size = n + pad.length := by rw [← Array.length_toList, harr, List.length_append, List.length_map, byL_len]
  refine ⟨hc, arr, et, fr, hb, hsz, ⟨hfr, het⟩, by show 0 + n ≤ sz; omega, (fun hr => absurd hr (by decide)), fun k y hy => ?_⟩
  have hk : k < n := by have := (List.getElem?_eq_some_iff.1 hy).1; rwa [byL_len] at this
  rw [Nat.zero_add, ← Array.getElem?_toList, harr, List.getElem?_append_left (by rw [List.length_map, byL_len]; exact hk), List.getElem?_map, hy]
  rfl
theorem catRow_at {e o m : Nat} {r row : Row} {y v : AV} {olds news : Array Value} {pad : List Value} (h : catRow e r o m v = some row) (hy : readRow r o m = some y) (ho : RV ρ y (.agg olds)) (hn : RV ρ v (.agg news)) {w' : World} {b sz : Nat} {arr : Array Value} {et : TypeId} {fr : Nat × Nat} (hb : w'.heap[b]? = some (.cells arr et fr))
    (harr : arr.toList = (olds.toList ++ news.toList) ++ pad) (hsz : arr.size = sz) (hfr : FrOk fr sz) (het : e = 0 ∨ et = e) : ∀ ρ', (∀ i p, ρ i = some p → ρ' i = some p) → RowAt ρ' w' ⟨b, 0, sz⟩ row := by
  simp only [catRow, hy, Option.bind_some] at h
  split at h
  · rename_i n1 c1 n2 c2
    injection h with h
    subst h
    obtain ⟨e1, b1⟩ := ho
    obtain ⟨e2, b2⟩ := hn
    injection e1 with e1
    injection e2 with e2
    subst e1 e2
    intro ρ' _
    exact bytes_at (n := n1 + n2) (bCat_lt b1 b2) hb (by rw [harr, byL_cat n1 n2 c1 c2 b1, List.map_append]) hsz hfr het ρ'
  · rename_i l1 l2
    injection h with h
    subst h
    obtain ⟨a1, e1, r1, o1⟩ := ho
    obtain ⟨a2, e2, r2, o2⟩ := hn
    injection e1 with e1
    injection e2 with e2
    subst e1 e2
    exact cells_at (r1.append r2) (fun x hx => by
      rcases List.mem_append.1 hx with hx | hx
      · exact allOne_mem o1 x hx
      · exact allOne_mem o2 x hx) hb harr hsz hfr
  · cases h
end
end Go.Ev
set_option linter.unusedVariables false
set_option linter.unusedSimpArgs false
namespace Go.Ev
open Go Go.Fw

section
variable {P : Program} {w : World} {s s' : S} {ρ : Rho}
def AV.isAgg : AV → Bool
  | .agg _ => true
  | .bag _ _ => true
  | _ => false
theorem RV.aggcnt {y : AV} {cs : Array Value} (h : RV ρ y (.agg cs)) (hy : y.isAgg = true) : cs.size = y.cnt := by
  cases y with
  | agg l =>
    obtain ⟨a, e, r, _⟩ := h
    injection e with e
    subst e
    show _ = lenL l
    rw [lenL_eq, r.len, Array.length_toList]
  | bag n c =>
    obtain ⟨e, _⟩ := h
    injection e with e
    subst e
    simp [AV.cnt, byL_len]
  | _ => cases hy
theorem appG_run {s2 : S} (hl2 : Rel ρ s2 w) {e n c k z i q : Nat} {cap : Cap} {ti : TypeInfo} {zv : Value} {ty : TypeId} {T : Array TypeId} {A news : Array Value} {v y : AV} {B : Option Addr} {r row : Row} (hS : Src P w T ty A e ti zv k news) (hzs : zv.cells.size = ti.size) (hsz : ti.size = z)
    (hA : A[0]? = some (.slice B n c)) (hnr : RV ρ v (.agg news)) (hs : RV ρ (.sl i q n cap) (.slice B n c)) (hl : Rel ρ s w)
    (hr : s.h.get i = some r) (hy : readRow r q (n * z) = some y) (hya : y.isAgg = true) (hva : v.isAgg = true) (hyc : y.cnt = n * z) (hvc : v.cnt = k * z) {e1 : Nat} (he1 : e1 = 0 ∨ e = e1) (hcat : catRow e1 r q (n * z) v = some row)
    (hroom : c < n + k) (h63 : n + k ≤ 9223372036854775807) (hfit : Builtin.nextslicecap (n + k) c * ti.bytes ≤ 281474976710656) :
    ∃ r' w' p, (Builtin.append_ T ty A).run P w = .ok r' w' ∧ RV (ρ.set s2.nx p) (.sl s2.nx 0 (n + k) (.u z)) r' ∧ Goes ρ s2 w (ρ.set s2.nx p) ⟨s2.h.set s2.nx row, s2.nx + 1⟩ w' := by
  have hsrc0 : srcA s (.sl i q n cap) z n = some y := by
    show (bif Nat.ble n n then (s.h.get i).bind fun r => readRow r q (Nat.mul n z) else none) = some y
    rw [cble, if_pos (Nat.le_refl _), hr]
    exact hy
  obtain ⟨olds, ho, hor⟩ := srcA_run (P := P) hsrc0 hs hl
  subst hsz
  have hrun := hS.grow B n c olds hA (ho w.drew rfl) hroom h63 hfit
  have hge := grownCap_ge w (n + k) c e
  obtain ⟨C, hC⟩ : ∃ C, C = grownCap w (n + k) c e := ⟨_, rfl⟩
  rw [← hC] at hrun hge
  have so : olds.size = n * ti.size := by rw [hor.aggcnt hya, hyc]
  have sn : news.size = k * ti.size := by rw [hnr.aggcnt hva, hvc]
  have hsize : (olds ++ news ++ Builtin.zeroCells zv.cells (C - (n + k))).size = C * ti.size := by
    rw [Array.size_append, Array.size_append, size_zeroCells, hzs, so, sn, ← Nat.add_mul, ← Nat.add_mul]
    congr 1
    omega
  have hh : (w.drew.alloc (.cells (olds ++ news ++ Builtin.zeroCells zv.cells (C - (n + k))) e)).heap = w.heap.push (.cells (olds ++ news ++ Builtin.zeroCells zv.cells (C - (n + k))) e) := rfl
  refine ⟨_, _, ⟨w.heap.size, 0, C * ti.size⟩, hrun, ⟨⟨w.heap.size, 0, C * ti.size⟩, _, C, if_pos rfl, rfl, hge, .inl ⟨rfl, by show 0 + 0 + C * ti.size = C * ti.size; omega⟩⟩,
    goes_new hl2 (by rw [hh, Array.size_push]; omega) rfl rfl rfl (fun j hj => by rw [hh, Array.getElem?_push, if_neg (Nat.ne_of_lt hj)])
      (catRow_at hcat hy hor hnr (pad := (Builtin.zeroCells zv.cells (C - (n + k))).toList) (by rw [hh, Array.getElem?_push, if_pos rfl]) (by simp) hsize (frok0 _) he1)⟩
end
end Go.Ev
set_option linter.unusedVariables false
set_option linter.unusedSimpArgs false
namespace Go.Ev
open Go Go.Fw

section
variable {P : Program} {w : World} {s s' : S} {ρ : Rho}
theorem appN_run {e k z : Nat} {ti : TypeInfo} {zv : Value} {ty : TypeId} {T : Array TypeId} {A news : Array Value} {v : AV} {row : Row} (hS : Src P w T ty A e ti zv k news) (hzs : zv.cells.size = ti.size) (hsz : ti.size = z)
    (hA : A[0]? = some (.slice none 0 0)) (hnr : RV ρ v (.agg news)) (hl : Rel ρ s w) (hva : v.isAgg = true) (hvc : v.cnt = k * z) (hcat : rowOf P e true v = some row)
    (hroom : 0 < k) (h63 : k ≤ 9223372036854775807) (hfit : Builtin.nextslicecap k 0 * ti.bytes ≤ 281474976710656) :
    ∃ r' w' p, (Builtin.append_ T ty A).run P w = .ok r' w' ∧ RV (ρ.set s.nx p) (.sl s.nx 0 k (.u z)) r' ∧ Goes ρ s w (ρ.set s.nx p) ⟨s.h.set s.nx row, s.nx + 1⟩ w' := by
  subst hsz
  have hrun := hS.grow none 0 0 #[] hA rfl (by omega) (by omega) (by rw [Nat.zero_add]; exact hfit)
  rw [Nat.zero_add] at hrun
  have hge := grownCap_ge w k 0 e
  obtain ⟨C, hC⟩ : ∃ C, C = grownCap w k 0 e := ⟨_, rfl⟩
  rw [← hC] at hrun hge
  have sn : news.size = k * ti.size := by rw [hnr.aggcnt hva, hvc]
  have hsize : (#[] ++ news ++ Builtin.zeroCells zv.cells (C - k)).size = C * ti.size := by
    have e1 : (#[] ++ news ++ Builtin.zeroCells zv.cells (C - k)).size = k * ti.size + (C - k) * ti.size := by
      rw [Array.size_append, Array.size_append, size_zeroCells, hzs, sn]
      simp
    rw [e1, ← Nat.add_mul]
    congr 1
    omega
  have hh : (w.drew.alloc (.cells (#[] ++ news ++ Builtin.zeroCells zv.cells (C - k)) e)).heap = w.heap.push (.cells (#[] ++ news ++ Builtin.zeroCells zv.cells (C - k)) e) := rfl
  refine ⟨_, _, ⟨w.heap.size, 0, C * ti.size⟩, hrun, ⟨⟨w.heap.size, 0, C * ti.size⟩, _, C, if_pos rfl, rfl, hge, .inl ⟨rfl, by show 0 + 0 + C * ti.size = C * ti.size; omega⟩⟩,
    goes_new hl (by rw [hh, Array.size_push]; omega) rfl rfl rfl (fun j hj => by rw [hh, Array.getElem?_push, if_neg (Nat.ne_of_lt hj)])
      (rowOf_at hcat hnr (pad := (Builtin.zeroCells zv.cells (C - k)).toList) (by rw [hh, Array.getElem?_push, if_pos rfl]) (by simp [Value.cells]) hsize (frok0 _) (fun h => absurd h (by decide)) rfl)⟩
end
end Go.Ev
set_option linter.unusedVariables false
set_option linter.unusedSimpArgs false
namespace Go.Ev
open Go Go.Fw

section
variable {P : Program} {w : World} {s s' : S} {ρ : Rho}
theorem catRow_off {e o m : Nat} {r row : Row} {y v : AV} {olds news : Array Value} (h : catRow e r o m v = some row) (hy : readRow r o m = some y) (ho : RV ρ y (.agg olds)) (hn : RV ρ v (.agg news)) {w' : World} {b o' sz : Nat} {arr : Array Value} {et : TypeId} {fr : Nat × Nat} (hb : w'.heap[b]? = some (.cells arr et fr))
    (hc : ∀ j u, (olds.toList ++ news.toList)[j]? = some u → arr[o' + j]? = some u) (hle : o' + (olds.size + news.size) ≤ sz) (hsz : arr.size = sz) (hfr : FrOk fr sz) (het : ∀ e' m' n' c', r = .bytes e' m' n' c' → e = 0 ∨ et = e) : ∀ ρ', (∀ i p, ρ i = some p → ρ' i = some p) → RowAt ρ' w' ⟨b, o', sz⟩ row := by
  simp only [catRow, hy, Option.bind_some] at h
  split at h
  · rename_i n1 c1 n2 c2
    injection h with h
    subst h
    obtain ⟨e1, b1⟩ := ho
    obtain ⟨e2, b2⟩ := hn
    injection e1 with e1
    injection e2 with e2
    subst e1 e2
    intro ρ' _
    have het' : e = 0 ∨ et = e := by
      cases r with
      | bytes e' m' n' c' => exact het _ _ _ _ rfl
      | cells e' m' l' =>
        simp only [readRow, Option.bind_eq_some_iff] at hy
        obtain ⟨_, _, hy⟩ := hy
        cases hy
      | dead => cases hy
      | map l' => cases hy
      | iter n c k => cases hy
    have hlen : o' + (n1 + n2) ≤ sz := by simpa [byL_len] using hle
    refine ⟨bCat_lt b1 b2, arr, et, fr, hb, hsz, ⟨hfr, het'⟩, hlen, (fun hr => absurd hr (by decide)), fun k x hx => ?_⟩
    apply hc
    rw [show Nat.add n1 n2 = n1 + n2 from rfl, byL_cat n1 n2 c1 c2 b1] at hx
    have := congrArg (Option.map vU) hx
    rw [← List.getElem?_map, List.map_append] at this
    exact this
  · rename_i l1 l2
    injection h with h
    subst h
    obtain ⟨a1, e1, r1, o1⟩ := ho
    obtain ⟨a2, e2, r2, o2⟩ := hn
    injection e1 with e1
    injection e2 with e2
    subst e1 e2
    intro ρ' hx
    have hr := r1.append r2
    have hlen : o' + (l1 ++ l2).length ≤ sz := by
      have := hr.len
      rw [this]
      simpa using hle
    refine ⟨arr, et, fr, hb, hsz, hfr, hlen, (fun hr => absurd hr (by decide)), fun k z hz => ?_⟩
    obtain ⟨u, hu, hru⟩ := hr.get hz
    refine ⟨?_, u, hc k u hu, RV.mono hx z u hru⟩
    rcases List.mem_append.1 (List.mem_of_getElem? hz) with hm | hm
    · exact allOne_mem o1 z hm
    · exact allOne_mem o2 z hm
  · cases h
theorem readRow_agg {r : Row} {o n : Nat} {y : AV} (h : readRow r o n = some y) : y.isAgg = true ∧ y.cnt = n := by
  cases r with
  | cells e m l =>
    simp only [readRow, Option.bind_eq_some_iff, Option.some.injEq] at h
    obtain ⟨x, hx, rfl⟩ := h
    obtain ⟨h1, h2⟩ := takeL_some _ _ _ hx
    refine ⟨rfl, ?_⟩
    show lenL x = n
    rw [lenL_eq, h1, List.length_take]
    omega
  | bytes e m k c =>
    rw [readRow, cble] at h
    split at h
    · injection h with h
      subst h
      exact ⟨rfl, rfl⟩
    · cases h
  | dead => cases h
  | map l => cases h
  | iter n c k => cases h
theorem srcA_agg {x v : AV} {z k : Nat} (h : srcA s x z k = some v) : v.isAgg = true := by
  unfold srcA at h
  split at h
  · rw [cble] at h
    split at h
    · injection h with h
      subst h
      rfl
    · cases h
  · rw [cbeq] at h
    split at h
    · injection h with h
      subst h
      rfl
    · cases h
  · rw [cble] at h
    split at h
    · simp only [Option.bind_eq_some_iff] at h
      obtain ⟨r, _, h⟩ := h
      exact (readRow_agg h).1
    · cases h
  · cases h
theorem catRow_len {e o m : Nat} {r row : Row} {v : AV} (h : catRow e r o m v = some row) : ∃ y, readRow r o m = some y := by
  simp only [catRow, Option.bind_eq_some_iff] at h
  obtain ⟨y, hy, _⟩ := h
  exact ⟨y, hy⟩
theorem aggRV_one {v : AV} {cs : Array Value} (h : RV ρ v (.agg cs)) (hv : v.isAgg = true) : ∀ u ∈ cs.toList, u.oneCell' = true := by
  cases v with
  | agg l => exact (h.cel (l := l) rfl).2.2
  | bag n c => exact (h.cel (l := bList c n 0) rfl).2.2
  | _ => cases hv
theorem appU_run {e n c k z i q : Nat} {ti : TypeInfo} {zv : Value} {ty : TypeId} {T : Array TypeId} {A cs : Array Value} {v : AV} {r row : Row} {p : Pl} (hS : Src P w T ty A e ti zv k cs) (hsz : ti.size = z)
    (hA : A[0]? = some (.slice (some ⟨p.b, p.o + q, none⟩) n c)) (hrv : RV ρ v (.agg cs)) (hp : ρ i = some p) (h1000 : 1000 ≤ i) (hl : Rel ρ s w)
    (hr : s.h.get i = some r) (hva : v.isAgg = true) (hvc : v.cnt = k * z) {e1 : Nat} (he1 : e1 = 0 ∨ rowElem r = e1) (hcat : catRow e1 r q (n * z) v = some row)
    (hcap : p.o + q + c * z = p.sz) (hroom : n + k ≤ c) :
    ∃ r' w' p2, (Builtin.append_ T ty A).run P w = .ok r' w' ∧ RV (ρ.set s.nx p2) (.sl s.nx 0 (n + k) (.u z)) r' ∧ Goes ρ s w (ρ.set s.nx p2) ⟨(s.h.set i .dead).set s.nx row, s.nx + 1⟩ w' := by
  have hcn : cs.size = k * z := by rw [hrv.aggcnt hva, hvc]
  obtain ⟨y, hy⟩ := catRow_len hcat
  have hnd : r ≠ .dead := by rintro rfl; cases hy
  obtain ⟨p', hp', hra⟩ := hl.row i r hr hnd
  rw [hp] at hp'
  injection hp' with hp'
  subst hp'
  obtain ⟨vs, hlen, hcells, hru⟩ := hra.cells_ hy
  have hb : ∃ arr et fr, w.heap[p.b]? = some (.cells arr et fr) ∧ arr.size = p.sz ∧ FrOk fr p.sz ∧ (∀ e' m' n' c', r = .bytes e' m' n' c' → e1 = 0 ∨ et = e1) := by
    cases r with
    | cells e m l => obtain ⟨arr, et, fr, h1, h2, h3, _⟩ := hra; exact ⟨arr, et, fr, h1, h2, h3, fun _ _ _ _ h => by cases h⟩
    | bytes e m n c => 
      obtain ⟨_, arr, et, fr, h1, h2, ⟨h3, h4⟩, _⟩ := hra
      refine ⟨arr, et, fr, h1, h2, h3, fun _ _ _ _ _ => ?_⟩
      rcases he1 with he1 | he1
      · exact .inl he1
      · have he1 : e = e1 := he1
        subst he1
        exact h4
    | dead => exact hra.elim
    | map l => cases hy
    | iter n c k => cases hy
  obtain ⟨arr, et, fr, hb, hasz, hfr, het⟩ := hb
  have hm : (n + k) * z ≤ c * z := Nat.mul_le_mul_right _ hroom
  rw [Nat.add_mul] at hm
  obtain ⟨M, hM⟩ : ∃ M, M = n * z := ⟨_, rfl⟩
  obtain ⟨K, hK⟩ : ∃ K, K = k * z := ⟨_, rfl⟩
  obtain ⟨C, hC⟩ : ∃ C, C = c * z := ⟨_, rfl⟩
  rw [← hM, ← hK, ← hC] at hm
  rw [← hC] at hcap
  have hst := run_storeCells_cells (P := P) p.b (p.o + q + M) cs.toList 0 w (fun j hj => by
      rw [Array.length_toList, hcn, ← hK] at hj
      rw [Nat.add_zero, cell_of hb, Array.getElem?_eq_getElem (by omega)]
      rfl) (fun j hj => by
      rw [Array.length_toList, hcn, ← hK] at hj
      rw [Nat.add_zero]
      have := hfr.no (p.o + q + M + j) (by omega)
      obtain ⟨f1, f2⟩ := fr
      simp only [World.frozen?, hb]
      simp only at this
      by_cases hf : f1 ≤ p.o + q + M + j
      · have : ¬ p.o + q + M + j < f2 := fun hh => this ⟨hf, hh⟩
        simp [this]
      · simp [hf]) (aggRV_one hrv hva)
  rw [Nat.add_zero] at hst
  obtain ⟨arr', c1, c2, c3, c4, c5, c6, c7, c8⟩ := setCells_heap p.b cs.toList (p.o + q + M) w arr et fr hb
  have hset : (ρ.set s.nx ⟨p.b, p.o + q, p.sz⟩) s.nx = some ⟨p.b, p.o + q, p.sz⟩ := if_pos rfl
  refine ⟨_, _, ⟨p.b, p.o + q, p.sz⟩, hS.room _ n c (w.setCells p.b (p.o + q + M) cs.toList) hA hroom ?_,
    ⟨⟨p.b, p.o + q, p.sz⟩, _, c, hset, rfl, hroom, .inl ⟨rfl, by show p.o + q + 0 + c * z = p.sz; rw [← hC]; omega⟩⟩, ?_⟩
  · rw [Addr.add_lit, hsz, ← hM]
    exact hst
  · refine goes_move hl h1000 hr hnd hp rfl c5 c6 c7 c8 c4 (catRow_off hcat hy hru hrv c1 (fun j u hj => ?_) (by rw [List.size_toArray, hlen, hcn, ← hM, ← hK]; omega) (by rw [c2]; exact hasz) hfr het)
    simp only [List.toList_toArray] at hj
    have hj' : j < vs.length + cs.toList.length := by have := (List.getElem?_eq_some_iff.1 hj).1; rwa [List.length_append] at this
    rw [show cs.toList.length = cs.size from Array.length_toList, hcn, hlen, ← hM, ← hK] at hj'
    rw [c3 (p.o + q + j), Array.length_toList, hcn, ← hK]
    by_cases hjm : j < M
    · rw [if_neg (by omega)]
      rw [List.getElem?_append_left (by rw [hlen, ← hM]; exact hjm)] at hj
      have := hcells j u hj
      rwa [cell_of hb] at this
    · rw [if_pos ⟨by omega, by omega, by omega⟩]
      rw [List.getElem?_append_right (by rw [hlen, ← hM]; omega), hlen, ← hM] at hj
      rw [show p.o + q + j - (p.o + q + M) = j - M by omega]
      exact hj
end
end Go.Ev
set_option linter.unusedVariables false
set_option linter.unusedSimpArgs false
namespace Go.Ev
open Go Go.Fw

section
variable {P : Program} {w : World} {s s' : S} {ρ : Rho} {r : AV}
theorem rowT_e (e : Nat) (r : Row) : rowT e r = 0 ∨ e = rowT e r := by
  unfold rowT
  cases Nat.beq (rowElem r) e
  · exact .inl rfl
  · exact .inr rfl
theorem rowT_el (e : Nat) (r : Row) : rowT e r = 0 ∨ rowElem r = rowT e r := by
  unfold rowT
  cases h : Nat.beq (rowElem r) e
  · exact .inl rfl
  · exact .inr (Nat.eq_of_beq_eq_true h)
theorem appC_some {e z n k : Nat} {v : AV} (h : appC P e z n k v = true) : (∃ ti zv, P.info? e = some ti ∧ ti.zero = some zv ∧ zv.cells.size = ti.size) ∧ v.cnt = k * z ∧ n + k ≤ 140737488355328 := by
  simp only [appC, Bool.and_eq_true] at h
  obtain ⟨h1, h2, h3⟩ := h
  obtain ⟨i, zv, g1, g2, g3, _⟩ := okZ_eq h1
  exact ⟨⟨i, zv, g1, g2, g3⟩, Nat.eq_of_beq_eq_true h2, Nat.le_of_ble_eq_true h3⟩
theorem app0_run {t t1 e n c z : Nat} {ty : TypeId} {d1 : TypeDesc} {T : Array TypeId} {A : Array Value} {B : Option Addr} {x : AV} {u : Value} (ht : P.underlying t = some (.slice e)) (hs : (P.info? e).map (·.size) = some z) (hT : T[0]? = some t) (hT1 : T[1]? = some t1) (ht1 : P.underlying t1 = some d1) (hd : isIntD d1 = false)
    (hA : A[0]? = some (.slice B n c)) (hA1 : A[1]? = some u) (hx : RV ρ x u) (hk : lenA x = some 0) (hn : n ≤ c) : (Builtin.append_ T ty A).run P w = .ok (.slice B n c) w :=
  run_app_zero ht hs hT hT1 ht1 hd hA hA1 (lenA_run hk hx) (first0 hk hx) hn
theorem appendV_run {e k z : Nat} {ti : TypeInfo} {ty : TypeId} {T : Array TypeId} {A cs : Array Value} {a v : AV} {ua : Value} (h : appendV P e z a k v s = some (r, s')) (hR : RoomP P w T ty A z k cs) (hG : ∀ zv, ti.zero = some zv → zv.cells.size = ti.size → Src P w T ty A e ti zv k cs) (hi : P.info? e = some ti) (hsz : ti.size = z)
    (hA : A[0]? = some ua) (ha : RV ρ a ua) (hx : RV ρ v (.agg cs)) (hva : v.isAgg = true) (hl : Rel ρ s w) (hk0 : k ≠ 0) (hfit : ∀ m, lenA a = some m → fits P e (m + k) = true) :
    ∃ v' ρ' w', (Builtin.append_ T ty A).run P w = .ok v' w' ∧ RV ρ' r v' ∧ Goes ρ s w ρ' s' w' := by
  have fit : ∀ {m c : Nat}, lenA a = some m → c < m + k → Builtin.nextslicecap (m + k) c * ti.bytes ≤ 281474976710656 := fun {m c} hm hc => by
    obtain ⟨i, hi', hb⟩ := fits_eq (hfit m hm)
    rw [hi] at hi'
    injection hi' with hi'
    subst hi'
    exact growslice_fits hc (by rw [Nat.mul_comm]; exact hb)
  cases a with
  | slN =>
    simp only [appendV] at h
    cases hc : appC P e z 0 k v with
    | false => rw [hc] at h; cases h
    | true =>
      rw [hc] at h
      simp only [cond_true] at h
      obtain ⟨⟨ti', zv, hi', hz, hzs⟩, hcn, hb⟩ := appC_some hc
      rw [hi] at hi'
      injection hi' with hi'
      subst hi'
      have hS := hG zv hz hzs
      obtain ⟨row, hrow, rfl, rfl⟩ := ret2_some h
      have hf := fit (m := 0) (c := 0) rfl (by omega)
      rw [Nat.zero_add] at hf
      obtain ⟨r', w', p, g1, g2, g3⟩ := appN_run hS hzs hsz (by rw [hA, show ua = _ from ha]) hx hl hva hcn hrow (by omega) (by omega) hf
      exact ⟨r', _, w', g1, g2, g3⟩
  | sl i q n cap =>
    cases cap with
    | k c =>
      simp only [appendV] at h
      rw [cble] at h
      split at h
      · rename_i hroom
        simp only [Option.bind_eq_some_iff, Option.some.injEq, Prod.mk.injEq] at h
        obtain ⟨s2, hst, rfl, rfl⟩ := h
        obtain ⟨r', w', g1, g2, g3⟩ := appK_run hR hA hx ha hl hst hroom
        exact ⟨r', ρ, w', g1, g2, g3⟩
      · rename_i hroom
        cases hc : appC P e z n k v with
        | false => rw [hc] at h; cases h
        | true =>
          rw [hc] at h
          simp only [cond_true, Option.bind_eq_some_iff] at h
          obtain ⟨⟨ti', zv, hi', hz, hzs⟩, hcn, hb⟩ := appC_some hc
          rw [hi] at hi'
          injection hi' with hi'
          subst hi'
          have hS := hG zv hz hzs
          obtain ⟨row0, hr0, h⟩ := h
          obtain ⟨row, hrow, rfl, rfl⟩ := ret2_some h
          obtain ⟨y, hy⟩ := catRow_len hrow
          obtain ⟨hya, hyc⟩ := readRow_agg hy
          obtain ⟨p, hp, hua, hnc⟩ := ha
          subst hua
          have hroom' : c < n + k := by
            have : ¬ n + k ≤ c := hroom
            omega
          obtain ⟨r', w', p', g1, g2, g3⟩ := appG_run hl hS hzs hsz hA hx (show RV ρ (.sl i q n (.k c)) _ from ⟨p, hp, rfl, hnc⟩) hl hr0 hy hya hva hyc hcn (.inr rfl) hrow hroom' (by omega) (fit rfl hroom')
          exact ⟨r', _, w', g1, g2, g3⟩
    | u y0 =>
      simp only [appendV] at h
      cases hc : appC P e z n k v with
      | false => rw [hc] at h; cases h
      | true =>
        rw [hc] at h
        simp only [cond_true, Option.bind_eq_some_iff] at h
        obtain ⟨⟨ti', zv, hi', hz, hzs⟩, hcn, hb⟩ := appC_some hc
        rw [hi] at hi'
        injection hi' with hi'
        subst hi'
        have hS := hG zv hz hzs
        obtain ⟨row0, hr0, h⟩ := h
        cases hcc : and (not (Nat.blt i 1000)) (and (rowEnd row0 (Nat.add q (Nat.mul n z))) (Nat.beq y0 z)) with
        | false => rw [hcc] at h; cases h
        | true =>
          rw [hcc] at h
          simp only [cond_true] at h
          rw [Bool.and_eq_true, Bool.and_eq_true] at hcc
          have h1000 : 1000 ≤ i := by
            have := hcc.1
            rw [blt_dec, Bool.not_eq_true', decide_eq_false_iff_not] at this
            omega
          have hyz : y0 = z := Nat.eq_of_beq_eq_true hcc.2.2
          subst hyz
          obtain ⟨row, hrow, rfl, rfl⟩ := ret2_some h
          obtain ⟨y, hy⟩ := catRow_len hrow
          obtain ⟨hya, hyc⟩ := readRow_agg hy
          have ha0 := ha
          obtain ⟨p, ad, c, hp, hua, hnc, had⟩ := ha
          subst hua
          have hnd : row0 ≠ .dead := by rintro rfl; cases hy
          by_cases hroom : n + k ≤ c
          · rcases had with ⟨had, hsz'⟩ | had
            · subst had
              obtain ⟨r', w', p', g1, g2, g3⟩ := appU_run hS hsz hA hx hp h1000 hl hr0 hva hcn (rowT_el e row0) hrow hsz' hroom
              exact ⟨r', _, w', g1, g2, g3⟩
            · omega
          · have kill : Goes ρ s w ρ ⟨s.h.set i .dead, s.nx⟩ w := goes_put hl h1000 hr0 hnd hp rfl rfl rfl rfl (fun _ _ => rfl) (fun h => absurd rfl h)
            have hroom' : c < n + k := by omega
            obtain ⟨r', w', p', g1, g2, g3⟩ := appG_run kill.rel hS hzs hsz hA hx ha0 hl hr0 hy hya hva hyc hcn (rowT_e e row0) hrow hroom' (by omega) (fit rfl hroom')
            exact ⟨r', _, w', g1, g2, kill.trans g3⟩
  | _ => cases h
theorem appendA_run {t t1 : Nat} {ty : TypeId} {d1 : TypeDesc} {T : Array TypeId} {A : Array Value} {a x : AV} {ua u : Value} (h : appendA P t a x s = some (r, s')) (hT : T[0]? = some t) (hT1 : T[1]? = some t1) (ht1 : P.underlying t1 = some d1) (hd : isIntD d1 = false)
    (hA : A[0]? = some ua) (hA1 : A[1]? = some u) (ha : RV ρ a ua) (hx : RV ρ x u) (hl : Rel ρ s w) :
    ∃ v' ρ' w', (Builtin.append_ T ty A).run P w = .ok v' w' ∧ RV ρ' r v' ∧ Goes ρ s w ρ' s' w' := by
  unfold appendA at h
  split at h
  · rename_i e ht
    simp only [Option.bind_eq_some_iff] at h
    obtain ⟨z, hz, k, hk, h⟩ := h
    have ht' := undT_eq ht
    have hz' := sizeT_eq hz
    rw [cbeq] at h
    split at h
    · rename_i hk0
      subst hk0
      simp only [Option.bind_eq_some_iff, Option.some.injEq, Prod.mk.injEq] at h
      obtain ⟨a', ha', rfl, rfl⟩ := h
      have hok : a' = a ∧ ∃ B n c, ua = .slice B n c ∧ n ≤ c := by
        cases a with
        | slN =>
          injection ha' with ha'
          exact ⟨ha'.symm, none, 0, 0, ha, Nat.le_refl _⟩
        | sl i o n cp =>
          injection ha' with ha'
          refine ⟨ha'.symm, ?_⟩
          obtain ⟨B, c, p, e1, e2, _⟩ := ha.sl_
          exact ⟨B, n, c, e1, e2⟩
        | _ => cases ha'
      obtain ⟨rfl, hok⟩ := hok
      obtain ⟨B, n, c, rfl, hn⟩ := hok
      exact ⟨_, ρ, w, app0_run (ty := ty) ht' hz' hT hT1 ht1 hd hA hA1 hx hk hn, ha, Goes.refl hl⟩
    · rename_i hk0
      simp only [Option.bind_eq_some_iff] at h
      obtain ⟨m, hm, h⟩ := h
      cases hf : fits P e (Nat.add m k) with
      | false => rw [hf] at h; cases h
      | true =>
        rw [hf] at h
        simp only [cond_true, Option.bind_eq_some_iff] at h
        obtain ⟨v, hv, h⟩ := h
        obtain ⟨ti, hi, hsz⟩ : ∃ ti, P.info? e = some ti ∧ ti.size = z := by
          cases hi : P.info? e with
          | none => rw [hi] at hz'; cases hz'
          | some ti => rw [hi] at hz'; injection hz' with hz'; exact ⟨ti, rfl, hz'⟩
        obtain ⟨cs, hcs, hrv⟩ := srcA_run (P := P) hv hx hl
        have hR : RoomP P w T ty A z k cs := fun b n c w' g1 g2 g3 => run_app_room ht' hz' hT hT1 ht1 hd g1 hA1 (lenA_run hk hx) (hcs w rfl) g2 g3
        have hG : ∀ zv, ti.zero = some zv → zv.cells.size = ti.size → Src P w T ty A e ti zv k cs := fun zv hz hzs => ⟨fun b n c w' g1 g2 g3 => hR b n c w' g1 g2 (by rw [← hsz]; exact g3),
          fun b n c olds g1 g2 g3 g4 g5 => run_app_grow ht' hi hz hT hT1 ht1 hd g1 hA1 (lenA_run hk hx) g2 (by rw [hsz]; exact hcs w.drew rfl) g3 g4 g5⟩
        exact appendV_run h hR hG hi hsz hA ha hrv (srcA_agg hv) hl hk0 fun m' hm' => by
          rw [hm] at hm'
          injection hm' with hm'
          rw [← hm']
          exact hf
  · cases h
theorem zerosT_agg {e k : Nat} {v : AV} (h : zerosT P e k = some v) : v.isAgg = true := by
  simp only [zerosT, Option.bind_eq_some_iff] at h
  obtain ⟨z, _, h⟩ := h
  split at h
  · rw [cbeq] at h
    split at h
    · injection h with h; rw [← h]; rfl
    · cases h
  · cases hz : iEq _ 0 with
    | false => rw [hz] at h; cases h
    | true => rw [hz] at h; injection h with h; rw [← h]; rfl
  · simp only [Option.bind_eq_some_iff, Option.some.injEq] at h
    obtain ⟨c, _, rfl⟩ := h
    rfl
theorem appendZ_run {t t1 : Nat} {ty : TypeId} {kk : IntKind} {T : Array TypeId} {A : Array Value} {a x : AV} {ua u : Value} (h : appendZ P t a x s = some (r, s')) (hT : T[0]? = some t) (hT1 : T[1]? = some t1) (ht1 : P.underlying t1 = some (.int kk))
    (hA : A[0]? = some ua) (hA1 : A[1]? = some u) (ha : RV ρ a ua) (hx : RV ρ x u) (hl : Rel ρ s w) :
    ∃ v' ρ' w', (Builtin.append_ T ty A).run P w = .ok v' w' ∧ RV ρ' r v' ∧ Goes ρ s w ρ' s' w' := by
  unfold appendZ at h
  split at h
  · rename_i e ht
    simp only [Option.bind_eq_some_iff] at h
    obtain ⟨z, hz, k, hk, h⟩ := h
    have ht' := undT_eq ht
    have hz' := sizeT_eq hz
    rw [cbeq] at h
    split at h
    · rename_i hk0
      subst hk0
      simp only [Option.bind_eq_some_iff, Option.some.injEq, Prod.mk.injEq] at h
      obtain ⟨a', ha', rfl, rfl⟩ := h
      have hok : a' = a ∧ ∃ B n c, ua = .slice B n c ∧ n ≤ c := by
        cases a with
        | slN =>
          injection ha' with ha'
          exact ⟨ha'.symm, none, 0, 0, ha, Nat.le_refl _⟩
        | sl i o n cp =>
          injection ha' with ha'
          refine ⟨ha'.symm, ?_⟩
          obtain ⟨B, c, p, e1, e2, _⟩ := ha.sl_
          exact ⟨B, n, c, e1, e2⟩
        | _ => cases ha'
      obtain ⟨rfl, B, n, c, rfl, hn⟩ := hok
      obtain ⟨k2, hu⟩ := natI_some hk hx
      subst hu
      obtain ⟨ti, hi⟩ : ∃ ti, P.info? e = some ti := by
        cases hi : P.info? e with
        | none => rw [hi] at hz'; cases hz'
        | some ti => exact ⟨ti, rfl⟩
      exact ⟨_, ρ, w, run_appz_zero (z := 0) ht' hi hT hT1 ht1 hA hA1 hn, ha, Goes.refl hl⟩
    · rename_i hk0
      simp only [Option.bind_eq_some_iff] at h
      obtain ⟨m, hm, h⟩ := h
      cases hf : and (fits P e (Nat.add m k)) (Nat.ble k 140737488355328) with
      | false => rw [hf] at h; cases h
      | true =>
        rw [hf] at h
        simp only [cond_true, Option.bind_eq_some_iff] at h
        rw [Bool.and_eq_true] at hf
        obtain ⟨v, hv, h⟩ := h
        rw [cbeq] at h
        split at h
        case isFalse => cases h
        rename_i hcc
        obtain ⟨zv, hzv, hrv⟩ := zerosT_rv (ρ := ρ) hv
        obtain ⟨k2, hu⟩ := natI_some hk hx
        subst hu
        obtain ⟨ti, hi, hsz⟩ : ∃ ti, P.info? e = some ti ∧ ti.size = z := by
          cases hi : P.info? e with
          | none => rw [hi] at hz'; cases hz'
          | some ti => rw [hi] at hz'; injection hz' with hz'; exact ⟨ti, rfl, hz'⟩
        have hzero : ti.zero = some zv := by rw [hi] at hzv; injection hzv
        have hva := zerosT_agg hv
        have hbk : ti.bytes * k ≤ 140737488355328 := by
          obtain ⟨i', hi', hb⟩ := fits_eq hf.1
          rw [hi] at hi'
          injection hi' with hi'
          subst hi'
          have : ti.bytes * k ≤ ti.bytes * (m + k) := Nat.mul_le_mul_left _ (Nat.le_add_left _ _)
          exact Nat.le_trans this hb
        have hk2 : k ≤ 140737488355328 := Nat.le_of_ble_eq_true hf.2
        have hzs : zv.cells.size = ti.size := by
          have h1 := hrv.aggcnt hva
          rw [hcc] at h1
          rw [List.size_toArray, reps_len, Array.length_toList] at h1
          rw [hsz]
          exact Nat.eq_of_mul_eq_mul_left (Nat.pos_of_ne_zero hk0) h1
        have hce : (reps k zv.cells.toList).toArray = Builtin.zeroCells zv.cells k := by
          have := madeCells_reps zv.cells k
          apply Array.ext'
          rw [← this]
          rfl
        rw [hce] at hrv
        have hR : RoomP P w T ty A z k (Builtin.zeroCells zv.cells k) := fun b n c w' g1 g2 g3 => run_appz_room ht' hi hzero hzs hT hT1 ht1 g1 hA1 hk2 hbk g2 (by rw [hsz]; exact g3)
        have hG : ∀ zv', ti.zero = some zv' → zv'.cells.size = ti.size → Src P w T ty A e ti zv' k (Builtin.zeroCells zv.cells k) := fun zv' hz' _ => by
          rw [hzero] at hz'
          injection hz' with hz'
          subst hz'
          exact ⟨fun b n c w' g1 g2 g3 => hR b n c w' g1 g2 (by rw [← hsz]; exact g3), fun b n c olds g1 g2 g3 g4 g5 => run_appz_grow ht' hi hzero hzs hT hT1 ht1 g1 hA1 hk2 hbk g2 g3 g4 g5⟩
        exact appendV_run h hR hG hi hsz hA ha hrv hva hl hk0 fun m' hm' => by
          rw [hm] at hm'
          injection hm' with hm'
          rw [← hm']
          exact hf.1
  · cases h
end
end Go.Ev
set_option linter.unusedVariables false
set_option linter.unusedSimpArgs false
namespace Go.Ev
open Go Go.Fw

section
variable {P : Program} {o : Oper} {a : Act} {w : World} {f : F} {s s' : S} {ρ : Rho} {r : AV}
theorem str_same {n c m d : Nat} {u v : Value} (hu : RV ρ (.str n c) u) (hv : RV ρ (.str m d) v) : ∃ p q : ByteArray, u = .string p ∧ v = .string q ∧ ((p == q) = (Nat.beq n m && Nat.beq c d)) ∧ ((Nat.beq n m && Nat.beq c d) = true → u = v) := by
  obtain ⟨p, rfl, hp, hp'⟩ := hu
  obtain ⟨q, rfl, hq, hq'⟩ := hv
  have key : p = q ↔ (Nat.beq n m && Nat.beq c d) = true := by
    rw [beq_dec, beq_dec, Bool.and_eq_true, decide_eq_true_eq, decide_eq_true_eq]
    constructor
    · intro e
      have e : byL n c = byL m d := by rw [← hp, ← hq, e]
      have hnm := congrArg List.length e
      rw [byL_len, byL_len] at hnm
      subst hnm
      exact ⟨rfl, byL_inj hp' hq' e⟩
    · rintro ⟨rfl, rfl⟩
      have e : p.data.toList = q.data.toList := hp.trans hq.symm
      cases p
      cases q
      simp only at e
      rw [Array.toList_inj.1 e]
  refine ⟨p, q, rfl, rfl, ?_, fun h => by rw [key.2 h]⟩
  rw [Bool.eq_iff_iff]
  exact (MapKept.bytes_beq p q).trans key
theorem findM_run {k : AV} {kv : Value} (hk : RV ρ k kv) (hs : isStr k = true) : ∀ {l : List (AV × AV)} {es : List MapEntry} {i : Nat} {r : Option (Nat × AV)}, findM k l i = some r → es.length = l.length →
    (∀ (j : Nat) x, l[j]? = some x → ∃ e, es[j]? = some e ∧ RV ρ x.1 e.key ∧ RV ρ x.2 e.val) →
    (r = none ∧ Instr.findNow .string kv es i = some none) ∨ ∃ j v e, r = some (i + j, v) ∧ es[j]? = some e ∧ e.key = kv ∧ RV ρ v e.val ∧ Instr.findNow .string kv es i = some (some (i + j, e.val))
  | [], es, i, r, h, hl, _ => by
    have : es = [] := List.length_eq_zero_iff.1 hl
    subst this
    injection h with h
    exact .inl ⟨h.symm, rfl⟩
  | x :: l, [], i, r, h, hl, _ => by cases hl
  | x :: l, e :: es, i, r, h, hl, hx => by
    simp only [findM, Option.bind_eq_some_iff] at h
    obtain ⟨b, hb, h⟩ := h
    obtain ⟨e', he', h1, h2⟩ := hx 0 x rfl
    injection he' with he'
    subst he'
    cases k with
    | str n c =>
      obtain ⟨q1, q2⟩ := x
      cases q1 with
      | str m d =>
        injection hb with hb
        obtain ⟨p, q, e1, e2, e3, e4⟩ := str_same hk h1
        have hsame : Instr.sameNow .string kv e.key = some b := by
          rw [e1, e2, ← hb]
          show some (p == q) = _
          rw [e3]
        cases b with
        | true =>
          injection h with h
          refine .inr ⟨0, q2, e, h.symm, rfl, (e4 hb).symm, h2, ?_⟩
          simp only [Instr.findNow, hsame, Nat.add_zero]
        | false =>
          have hrec := findM_run hk hs (i := i + 1) (es := es) h (by simpa using hl) fun j x hj => by
            obtain ⟨e2, g1, g2⟩ := hx (j + 1) x (by rw [List.getElem?_cons_succ]; exact hj)
            exact ⟨e2, by rwa [List.getElem?_cons_succ] at g1, g2⟩
          rcases hrec with ⟨g1, g2⟩ | ⟨j, v, e2, g1, g2, g3, g4, g5⟩
          · exact .inl ⟨g1, by simp only [Instr.findNow, hsame]; exact g2⟩
          · refine .inr ⟨j + 1, v, e2, by rw [g1, Nat.add_right_comm, Nat.add_assoc], by rw [List.getElem?_cons_succ]; exact g2, g3, g4, ?_⟩
            simp only [Instr.findNow, hsame, g5]
            rw [Nat.add_right_comm, Nat.add_assoc]
      | _ => cases hb
    | _ => cases hs
theorem mapE_some {t e : Nat} (h : mapE P t = some e) : ∃ kt, P.underlying t = some (.map kt e) ∧ P.underlying kt = some .string := by
  unfold mapE at h
  split at h
  · rename_i k e' ht
    split at h
    · rename_i hk
      injection h with h
      subst h
      exact ⟨k, undT_eq ht, undT_eq hk⟩
    · cases h
  · cases h
theorem rowM_some {i : Nat} {l : List (AV × AV)} (h : rowM s i = some l) : s.h.get i = some (.map l) := by
  simp only [rowM, Option.bind_eq_some_iff] at h
  obtain ⟨r, hr, h⟩ := h
  cases r with
  | map l' => injection h with h; rw [hr, h]
  | iter n c k => cases h
  | _ => cases h
theorem rowM_at {i : Nat} {l : List (AV × AV)} (h : rowM s i = some l) (hl : Rel ρ s w) {p : Pl} (hp : ρ i = some p) : ∃ es clk, w.heap[p.b]? = some (.map es clk) ∧ es.size = l.length ∧ ∀ (k : Nat) x, l[k]? = some x → ∃ e, es[k]? = some e ∧ RV ρ x.1 e.key ∧ RV ρ x.2 e.val := by
  obtain ⟨p', hp', hra⟩ := hl.row i _ (rowM_some h) (by rintro ⟨⟩)
  rw [hp] at hp'
  injection hp' with hp'
  subst hp'
  exact hra
theorem isStr_key {k : AV} (h : isStr k = true) {v : Value} (hv : RV ρ k v) : MapKept.IsKey .string v := by
  cases k with
  | str n c => obtain ⟨q, rfl, _⟩ := hv; trivial
  | _ => cases h
theorem op_lookup {t : Nat} {x k : Operand} {ok : Bool} (ho : o.op = .lookup t x k ok) (h : oLookup P f s t x k ok = some (r, s')) (hF : FO ρ f a o) (hl : Rel ρ s w) : s' = s ∧ ∃ v, Gv P o a w v ∧ RV ρ r v := by
  simp only [oLookup, Option.bind_eq_some_iff, Option.some.injEq, Prod.mk.injEq] at h
  obtain ⟨xv, hx, kv, hk, e, he, q, hq, hr, hs⟩ := h
  have cx := hF.opd (by rw [ho]; simp [Op.operands]) hx
  have ck := hF.opd (by rw [ho]; simp [Op.operands]) hk
  obtain ⟨kt, ht, hkt⟩ := mapE_some he
  refine ⟨hs.symm, ?_⟩
  unfold lookM at hq
  cases hst : isStr kv with
  | false => rw [hst] at hq; cases hq
  | true =>
    rw [hst] at hq
    have hkey := isStr_key hst ck
    -- the value, and whether it is there
    have fin : ∀ (u : Value), (∀ w' : World, w' = w → (Instr.lookup t (a.eval x) (a.eval k) ok).run P w' = .ok (if ok then .tuple #[u, .bool q.2] else u) w') → RV ρ q.1 u → ∃ v, Gv P o a w v ∧ RV ρ r v := fun u g1 g2 => by
      refine ⟨if ok then .tuple #[u, .bool q.2] else u, ?_, ?_⟩
      · unfold Gv execOp
        rw [ho]
        simp [g1 w rfl]
      · rw [← hr]
        cases ok with
        | true => exact ⟨#[u, .bool q.2], rfl, u, [.bool q.2], rfl, g2, .bool q.2, [], rfl, rfl, rfl⟩
        | false => exact g2
    cases xv with
    | nilM =>
      simp only [cond_true, Option.bind_eq_some_iff, Option.some.injEq] at hq
      obtain ⟨z, hz, rfl⟩ := hq
      obtain ⟨v, hv, hrv⟩ := zeroT_some hz
      have e1 : a.eval x = .map none := cx
      refine fin v (fun w' _ => ?_) (hrv ρ)
      have hn : ∀ w : World, (Instr.findKey kt (a.eval k) []).run P w = .ok none w := fun w => MapKept.run_findKey hkt (show Instr.findNow .string (a.eval k) [] 0 = some none from rfl)
      simp [Instr.lookup, e1, run_und ht, MapKept.run_checkKey hkt hkey, hn, run_zeroValue hv]
    | mp i =>
      simp only [cond_true, Option.bind_eq_some_iff] at hq
      obtain ⟨l, hlr, m, hm, hq⟩ := hq
      obtain ⟨p, hp, e1⟩ := cx
      obtain ⟨es, clk, hb, hsz, hent⟩ := rowM_at hlr hl hp
      rcases findM_run ck hst (es := es.toList) hm (by rw [Array.length_toList, hsz]) (fun j x hj => by
          obtain ⟨e, g1, g2⟩ := hent j x hj
          exact ⟨e, by rw [Array.getElem?_toList]; exact g1, g2⟩) with ⟨rfl, g2⟩ | ⟨j, v, e2, rfl, g2, g3, g4, g5⟩
      · simp only [Option.bind_eq_some_iff, Option.some.injEq] at hq
        obtain ⟨z, hz, rfl⟩ := hq
        obtain ⟨v, hv, hrv⟩ := zeroT_some hz
        refine fin v (fun w' ew => ?_) (hrv ρ)
        subst ew
        simp [Instr.lookup, e1, run_und ht, MapKept.run_getObj_map hb, MapKept.run_checkKey hkt hkey, MapKept.run_findKey hkt g2, run_zeroValue hv]
      · injection hq with hq
        subst hq
        refine fin e2.val (fun w' ew => ?_) g4
        subst ew
        simp [Instr.lookup, e1, run_und ht, MapKept.run_getObj_map hb, MapKept.run_checkKey hkt hkey, MapKept.run_findKey hkt g5]
    | _ => cases hq
theorem putM_eq (k v : AV) : ∀ (l : List (AV × AV)) (i : Nat), putM k v l i = l.set i (k, v)
  | [], _ => rfl
  | _ :: _, 0 => rfl
  | x :: l, i + 1 => by rw [putM, List.set_cons_succ, putM_eq k v l i]
theorem cutM_eq : ∀ (l : List (AV × AV)) (i : Nat), cutM l i = l.eraseIdx i
  | [], _ => rfl
  | _ :: _, 0 => rfl
  | x :: l, i + 1 => by rw [cutM, List.eraseIdx_cons_succ, cutM_eq l i]
/-- A map's entries, as the evaluator has them. -/
def Ents (ρ : Rho) (l : List (AV × AV)) (es : List MapEntry) : Prop := es.length = l.length ∧ ∀ (k : Nat) x, l[k]? = some x → ∃ e, es[k]? = some e ∧ RV ρ x.1 e.key ∧ RV ρ x.2 e.val
theorem Ents.set {l : List (AV × AV)} {es : List MapEntry} (h : Ents ρ l es) {k v : AV} (e : MapEntry) (hk : RV ρ k e.key) (hv : RV ρ v e.val) (j : Nat) : Ents ρ (l.set j (k, v)) (es.set j e) := by
  refine ⟨by rw [List.length_set, List.length_set, h.1], fun n x hx => ?_⟩
  rw [List.getElem?_set] at hx ⊢
  have hl := h.1
  by_cases hn : j = n
  · rw [if_pos hn] at hx ⊢
    by_cases hlt : j < l.length
    · rw [if_pos hlt] at hx
      rw [if_pos (by omega)]
      injection hx with hx
      subst hx
      exact ⟨e, rfl, hk, hv⟩
    · rw [if_neg hlt] at hx
      cases hx
  · rw [if_neg hn] at hx ⊢
    exact h.2 n x hx
theorem Ents.push {l : List (AV × AV)} {es : List MapEntry} (h : Ents ρ l es) {k v : AV} (e : MapEntry) (hk : RV ρ k e.key) (hv : RV ρ v e.val) : Ents ρ (l ++ [(k, v)]) (es ++ [e]) := by
  have hl := h.1
  refine ⟨by rw [List.length_append, List.length_append, h.1]; rfl, fun n x hx => ?_⟩
  by_cases hn : n < l.length
  · rw [List.getElem?_append_left hn] at hx
    rw [List.getElem?_append_left (by omega)]
    exact h.2 n x hx
  · rw [List.getElem?_append_right (by omega)] at hx
    rw [List.getElem?_append_right (by omega), hl]
    cases hq : n - l.length with
    | zero =>
      rw [hq] at hx
      injection hx with hx
      subst hx
      exact ⟨e, rfl, hk, hv⟩
    | succ m => rw [hq] at hx; cases hx
theorem Ents.erase {l : List (AV × AV)} {es : List MapEntry} (h : Ents ρ l es) (j : Nat) : Ents ρ (l.eraseIdx j) (es.eraseIdx j) := by
  have hl := h.1
  refine ⟨by rw [List.length_eraseIdx, List.length_eraseIdx, h.1], fun n x hx => ?_⟩
  rw [List.getElem?_eraseIdx] at hx ⊢
  split at hx
  · rename_i hn
    rw [if_pos hn]
    exact h.2 n x hx
  · rename_i hn
    rw [if_neg hn]
    exact h.2 (n + 1) x hx
theorem Ents.row {l : List (AV × AV)} {es : Array MapEntry} {clk : Nat} {p : Pl} (h : Ents ρ l es.toList) (hb : w.heap[p.b]? = some (.map es clk)) : RowAt ρ w p (.map l) :=
  ⟨es, clk, hb, by rw [← Array.length_toList]; exact h.1, fun k x hx => by
    obtain ⟨e, g1, g2⟩ := h.2 k x hx
    exact ⟨e, by rw [← Array.getElem?_toList]; exact g1, g2⟩⟩
theorem rowM_ents {i : Nat} {l : List (AV × AV)} (h : rowM s i = some l) (hl : Rel ρ s w) {p : Pl} (hp : ρ i = some p) : ∃ es clk, w.heap[p.b]? = some (.map es clk) ∧ Ents ρ l es.toList := by
  obtain ⟨es, clk, h1, h2, h3⟩ := rowM_at h hl hp
  exact ⟨es, clk, h1, by rw [Array.length_toList]; exact h2, fun k x hx => by
    obtain ⟨e, g1, g2⟩ := h3 k x hx
    exact ⟨e, by rw [Array.getElem?_toList]; exact g1, g2⟩⟩
/-- A map's block anew. -/
theorem goes_map {i : Nat} {l l' : List (AV × AV)} (hl : Rel ρ s w) (h1000 : 1000 ≤ i) (h : rowM s i = some l) {p : Pl} (hp : ρ i = some p) {es es' : Array MapEntry} {clk clk' : Nat} (hb : w.heap[p.b]? = some (.map es clk)) (he : Ents ρ l' es'.toList) :
    Goes ρ s w ρ ⟨s.h.set i (.map l'), s.nx⟩ { w with heap := w.heap.setIfInBounds p.b (.map es' clk') } := by
  have hlt : p.b < w.heap.size := (Array.getElem?_eq_some_iff.1 hb).1
  refine goes_put hl h1000 (rowM_some h) (by rintro ⟨⟩) hp ?_ rfl rfl rfl (fun b hne => ?_) fun _ => he.row (clk := clk') ?_
  · show (w.heap.setIfInBounds p.b _).size = _
    rw [Array.size_setIfInBounds]
  · show (w.heap.setIfInBounds p.b _)[b]? = _
    rw [Array.getElem?_setIfInBounds_ne (Ne.symm hne)]
  · show (w.heap.setIfInBounds p.b _)[p.b]? = _
    rw [Array.getElem?_setIfInBounds, if_pos rfl, if_pos hlt]
theorem find_ents {k : AV} {kv : Value} (hk : RV ρ k kv) (hs : isStr k = true) {l : List (AV × AV)} {es : Array MapEntry} {m : Option (Nat × AV)} (hm : findM k l 0 = some m) (he : Ents ρ l es.toList) :
    (m = none ∧ Instr.findNow .string kv es.toList 0 = some none) ∨ ∃ j v e, m = some (j, v) ∧ es[j]? = some e ∧ e.key = kv ∧ RV ρ v e.val ∧ Instr.findNow .string kv es.toList 0 = some (some (j, e.val)) := by
  rcases findM_run hk hs hm he.1 he.2 with h | ⟨j, v, e, h1, h2, h3, h4, h5⟩
  · exact .inl h
  · rw [Nat.zero_add] at h1 h5
    exact .inr ⟨j, v, e, h1, by rw [← Array.getElem?_toList]; exact h2, h3, h4, h5⟩
theorem updM_run {m k v : AV} {r : AV} (h : updM m k v s = some (r, s')) {t e : Nat} (he : mapE P t = some e) {mv kv vv : Value} (hm : RV ρ m mv) (hk : RV ρ k kv) (hv : RV ρ v vv) (hl : Rel ρ s w) :
    ∃ w', (Instr.mapUpdate t mv kv vv).run P w = .ok () w' ∧ RV ρ r undef ∧ Goes ρ s w ρ s' w' := by
  obtain ⟨kt, ht, hkt⟩ := mapE_some he
  unfold updM at h
  cases hst : isStr k with
  | false => rw [hst] at h; cases h
  | true =>
    rw [hst] at h
    have hkey := isStr_key hst hk
    cases m with
    | mp i =>
      rw [cond_true] at h
      simp only [cblt] at h
      split at h
      · cases h
      · rename_i h1000
        simp only [Option.bind_eq_some_iff] at h
        obtain ⟨l, hlr, q, hq, h⟩ := h
        obtain ⟨p, hp, rfl⟩ := hm
        obtain ⟨es, clk, hb, hents⟩ := rowM_ents hlr hl hp
        rcases find_ents hk hst hq hents with ⟨rfl, g2⟩ | ⟨j, v2, e2, rfl, g2, g3, g4, g5⟩
        · simp only [Option.some.injEq, Prod.mk.injEq] at h
          obtain ⟨rfl, rfl⟩ := h
          refine ⟨{ w with heap := w.heap.setIfInBounds p.b (.map (es.push { key := kv, val := vv, born := clk }) (clk + 1)) }, ?_, rfl, goes_map hl (by omega) hlr hp hb ?_⟩
          · simp [Instr.mapUpdate, run_und ht, MapKept.run_getObj_map hb, MapKept.run_checkKey hkt hkey, MapKept.run_findKey hkt g2, MapKept.run_setObj_map _ hb]
          · rw [Array.toList_push]
            exact hents.push ⟨kv, vv, clk⟩ hk hv
        · simp only [Option.some.injEq, Prod.mk.injEq] at h
          obtain ⟨rfl, rfl⟩ := h
          refine ⟨{ w with heap := w.heap.setIfInBounds p.b (.map (es.modify j fun e => { e with key := kv, val := vv }) clk) }, ?_, rfl, goes_map hl (by omega) hlr hp hb ?_⟩
          · simp [Instr.mapUpdate, run_und ht, MapKept.run_getObj_map hb, MapKept.run_checkKey hkt hkey, MapKept.run_findKey hkt g5, g2, g3, MapKept.run_keyThatStays hkey, MapKept.run_setObj_map _ hb]
          · rw [putM_eq]
            have e1 : (es.modify j fun e => { e with key := kv, val := vv }).toList = es.toList.set j { e2 with key := kv, val := vv } := by
              apply List.ext_getElem?
              intro n
              rw [Array.getElem?_toList, Array.getElem?_modify, List.getElem?_set, Array.length_toList]
              by_cases hn : j = n
              · subst hn
                rw [if_pos rfl, if_pos rfl, g2, if_pos (Array.getElem?_eq_some_iff.1 g2).1]
                rfl
              · rw [if_neg hn, if_neg hn, Array.getElem?_toList]
            rw [e1]
            exact hents.set { e2 with key := kv, val := vv } hk hv j
    | _ => cases h
theorem delM_run {m k : AV} {r : AV} (h : delM m k s = some (r, s')) {t e : Nat} (he : mapE P t = some e) {mv kv : Value} (hm : RV ρ m mv) (hk : RV ρ k kv) (hl : Rel ρ s w) {T : Array TypeId} {ty : TypeId} {A : Array Value}
    (hT : T[0]? = some t) (hA : A[0]? = some mv) (hA1 : A[1]? = some kv) :
    ∃ v w', (Builtin.delete_ T ty A).run P w = .ok v w' ∧ RV ρ r v ∧ Goes ρ s w ρ s' w' := by
  obtain ⟨kt, ht, hkt⟩ := mapE_some he
  unfold delM at h
  cases hst : isStr k with
  | false => rw [hst] at h; cases h
  | true =>
    rw [hst] at h
    have hkey := isStr_key hst hk
    cases m with
    | nilM =>
      have e1 : mv = .map none := hm
      subst e1
      injection h with h
      injection h with h1 h2
      subst h1 h2
      refine ⟨.tuple #[], w, ?_, ⟨#[], rfl, rfl⟩, Goes.refl hl⟩
      simp [Builtin.delete_, hT, hA, hA1, run_und ht, MapKept.run_checkKey hkt hkey]
    | mp i =>
      rw [cond_true] at h
      simp only [cblt] at h
      split at h
      · cases h
      · rename_i h1000
        simp only [Option.bind_eq_some_iff] at h
        obtain ⟨l, hlr, q, hq, h⟩ := h
        obtain ⟨p, hp, rfl⟩ := hm
        obtain ⟨es, clk, hb, hents⟩ := rowM_ents hlr hl hp
        rcases find_ents hk hst hq hents with ⟨rfl, g2⟩ | ⟨j, v2, e2, rfl, g2, g3, g4, g5⟩
        · simp only [Option.some.injEq, Prod.mk.injEq] at h
          obtain ⟨rfl, rfl⟩ := h
          refine ⟨.tuple #[], { w with heap := w.heap.setIfInBounds p.b (.map es clk) }, ?_, ⟨#[], rfl, rfl⟩, goes_map hl (by omega) hlr hp hb hents⟩
          simp [Builtin.delete_, hT, hA, hA1, run_und ht, MapKept.run_getObj_map hb, MapKept.run_checkKey hkt hkey, MapKept.run_findKey hkt g2, MapKept.run_setObj_map _ hb]
        · simp only [Option.some.injEq, Prod.mk.injEq] at h
          obtain ⟨rfl, rfl⟩ := h
          refine ⟨.tuple #[], { w with heap := w.heap.setIfInBounds p.b (.map (es.eraseIdxIfInBounds j) clk) }, ?_, ⟨#[], rfl, rfl⟩, goes_map hl (by omega) hlr hp hb ?_⟩
          · simp [Builtin.delete_, hT, hA, hA1, run_und ht, MapKept.run_getObj_map hb, MapKept.run_checkKey hkt hkey, MapKept.run_findKey hkt g5, MapKept.run_setObj_map _ hb]
          · rw [cutM_eq, Array.toList_eraseIdxIfInBounds]
            exact hents.erase j
    | _ => cases h
theorem op_makeMap {t : Nat} {x : Option Operand} (ho : o.op = .makeMap t x) (h : oMakeMap s x = some (r, s')) : OpN P o a ρ s r s' := by
  cases x with
  | some x => cases h
  | none =>
    simp only [oMakeMap, Option.some.injEq, Prod.mk.injEq] at h
    obtain ⟨rfl, rfl⟩ := h
    refine ⟨.map [], .mp, rfl, rfl, fun w => ?_⟩
    obtain ⟨h1, h2, h3⟩ := heap_push w (.map #[] 0)
    refine ⟨.map (some w.heap.size), w.alloc (.map #[] 0), 0, ?_, h3, rfl, rfl, rfl, h1, fun ρ' _ => ⟨#[], 0, h2, rfl, fun k x hx => by simp at hx⟩, fun ρ' i hi => ⟨_, hi, rfl⟩⟩
    unfold execOp
    rw [ho]
    simp [Instr.makeMap, newObj, Sem.run]
theorem op_update {t : Nat} {x k v : Operand} (ho : o.op = .mapUpdate t x k v ∨ o.op = .insert t x k v) (h : oUpdate P f s t x k v = some (r, s')) (hF : FO ρ f a o) (hl : Rel ρ s w) : OpS P o a w ρ s r s' := by
  simp only [oUpdate, Option.bind_eq_some_iff] at h
  obtain ⟨xv, hx, kv, hk, vv, hv, e, he, h⟩ := h
  have mem : ∀ z, z = x ∨ z = k ∨ z = v → z ∈ o.op.operands.toList := fun z hz => by rcases ho with ho | ho <;> rw [ho] <;> simp [Op.operands, hz]
  obtain ⟨w', g1, g2, g3⟩ := updM_run h he (hF.opd (mem x (by simp)) hx) (hF.opd (mem k (by simp)) hk) (hF.opd (mem v (by simp)) hv) hl
  refine ⟨undef, ρ, w', .inr ⟨?_, rfl⟩, g2, g3⟩
  unfold execOp
  rcases ho with ho | ho <;> rw [ho] <;> simp [g1]
end
end Go.Ev
set_option linter.unusedVariables false
set_option linter.unusedSimpArgs false
namespace Go.Ev
open Go Go.Fw

section
variable {P : Program} {o : Oper} {a : Act} {w : World} {f : F} {s s' : S} {ρ : Rho} {r : AV}
theorem sd_run {T : Array TypeId} {ty : TypeId} {ad : Addr} {n c : Nat} (hc : c ≠ 0) (w : World) : (Builtin.unsafeSliceData_ T ty #[.slice (some ad) n c]).run P w = .ok (.pointer (some ad)) w := by
  change (ite (c ≠ 0) _ _ : Sem Value).run P w = _
  rw [if_pos hc]
  rfl
theorem sdA_run {x : AV} (h : sdA x = some r) {v : Value} (hv : RV ρ x v) {T : Array TypeId} {ty : TypeId} {A : Array Value} (hA : A = #[v]) :
    ∃ u, (∀ w, (Builtin.unsafeSliceData_ T ty A).run P w = .ok u w) ∧ RV ρ r u := by
  subst hA
  cases x with
  | slN =>
    injection h with h
    subst h
    rw [show v = _ from hv]
    exact ⟨.pointer none, fun w => rfl, rfl⟩
  | sl i k n c =>
    cases c with
    | k c =>
      simp only [sdA, cbeq] at h
      split at h
      · cases h
      · rename_i hc
        injection h with h
        subst h
        obtain ⟨p, hp, rfl, _⟩ := hv
        exact ⟨_, fun w => sd_run hc w, p, hp, rfl⟩
    | u z =>
      simp only [sdA, cbeq] at h
      split at h
      · cases h
      · rename_i hn
        injection h with h
        subst h
        obtain ⟨p, ad, c, hp, rfl, hnc, hh⟩ := hv
        rcases hh with ⟨rfl, _⟩ | hc
        · exact ⟨_, fun w => sd_run (show c ≠ 0 by omega) w, p, hp, rfl⟩
        · omega
  | _ => cases h
theorem run_loadBytes {b : Nat} : ∀ (l : List UInt8) (i : Nat) (acc : ByteArray), (∀ (j : Nat) x, l[j]? = some x → w.cell? ⟨b, i + j, none⟩ = some (vU x)) → ∃ r : ByteArray, (loadBytes ⟨b, i, none⟩ acc l.length).run P w = .ok r w ∧ r.data.toList = acc.data.toList ++ l
  | [], i, acc, _ => ⟨acc, rfl, by simp⟩
  | x :: l, i, acc, h => by
    have h0 := h 0 x rfl
    rw [Nat.add_zero] at h0
    obtain ⟨r, h1, h2⟩ := run_loadBytes l (i + 1) (acc.push x) fun j y hy => by
      have := h (j + 1) y (by rw [List.getElem?_cons_succ]; exact hy)
      rw [show i + 1 + j = i + (j + 1) by omega]
      exact this
    refine ⟨r, ?_, by rw [h2]; simp [ByteArray.push]⟩
    rw [List.length_cons]
    unfold loadBytes
    have e : (x.toNat : Int).toNat.toUInt8 = x := by simp
    simp only [Sem.run_bind, run_load, h0]
    simp only [Result.andThen_ok, vU, e]
    exact h1
theorem usA_run {t : Nat} {x y : AV} (h : usA P t x y s = some (r, s')) {u v : Value} (hu : RV ρ x u) (hv : RV ρ y v) (hl : Rel ρ s w) {T : Array TypeId} {ty : TypeId} {A : Array Value} (hA : A = #[u, v]) (hT : T[0]? = some t) :
    ∃ z w', (Builtin.unsafeString_ T ty A).run P w = .ok z w' ∧ RV ρ r z ∧ Goes ρ s w ρ s' w' := by
  subst hA
  unfold usA at h
  split at h
  · rename_i e hd
    simp only [Option.bind_eq_some_iff] at h
    obtain ⟨n, hn, h⟩ := h
    obtain ⟨k, rfl⟩ := natI_some hn hv
    have hai : ∀ (z : Int) (w : World), (asInt (.int k z)).run P w = .ok z w := fun z w => by simp [asInt, asIntOf]
    have key0 : n = 0 → RV ρ (.str 0 0) (.string .empty) := fun _ => ⟨.empty, rfl, rfl, by decide⟩
    cases x with
    | nil =>
      simp only [cbeq] at h
      split at h
      · rename_i h0
        subst h0
        injection h with h
        injection h with h1 h2
        subst h1 h2
        rw [show u = _ from hu]
        refine ⟨.string .empty, w, ?_, key0 rfl, Goes.refl hl⟩
        change Sem.run P (Bind.bind (asInt (.int k ((0 : Nat) : Int))) _) w = _
        simp only [Sem.run_bind, hai, Result.andThen_ok]
        simp [hT, IntKind.max, IntKind.signed, IntKind.bits]
      · cases h
    | ptr i k2 =>
      obtain ⟨p, hp, rfl⟩ := hu
      simp only [cbeq] at h
      split at h
      · rename_i h0
        subst h0
        injection h with h
        injection h with h1 h2
        subst h1 h2
        refine ⟨.string .empty, w, ?_, key0 rfl, Goes.refl hl⟩
        change Sem.run P (Bind.bind (asInt (.int k ((0 : Nat) : Int))) _) w = _
        simp only [Sem.run_bind, hai, Result.andThen_ok]
        simp [hT, IntKind.max, IntKind.signed, IntKind.bits]
      · rename_i h0
        simp only [cblt] at h
        split at h
        · cases h
        rename_i h1000
        simp only [Option.bind_eq_some_iff] at h
        obtain ⟨row, hrow, h⟩ := h
        cases row with
        | bytes e' m q d =>
          simp only at h
          cases hB : and (Nat.blt 0 P.depth) (and (Nat.blt 0 e) (and (Nat.beq e' e) (and (Nat.beq (P.cellsOf e) 1) (and (Nat.ble (Nat.add k2 n) q) (Nat.ble n 140737488355328))))) with
          | false => rw [hB] at h; cases h
          | true =>
            rw [hB] at h
            injection h with h
            injection h with h1 h2
            subst h1 h2
            simp only [Bool.and_eq_true] at hB
            obtain ⟨b1, b2, b3, b4, b5, b6⟩ := hB
            rw [blt_dec] at b1 b2
            have b1 := of_decide_eq_true b1
            have b2 := of_decide_eq_true b2
            have b3 := Nat.eq_of_beq_eq_true b3
            have b4 := Nat.eq_of_beq_eq_true b4
            have b5 : k2 + n ≤ q := Nat.le_of_ble_eq_true b5
            have b6 := Nat.le_of_ble_eq_true b6
            subst b3
            obtain ⟨p', hp', hra⟩ := hl.row i _ hrow (by rintro ⟨⟩)
            rw [hp] at hp'
            injection hp' with hp'
            subst hp'
            obtain ⟨g0, arr, et, fr, g1, g2, ⟨g3, g7⟩, g4, g5, g6⟩ := hra
            rcases g7 with g7 | g7
            · omega
            subst g7
            have hsh : w.shape? p.b = some (et, arr.size) := by
              unfold World.shape?
              rw [g1]
            have hlies : liesAt P P.depth et (arr.size / P.cellsOf et) (p.o + k2) et n = true := liesAt_self b1 (by omega) (by rw [b4, Nat.mod_one]) (by rw [b4, Nat.div_one, Nat.div_one]; omega)
            have hbs : byL n (bSub d k2 n) = ((byL q d).drop k2).take n := byL_sub b5
            obtain ⟨z, z1, z2⟩ := run_loadBytes (P := P) (w := w) (b := p.b) (byL n (bSub d k2 n)) (p.o + k2) .empty fun j x hj => by
              rw [hbs, List.getElem?_take, List.getElem?_drop] at hj
              split at hj
              · rw [cell_of g1, show p.o + k2 + j = p.o + (k2 + j) by omega]
                exact g6 (k2 + j) x hj
              · cases hj
            rw [byL_len] at z1
            refine ⟨.string z, w.freeze ⟨p.b, p.o + k2, none⟩ n, ?_, ⟨z, rfl, by rw [z2]; simp, bSub_lt d k2 n⟩, goes_put hl (by omega) hrow (by rintro ⟨⟩) hp (by simp [World.freeze, h0]) (by simp [World.freeze, h0]) (by simp [World.freeze, h0]) (by simp [World.freeze, h0]) (fun b hb => ?_) fun h => absurd rfl h⟩
            · have hi : ¬ ((n : Int) < 0) := by omega
              have hi2 : ¬ ((n : Int) > IntKind.i64.max) := by simp only [IntKind.max, IntKind.signed, IntKind.bits]; simp; omega
              change Sem.run P (Bind.bind (asInt (.int k (n : Int))) _) w = _
              simp only [Sem.run_bind, hai, Result.andThen_ok]
              simp [hT, hi, hi2, h0, elemOf, run_und (undT_eq hd), variablesAt, hsh, hlies, z1]
              omega
            · have hne' : ¬ p.b = b := fun e => hb e.symm
              simp [World.freeze, h0, Array.getElem?_modify, hne']
        | _ => cases h
    | _ => cases h
  · cases h
end
end Go.Ev
set_option linter.unusedVariables false
set_option linter.unusedSimpArgs false
namespace Go.Ev
open Go Go.Fw

section
variable {P : Program} {o : Oper} {a : Act} {w : World} {f : F} {s s' : S} {ρ : Rho} {r : AV}
theorem op_range {t : Nat} {x : Operand} (ho : o.op = .range t x) (h : oRange P f s t x = some (r, s')) (hF : FO ρ f a o) (hl : Rel ρ s w) : OpS P o a w ρ s r s' := by
  simp only [oRange, Option.bind_eq_some_iff] at h
  obtain ⟨v, hv, h⟩ := h
  have hr := hF.opd (by rw [ho]; simp [Op.operands]) hv
  split at h
  · rename_i n c ht
    injection h with h
    injection h with h1 h2
    subst h1 h2
    obtain ⟨sb, he, g1, g2⟩ := hr
    obtain ⟨k1, k2, k3⟩ := heap_push w (.stringIter sb 0)
    refine ⟨_, ρ.set s.nx ⟨w.heap.size, 0, 0⟩, w.iter sb 0, .inl ?_, ⟨_, if_pos rfl, rfl⟩, goes_new hl k3 rfl rfl rfl k1 fun ρ' _ => ⟨rfl, sb, k2, g1, g2⟩⟩
    unfold execOp
    rw [ho]
    simp [he, run_range_string w t sb (undT_eq ht)]
  · cases h
theorem op_next {x : Operand} {b : Bool} (ho : o.op = .next x b) (h : oNext f s x b = some (r, s')) (hF : FO ρ f a o) (hl : Rel ρ s w) : OpS P o a w ρ s r s' := by
  simp only [oNext, Option.bind_eq_some_iff] at h
  obtain ⟨v, hv, h⟩ := h
  have hr := hF.opd (by rw [ho]; simp [Op.operands]) hv
  unfold nextA at h
  split at h
  rotate_left
  · cases h
  rename_i i
  rw [cblt] at h
  split at h
  · cases h
  rename_i h1000
  simp only [Option.bind_eq_some_iff] at h
  obtain ⟨row, hrow, h⟩ := h
  split at h
  rotate_left
  · cases h
  rename_i n c k
  obtain ⟨p, hp, he⟩ := hr
  obtain ⟨p', hp', h0, sb, hb, g1, g2⟩ := hl.row i _ hrow (by rintro ⟨⟩)
  rw [hp] at hp'
  injection hp' with hp'
  subst hp'
  rw [h0] at he
  have hlt : p.b < w.heap.size := (Array.getElem?_eq_some_iff.1 hb).1
  have hsz : sb.size = n := by
    show sb.data.size = n
    rw [← Array.length_toList, g1, byL_len]
  rw [cblt] at h
  split at h
  · rename_i hk
    rw [cblt] at h
    split at h
    · rename_i ha
      injection h with h
      injection h with h1 h2
      subst h1 h2
      have hk' : k < sb.size := by rw [hsz]; exact hk
      have hby : (sb[k]'hk').toNat = bAt c k := by
        have := byL_get n c k hk
        rw [← g1, Array.getElem?_toList, Array.getElem?_eq_getElem hk'] at this
        injection this with this
        show (sb.data[k]'hk').toNat = _
        rw [this, UInt8.toNat_ofNat', Nat.mod_eq_of_lt (bAt_lt c k)]
      have hdec : Utf8.decode sb k = (bAt c k, 1) := by rw [decode_ascii sb k hk' (by rw [hby]; exact ha), hby]
      refine ⟨.tuple #[.bool true, .int .i64 k, .int .i32 (bAt c k)], ρ, { w with heap := w.heap.setIfInBounds p.b (.stringIter sb (k + 1)) }, .inl ?_, ⟨_, rfl, _, _, rfl, rfl, _, _, rfl, rfl, _, _, rfl, rfl, rfl⟩, goes_put hl (by omega) hrow (by rintro ⟨⟩) hp (by simp) rfl rfl rfl (fun b hne => ?_) fun _ => ⟨h0, sb, ?_, g1, g2⟩⟩
      · unfold execOp
        rw [ho]
        simp [he, Instr.next, getObj, setObj, Sem.run, hb, hk', hdec, goInt]
      · show (w.heap.setIfInBounds p.b _)[b]? = _
        rw [Array.getElem?_setIfInBounds_ne (Ne.symm hne)]
      · show (w.heap.setIfInBounds p.b _)[p.b]? = _
        rw [Array.getElem?_setIfInBounds, if_pos rfl, if_pos hlt]
    · cases h
  · rename_i hk
    injection h with h
    injection h with h1 h2
    subst h1 h2
    have hk' : ¬ k < sb.size := by rw [hsz]; exact hk
    refine ⟨.tuple #[.bool false], ρ, w, .inl ?_, ⟨_, rfl, _, _, rfl, rfl, rfl⟩, Goes.refl hl⟩
    unfold execOp
    rw [ho]
    simp [he, Instr.next, getObj, Sem.run, hb, hk']
end
end Go.Ev
set_option linter.unusedVariables false
set_option linter.unusedSimpArgs false
namespace Go.Ev
open Go Go.Fw

section
variable {P : Program} {o : Oper} {a : Act} {w : World} {f : F} {s s' : S} {ρ : Rho} {r : AV}
theorem run_builtinOp {c : Call} {b : Builtin} (ho : o.op = .call c) (hb : c.callee = .builtin b) : (execOp a.eval o).run P w = (builtin b c.argTypes o.type (c.args.map fun | .const _ => true | _ => false) (c.args.map a.eval)).run P w := by
  unfold execOp
  rw [ho]
  simp only [resolve, hb, Sem.run_bind, Sem.run_pure, Result.andThen_ok]
  rfl
theorem callArgs {c : Call} (ho : o.op = .call c) (hF : FO ρ f a o) {l : List AV} (h : opds f c.args.toList = some l) : RVs ρ l (c.args.map a.eval).toList := by
  rw [Array.toList_map]
  exact opds_rv (fun x hx v hv => hF.opd (by
    rw [ho]
    have : x ∈ c.args := by simpa using hx
    cases hc : c.callee <;> simp [Op.operands, Call.operands, hc, this]) hv) h
theorem arr0 {A : Array Value} {v : Value} {l : List Value} (h : A.toList = v :: l) : A[0]? = some v := by rw [← Array.getElem?_toList, h]; rfl
theorem arr1 {A : Array Value} {v u : Value} {l : List Value} (h : A.toList = v :: u :: l) : A[1]? = some u := by rw [← Array.getElem?_toList, h]; rfl
theorem tarr0 {A : Array TypeId} {v : TypeId} {l : List TypeId} (h : A.toList = v :: l) : A[0]? = some v := by rw [← Array.getElem?_toList, h]; rfl
theorem tarr1 {A : Array TypeId} {v u : TypeId} {l : List TypeId} (h : A.toList = v :: u :: l) : A[1]? = some u := by rw [← Array.getElem?_toList, h]; rfl
/-- len, cap, min, max. -/
theorem op_quietB {c : Call} {b : Builtin} (ho : o.op = .call c) (hb : c.callee = .builtin b) (hma : mapArg P c = false) (hq : b = .len ∨ b = .cap ∨ b = .min ∨ b = .max ∨ b = .unsafeSliceData) (h : oCall P f s c = some (r, s')) (hF : FO ρ f a o) : OpG P o a ρ s r s' := by
  simp only [oCall, hb, Option.bind_eq_some_iff] at h
  obtain ⟨l, hl, h⟩ := h
  have hr := callArgs ho hF hl
  obtain ⟨A, hA⟩ : ∃ A, A = c.args.map a.eval := ⟨_, rfl⟩
  rw [← hA] at hr
  have fin : ∀ v, (∀ w, (builtin b c.argTypes o.type (c.args.map fun | .const _ => true | _ => false) A).run P w = .ok (.value v) w) → RV ρ r v → s' = s → OpG P o a ρ s r s' := fun v g1 g2 g3 => by
    subst g3
    exact OpG.gv (fun w => by unfold Gv; rw [run_builtinOp ho hb, ← hA]; exact g1 w) g2
  rcases hq with rfl | rfl | rfl | rfl | rfl
  · simp only [builtinA] at h
    split at h
    · rename_i t ts x e1
      obtain ⟨u, us, hu, hx, hnil⟩ := hr
      have hmt : isMapT P t = false := by simpa [mapArg, hb, e1] using hma
      rw [hmt, cond_false] at h
      obtain ⟨e, v, g1, g2⟩ := lenB_run (T := c.argTypes) (A := A) (ty := o.type) h hx (tarr0 e1) (arr0 hu)
      exact fin v (fun w => by simp [builtin, g1]) g2 e
    · cases h
  · simp only [builtinA] at h
    split at h
    · rename_i t ts x e1
      obtain ⟨u, us, hu, hx, hnil⟩ := hr
      obtain ⟨e, v, g1, g2⟩ := capB_run (T := c.argTypes) (A := A) (ty := o.type) h hx (tarr0 e1) (arr0 hu)
      exact fin v (fun w => by simp [builtin, g1]) g2 e
    · cases h
  · simp only [builtinA] at h
    split at h
    · rename_i x xs e1
      obtain ⟨u, us, hu, hx, hxs⟩ := hr
      obtain ⟨h, e⟩ := ret1_some h
      obtain ⟨z, g1, g2⟩ := foldI_run (P := P) (fun x y u v r => minI_run) h hx hxs
      exact fin z (fun w => by simp [builtin, Builtin.min_, hu, g1]) g2 e
    · cases h
  · simp only [builtinA] at h
    split at h
    · rename_i x xs e1
      obtain ⟨u, us, hu, hx, hxs⟩ := hr
      obtain ⟨h, e⟩ := ret1_some h
      obtain ⟨z, g1, g2⟩ := foldI_run (P := P) (fun x y u v r => maxI_run) h hx hxs
      exact fin z (fun w => by simp [builtin, Builtin.max_, hu, g1]) g2 e
    · cases h
  · simp only [builtinA] at h
    split at h
    · rename_i x
      obtain ⟨u, us, hu, hx, hnil⟩ := hr
      obtain ⟨h, e⟩ := ret1_some h
      obtain ⟨z, g1, g2⟩ := sdA_run (P := P) (T := c.argTypes) (ty := o.type) (A := A) h hx (by apply Array.toList_inj.1; rw [hu, show us = [] from hnil])
      exact fin z (fun w => by simp [builtin, g1]) g2 e
    · cases h
/-- The length of a map. -/
theorem op_lenMap {c : Call} (ho : o.op = .call c) (hb : c.callee = .builtin .len) (hma : mapArg P c = true) (h : oCall P f s c = some (r, s')) (hF : FO ρ f a o) (hl : Rel ρ s w) : s' = s ∧ ∃ v, Gv P o a w v ∧ RV ρ r v := by
  simp only [oCall, hb, Option.bind_eq_some_iff] at h
  obtain ⟨l, hlA, h⟩ := h
  have hr := callArgs ho hF hlA
  obtain ⟨A, hA⟩ : ∃ A, A = c.args.map a.eval := ⟨_, rfl⟩
  rw [← hA] at hr
  simp only [builtinA] at h
  split at h
  · rename_i t ts x e1
    obtain ⟨u, us, hu, hx, hnil⟩ := hr
    have hmt : isMapT P t = true := by simpa [mapArg, hb, e1] using hma
    rw [hmt, cond_true] at h
    obtain ⟨h, rfl⟩ := ret1_some h
    refine ⟨rfl, ?_⟩
    obtain ⟨kt, et, ht⟩ : ∃ kt et, P.underlying t = some (.map kt et) := by
      unfold isMapT at hmt
      split at hmt
      · rename_i kt et ht
        exact ⟨kt, et, undT_eq ht⟩
      · cases hmt
    have fin : ∀ n : Nat, (Builtin.len_ c.argTypes o.type A).run P w = .ok (.int .i64 (Int.ofNat n)) w → ∃ v, Gv P o a w v ∧ RV ρ (.int .i64 (.ofNat n)) v := fun n g1 => by
      refine ⟨.int .i64 (.ofNat n), ?_, rfl⟩
      unfold Gv
      rw [run_builtinOp ho hb, ← hA]
      simp [builtin, g1]
    cases x with
    | nilM =>
      injection h with h
      subst h
      have e2 : u = .map none := hx
      subst e2
      refine fin 0 ?_
      simp [Builtin.len_, tarr0 e1, arr0 hu, run_und ht]
      rfl
    | mp i =>
      simp only [lenMap, Option.bind_eq_some_iff, Option.some.injEq] at h
      obtain ⟨l, hlr, rfl⟩ := h
      obtain ⟨p, hp, rfl⟩ := hx
      obtain ⟨es, clk, hb2, hsz, _⟩ := rowM_at hlr hl hp
      refine fin _ ?_
      simp [Builtin.len_, tarr0 e1, arr0 hu, run_und ht, MapKept.run_getObj_map hb2, hsz, lenL_eq]
      rfl
    | _ => cases h
  · cases h
theorem op_builtin {c : Call} (ho : o.op = .call c) (h : oCall P f s c = some (r, s')) (hF : FO ρ f a o) (hl : Rel ρ s w) : OpS P o a w ρ s r s' := by
  have h0 := h
  unfold oCall at h
  split at h
  · rename_i b hb
    simp only [Option.bind_eq_some_iff] at h
    obtain ⟨l, hlA, h⟩ := h
    have hr := callArgs ho hF hlA
    obtain ⟨A, hA⟩ : ∃ A, A = c.args.map a.eval := ⟨_, rfl⟩
    rw [← hA] at hr
    have fin : ∀ v ρ' w', (builtin b c.argTypes o.type (c.args.map fun | .const _ => true | _ => false) A).run P w = .ok (.value v) w' → RV ρ' r v → Goes ρ s w ρ' s' w' → OpS P o a w ρ s r s' := fun v ρ' w' g1 g2 g3 =>
      ⟨v, ρ', w', .inl (by rw [run_builtinOp ho hb, ← hA]; exact g1), g2, g3⟩
    cases b with
    | len =>
      cases hma : mapArg P c with
      | false => exact (op_quietB ho hb hma (by simp) h0 hF).opS hl
      | true =>
        obtain ⟨e, v, g1, g2⟩ := op_lenMap ho hb hma h0 hF hl
        subst e
        exact OpS.gv hl g1 g2
    | cap => exact (op_quietB ho hb (by simp [mapArg, hb]) (by simp) h0 hF).opS hl
    | min => exact (op_quietB ho hb (by simp [mapArg, hb]) (by simp) h0 hF).opS hl
    | max => exact (op_quietB ho hb (by simp [mapArg, hb]) (by simp) h0 hF).opS hl
    | unsafeSliceData => exact (op_quietB ho hb (by simp [mapArg, hb]) (by simp) h0 hF).opS hl
    | unsafeString =>
      simp only [builtinA] at h
      split at h
      · rename_i t ts x y e1
        obtain ⟨v1, us, hu, hx, v2, us', hu', hy, hnil⟩ := hr
        subst hu'
        obtain ⟨z, w', g1, g2, g3⟩ := usA_run (ty := o.type) (A := A) h hx hy hl (by apply Array.toList_inj.1; rw [hu, show us' = [] from hnil]) (tarr0 e1)
        exact fin z ρ w' (by simp [builtin, g1]) g2 g3
      · cases h
    | delete =>
      simp only [builtinA] at h
      split at h
      · rename_i t ts x y e1
        simp only [Option.bind_eq_some_iff] at h
        obtain ⟨e, he, h⟩ := h
        obtain ⟨v1, us, hu, hx, v2, us', hu', hy, hnil⟩ := hr
        subst hu'
        obtain ⟨z, w', g1, g2, g3⟩ := delM_run (ty := o.type) h he hx hy hl (tarr0 e1) (arr0 hu) (arr1 hu)
        exact fin z ρ w' (by simp [builtin, g1]) g2 g3
      · cases h
    | append =>
      simp only [builtinA] at h
      split at h
      · rename_i t u ts x y e1
        obtain ⟨v1, us, hu, hx, v2, us', hu', hy, hnil⟩ := hr
        subst hu'
        split at h
        · rename_i hd
          obtain ⟨v', ρ', w', g1, g2, g3⟩ := appendA_run (ty := o.type) h (tarr0 e1) (tarr1 e1) (undT_eq hd) rfl (arr0 hu) (arr1 hu) hx hy hl
          exact fin v' ρ' w' (by simp [builtin, g1]) g2 g3
        · rename_i hd
          obtain ⟨v', ρ', w', g1, g2, g3⟩ := appendA_run (ty := o.type) h (tarr0 e1) (tarr1 e1) (undT_eq hd) rfl (arr0 hu) (arr1 hu) hx hy hl
          exact fin v' ρ' w' (by simp [builtin, g1]) g2 g3
        · rename_i kk hd
          obtain ⟨v', ρ', w', g1, g2, g3⟩ := appendZ_run (ty := o.type) h (tarr0 e1) (tarr1 e1) (undT_eq hd) (arr0 hu) (arr1 hu) hx hy hl
          exact fin v' ρ' w' (by simp [builtin, g1]) g2 g3
        · cases h
      · cases h
    | copy =>
      simp only [builtinA] at h
      split at h
      · rename_i t ts x y e1
        obtain ⟨v1, us, hu, hx, v2, us', hu', hy, hnil⟩ := hr
        subst hu'
        obtain ⟨z, w', g1, g2, g3⟩ := copyA_run (ty := o.type) h hx hy hl (tarr0 e1) (arr0 hu) (arr1 hu)
        exact fin z ρ w' (by simp [builtin, g1]) g2 g3
      · cases h
    | _ => cases h
  · cases h
/-- Any operation but a call. -/
theorem opA_run (h : opA P f s o.op = some (r, s')) (hF : FO ρ f a o) (hl : Rel ρ s w) : OpS P o a w ρ s r s' := by
  obtain ⟨q, hq⟩ : ∃ q, o.op = q := ⟨_, rfl⟩
  rw [hq] at h
  cases q with
  | move x => exact (op_move hq h hF).opS hl
  | assign x => exact (op_assign hq h hF).opS hl
  | pick c x y => exact (op_pick hq h hF).opS hl
  | alloc e => exact (op_alloc hq h).opS hl
  | box e x => exact (op_box hq h hF).opS hl
  | build t ps => exact (op_build hq h hF).opS hl
  | buildSlice t n ps => exact (op_buildSlice hq h hF).opS hl
  | load t x => exact op_load hq h hF hl
  | store t x y => exact op_store hq h hF hl
  | nilCheck x => exact (op_nil hq h hF).opS hl
  | binOp op t x y q => exact (op_bin hq h hF).opS hl
  | unOp op t x => exact (op_un hq h hF).opS hl
  | convert p q x => exact op_convert hq h hF hl
  | makeInterface t x => exact (op_iface hq h hF).opS hl
  | makeFunc fn x y => exact (op_makeFunc hq h hF).opS hl
  | makeSlice t x y => exact (op_makeSlice hq h hF).opS hl
  | slice t x lo hi mx => exact (op_slice hq h hF).opS hl
  | fieldAddr t x k => exact (op_fieldAddr hq h hF).opS hl
  | field t x k => exact (op_field hq h hF).opS hl
  | indexAddr t x i => exact (op_indexAddr hq h hF).opS hl
  | index t x i => exact (op_index hq h hF).opS hl
  | extract x i => exact (op_extract hq h hF).opS hl
  | call c => exact op_builtin hq h hF hl
  | makeMap t x => exact (op_makeMap hq h).opS hl
  | lookup t x k ok =>
    obtain ⟨e, v, g1, g2⟩ := op_lookup hq h hF hl
    subst e
    exact OpS.gv hl g1 g2
  | mapUpdate t x k v => exact op_update (.inl hq) h hF hl
  | insert t x k v => exact op_update (.inr hq) h hF hl
  | range t x => exact op_range hq h hF hl
  | next x b => exact op_next hq h hF hl
  | _ => cases h
theorem quietB_some {b : Builtin} (h : quietB b = true) : b = .len ∨ b = .cap ∨ b = .min ∨ b = .max ∨ b = .unsafeSliceData := by
  cases b <;> first | exact .inl rfl | exact .inr (.inl rfl) | exact .inr (.inr (.inl rfl)) | exact .inr (.inr (.inr (.inl rfl))) | exact .inr (.inr (.inr (.inr rfl))) | cases h
theorem opA_quiet (h : opA P f s o.op = some (r, s')) (hk : kindO P o.op = .quiet) (hF : FO ρ f a o) : OpG P o a ρ s r s' := by
  obtain ⟨q, hq⟩ : ∃ q, o.op = q := ⟨_, rfl⟩
  rw [hq] at h hk
  cases q with
  | move x => exact op_move hq h hF
  | assign x => exact op_assign hq h hF
  | pick c x y => exact op_pick hq h hF
  | build t ps => exact op_build hq h hF
  | nilCheck x => exact op_nil hq h hF
  | binOp op t x y q => exact op_bin hq h hF
  | unOp op t x => exact op_un hq h hF
  | makeInterface t x => exact op_iface hq h hF
  | makeFunc fn x y => exact op_makeFunc hq h hF
  | slice t x lo hi mx => exact op_slice hq h hF
  | fieldAddr t x k => exact op_fieldAddr hq h hF
  | field t x k => exact op_field hq h hF
  | indexAddr t x i => exact op_indexAddr hq h hF
  | index t x i => exact op_index hq h hF
  | extract x i => exact op_extract hq h hF
  | convert p q x =>
    simp only [kindO] at hk
    cases hc : quietC P p q with
    | false => rw [hc] at hk; cases hk
    | true =>
      have h' : oConv P f s p q x = some (r, s') := h
      simp only [oConv, Option.bind_eq_some_iff] at h'
      obtain ⟨v, hv, h'⟩ := h'
      have hcv := hF.opd (by rw [hq]; simp [Op.operands]) hv
      unfold quietC at hc
      split at hc
      · rename_i k1 k2 h1 h2
        unfold convA at h'
        rw [h1, h2] at h'
        cases v with
        | int k n =>
          injection h' with h'
          injection h' with e1 e2
          subst e1 e2
          refine OpG.gv (v := .int k2 (k2.wrap n)) (fun w => ?_) wr_rv
          have e : a.eval x = .int k n := hcv
          unfold Gv execOp
          rw [hq]
          simp [e, convert, run_und (undT_eq h1), run_und (undT_eq h2), Conv.intToInt]
        | _ => cases h'
      · cases hc
  | call c =>
    simp only [kindO] at hk
    cases hc : c.callee with
    | builtin b =>
      rw [hc] at hk
      simp only at hk
      cases hb : quietB b with
      | true =>
        rw [hb, cond_true] at hk
        cases hma : mapArg P c with
        | true => rw [hma] at hk; cases hk
        | false => exact op_quietB hq hc hma (quietB_some hb) h hF
      | false => rw [hb] at hk; cases hk
    | _ => rw [hc] at hk; cases hk
  | _ => cases hk
theorem opA_new (h : opA P f s o.op = some (r, s')) (hk : kindO P o.op = .new) (hF : FO ρ f a o) : OpN P o a ρ s r s' := by
  obtain ⟨q, hq⟩ : ∃ q, o.op = q := ⟨_, rfl⟩
  rw [hq] at h hk
  cases q with
  | alloc e => exact op_alloc hq h
  | makeMap t x => exact op_makeMap hq h
  | box e x => exact op_box hq h hF
  | buildSlice t n ps => exact op_buildSlice hq h hF
  | makeSlice t x y => exact op_makeSlice hq h hF
  | convert p q x => simp only [kindO] at hk; cases hc : quietC P p q <;> rw [hc] at hk <;> cases hk
  | call c =>
    simp only [kindO] at hk
    cases hc : c.callee with
    | builtin b =>
      rw [hc] at hk
      simp only at hk
      cases hb : quietB b <;> rw [hb] at hk
      · cases hk
      · cases hma : mapArg P c <;> rw [hma] at hk <;> cases hk
    | _ => rw [hc] at hk; cases hk
  | _ => cases hk
theorem opA_load (h : opA P f s o.op = some (r, s')) (hk : kindO P o.op = .load) (hF : FO ρ f a o) (hl : Rel ρ s w) : s' = s ∧ ∃ v, Gv P o a w v ∧ RV ρ r v := by
  obtain ⟨q, hq⟩ : ∃ q, o.op = q := ⟨_, rfl⟩
  rw [hq] at h hk
  cases q with
  | load t x => exact load_gv hq h hF hl
  | lookup t x k ok => exact op_lookup hq h hF hl
  | convert p q x => simp only [kindO] at hk; cases hc : quietC P p q <;> rw [hc] at hk <;> cases hk
  | call c =>
    simp only [kindO] at hk
    cases hc : c.callee with
    | builtin b =>
      rw [hc] at hk
      simp only at hk
      cases hb : quietB b with
      | false => rw [hb] at hk; cases hk
      | true =>
        rw [hb, cond_true] at hk
        cases hma : mapArg P c with
        | false => rw [hma] at hk; cases hk
        | true =>
          have hlen : b = .len := by
            unfold mapArg at hma
            rw [hc] at hma
            cases b <;> first | rfl | (simp at hma; done)
          subst hlen
          exact op_lenMap hq hc hma h hF hl
    | _ => rw [hc] at hk; cases hk
  | _ => cases hk
end
end Go.Ev
