/- What is proved: what is known of functions without code that the model has by itself: abi.NoEscape, marks of package race, sync/atomic's. And what follows from it: a summary of sync.Once.Do, not yet done and its lock free, whose function the evaluator runs. summaries of searches in strings: bytealg's IndexByteString and CountString, stringslite's Index. a call whose outcome the evaluator has told once, from few rows of memory, may be told wherever these rows are as they were. a table of whole numbers that a row lists lies in memory as the evaluator has it. -/
import Derived.Test.YtdfkjafndhfljaaGreatDoorZ6
import Derived.Laws.LoneSync
import Derived.Lib.Bytealg
import Derived.Lib.Index
import Derived.Test.YtdfkjafndhfljaaGreatDoorZ1
set_option linter.unusedVariables false
set_option linter.unusedSimpArgs false
namespace Go.Ev
open Go Go.Fw

section
variable {P : Program} {w : World} {s s' : S} {ρ : Rho} {r : AV}
structure ExF (P : Program) (k : Nat) (g : Array Value → Sem Value) : Prop where
  ex : ∃ fn, P.funcs[k]? = some fn ∧ (fn.name == "runtime.NumGoroutine") = false ∧ fn.body.isNone = true ∧ Extern.findNext fn = none ∧ Extern.find fn = some g
noncomputable def u32At (s : S) (i o : Nat) : Option Int := (s.h.get i).bind fun r => (readCell r o).bind fun v => match v with
  | .int .u32 n => some n
  | _ => none
noncomputable def i32At (s : S) (i o : Nat) : Option Int := (s.h.get i).bind fun r => (readCell r o).bind fun v => match v with
  | .int .i32 n => some n
  | _ => none
/-- Calls of them; t: which function is of which kind. -/
noncomputable def smX (t : Nat → Nat) (k : Nat) (l : List AV) (s : S) : R := match t k with
  | 1 => match l with
    | [x] => some (x, s)
    | _ => none
  | 2 => match l with
    | [] => some (.tup [], s)
    | _ => none
  | 3 => match l with
    | [.ptr _ _] => some (.tup [], s)
    | _ => none
  | 4 => match l with
    | [.ptr i o] => (u32At s i o).bind fun n => some (.int .u32 n, s)
    | _ => none
  | 5 => match l with
    | [.ptr i o, .int k y] => (storeA s i o (.int k y)).bind fun s => some (.tup [], s)
    | _ => none
  | 6 => match l with
    | [.ptr i o, .int .i32 x, .int .i32 y] => (i32At s i o).bind fun n => bif iEq n x then (storeA s i o (.int .i32 y)).bind fun s => some (.bool true, s) else none
    | _ => none
  | 7 => match l with
    | [.ptr i o, .int .i32 y] => (i32At s i o).bind fun n => match wr .i32 (Int.add n y) with
      | .int .i32 z => (storeA s i o (.int .i32 z)).bind fun s => some (.int .i32 z, s)
      | _ => none
    | _ => none
  | _ => none
structure TabOk (P : Program) (t : Nat → Nat) : Prop where
  k1 : ∀ k, t k = 1 → ExF P k Extern.AbiNoEscape.same
  k2 : ∀ k, t k = 2 → ∃ m, ExF P k (fun _ => do mark m; pure Extern.Race.none_)
  k3 : ∀ k, t k = 3 → ∃ m, ExF P k (Extern.Race.marked m)
  k4 : ∀ k, t k = 4 → ExF P k (Extern.Atomic.loadT (.int .u32))
  k5 : ∀ k, t k = 5 → ExF P k Extern.Atomic.storeT
  k6 : ∀ k, t k = 6 → ExF P k (Extern.Atomic.casT (.int .i32))
  k7 : ∀ k, t k = 7 → ExF P k (Extern.Atomic.update (Op.intArith .add) .i32 true)
theorem storeA_one {i o : Nat} {x : AV} {s2 : S} (h : storeA s i o x = some s2) {v : Value} (hv : RV ρ x v) (ho : v.cells = #[v]) (hl : Rel ρ s w) {p : Pl} (hp : ρ i = some p) :
    (∃ u, w.cell? ⟨p.b, p.o + o, none⟩ = some u) ∧ w.frozen? ⟨p.b, p.o + o, none⟩ = false ∧ Goes ρ s w ρ s2 (w.setCell ⟨p.b, p.o + o, none⟩ v) := by
  have hg := (storeA_goes (P := default) h hv hl hp).2
  unfold storeA at h
  rw [cblt] at h
  split at h
  · cases h
  simp only [Option.bind_eq_some_iff, Option.some.injEq] at h
  obtain ⟨row, hrow, row', hrow', rfl⟩ := h
  have hnd : row ≠ .dead := by rintro rfl; cases hrow'
  obtain ⟨p', hp', hra⟩ := hl.row i row hrow hnd
  rw [hp] at hp'
  injection hp' with hp'
  subst hp'
  obtain ⟨h1, h2, h3, h4, h5⟩ := writeRow_at hrow' hv hra
  rw [ho] at h4 h5 hg
  have c0 := h4 0 (by simp)
  have f0 := h5 0 (by simp)
  rw [Nat.add_zero] at c0 f0
  exact ⟨Option.isSome_iff_exists.1 c0, f0, hg⟩
theorem intAt {i o : Nat} {row : Row} {x : AV} (hrow : s.h.get i = some row) (hv : readCell row o = some x) (hl : Rel ρ s w) {p : Pl} (hp : ρ i = some p) : ∃ u, w.cell? ⟨p.b, p.o + o, none⟩ = some u ∧ RV ρ x u := by
  have hnd : row ≠ .dead := by rintro rfl; cases hv
  obtain ⟨p', hp', hra⟩ := hl.row i row hrow hnd
  rw [hp] at hp'
  injection hp' with hp'
  subst hp'
  obtain ⟨u, hu, hr, _⟩ := hra.cell hv
  exact ⟨u, hu, hr⟩
theorem i32At_some {i o : Nat} {n : Int} (h : i32At s i o = some n) (hl : Rel ρ s w) {p : Pl} (hp : ρ i = some p) : w.cell? ⟨p.b, p.o + o, none⟩ = some (.int .i32 n) := by
  simp only [i32At, Option.bind_eq_some_iff] at h
  obtain ⟨row, hrow, x, hx, h⟩ := h
  obtain ⟨u, hu, hr⟩ := intAt hrow hx hl hp
  split at h
  · injection h with h
    subst h
    rw [hu, show u = _ from hr]
  · cases h
theorem u32At_some {i o : Nat} {n : Int} (h : u32At s i o = some n) (hl : Rel ρ s w) {p : Pl} (hp : ρ i = some p) : w.cell? ⟨p.b, p.o + o, none⟩ = some (.int .u32 n) := by
  simp only [u32At, Option.bind_eq_some_iff] at h
  obtain ⟨row, hrow, x, hx, h⟩ := h
  obtain ⟨u, hu, hr⟩ := intAt hrow hx hl hp
  split at h
  · injection h with h
    subst h
    rw [hu, show u = _ from hr]
  · cases h
theorem smX_ok {t : Nat → Nat} (ht : TabOk P t) : CallS P (smX t) := by
  intro k l s r s' h ρ w vs hl hv
  have none_rv : RV ρ (.tup []) (.tuple #[]) := ⟨#[], rfl, rfl⟩
  unfold smX at h
  split at h
  · rename_i hk
    obtain ⟨fn, h1, h2, h3, h4, h5⟩ := (ht.k1 k hk).ex
    split at h
    · injection h with h
      injection h with e1 e2
      subst e1 e2
      obtain ⟨v, vs', rfl, hr, hn⟩ := hv
      have : vs' = [] := hn
      subst this
      refine .inr ⟨v, ρ, w, ?_, hr, Goes.refl hl⟩
      rw [run_callFunc_extern h1 h2 h3 h4 h5]
      rfl
    · cases h
  · rename_i hk
    obtain ⟨m, ⟨fn, h1, h2, h3, h4, h5⟩⟩ := ht.k2 k hk
    split at h
    · injection h with h
      injection h with e1 e2
      subst e1 e2
      have : vs = [] := hv
      subst this
      exact .inr ⟨_, ρ, w, run_call_mark0 h1 h2 h3 h4 m h5 w, none_rv, Goes.refl hl⟩
    · cases h
  · rename_i hk
    obtain ⟨m, ⟨fn, h1, h2, h3, h4, h5⟩⟩ := ht.k3 k hk
    split at h
    · injection h with h
      injection h with e1 e2
      subst e1 e2
      obtain ⟨v, vs', rfl, ⟨p, hp, rfl⟩, hn⟩ := hv
      have : vs' = [] := hn
      subst this
      exact .inr ⟨_, ρ, w, run_call_marked h1 h2 h3 h4 m h5 _ w, none_rv, Goes.refl hl⟩
    · cases h
  · rename_i hk
    obtain ⟨fn, h1, h2, h3, h4, h5⟩ := (ht.k4 k hk).ex
    split at h
    · simp only [Option.bind_eq_some_iff, Option.some.injEq, Prod.mk.injEq] at h
      obtain ⟨n, hn, rfl, rfl⟩ := h
      obtain ⟨v, vs', rfl, ⟨p, hp, rfl⟩, hnil⟩ := hv
      have : vs' = [] := hnil
      subst this
      exact .inr ⟨_, ρ, w, run_call_load h1 h2 h3 h4 .u32 h5 (u32At_some hn hl hp), rfl, Goes.refl hl⟩
    · cases h
  · rename_i hk
    obtain ⟨fn, h1, h2, h3, h4, h5⟩ := (ht.k5 k hk).ex
    split at h
    · simp only [Option.bind_eq_some_iff, Option.some.injEq, Prod.mk.injEq] at h
      obtain ⟨s2, hs, rfl, rfl⟩ := h
      obtain ⟨v, vs', rfl, ⟨p, hp, rfl⟩, v2, vs2, rfl, hv2, hnil⟩ := hv
      have : vs2 = [] := hnil
      subst this
      have : v2 = _ := hv2
      subst this
      obtain ⟨⟨u, hu⟩, hf, hg⟩ := storeA_one hs hv2 rfl hl hp
      exact .inr ⟨_, ρ, _, run_call_store h1 h2 h3 h4 h5 hu hf, none_rv, hg⟩
    · cases h
  · rename_i hk
    obtain ⟨fn, h1, h2, h3, h4, h5⟩ := (ht.k6 k hk).ex
    split at h
    · simp only [Option.bind_eq_some_iff] at h
      obtain ⟨n, hn, h⟩ := h
      obtain ⟨v, vs', rfl, ⟨p, hp, rfl⟩, v2, vs2, rfl, hv2, v3, vs3, rfl, hv3, hnil⟩ := hv
      have : vs3 = [] := hnil
      subst this
      have : v2 = _ := hv2
      subst this
      have : v3 = _ := hv3
      subst this
      rename_i i o x y
      cases hq : iEq n x with
      | false => rw [hq] at h; cases h
      | true =>
        rw [hq] at h
        simp only [cond_true, Option.bind_eq_some_iff, Option.some.injEq, Prod.mk.injEq] at h
        obtain ⟨s2, hs, rfl, rfl⟩ := h
        rw [iEq_dec, decide_eq_true_eq] at hq
        subst hq
        obtain ⟨_, hf, hg⟩ := storeA_one hs hv3 rfl hl hp
        exact .inr ⟨_, ρ, _, run_call_cas_hit h1 h2 h3 h4 .i32 h5 (i32At_some hn hl hp) hf, rfl, hg⟩
    · cases h
  · rename_i hk
    obtain ⟨fn, h1, h2, h3, h4, h5⟩ := (ht.k7 k hk).ex
    split at h
    · simp only [Option.bind_eq_some_iff] at h
      obtain ⟨n, hn, h⟩ := h
      obtain ⟨v, vs', rfl, ⟨p, hp, rfl⟩, v2, vs2, rfl, hv2, hnil⟩ := hv
      have : vs2 = [] := hnil
      subst this
      have : v2 = _ := hv2
      subst this
      split at h
      · rename_i z hz
        simp only [Option.bind_eq_some_iff, Option.some.injEq, Prod.mk.injEq] at h
        obtain ⟨s2, hs, rfl, rfl⟩ := h
        rename_i i o y v0
        have hw := wr_rv (ρ := ρ) (k := .i32) (n := Int.add n y)
        rw [hz] at hw
        have hw : (Value.int .i32 (IntKind.i32.wrap (Int.add n y))) = .int .i32 z := hw
        injection hw with _ hw
        have hvz : RV ρ (.int .i32 z) (.int .i32 z) := rfl
        obtain ⟨_, hf, hg⟩ := storeA_one hs hvz rfl hl hp
        refine .inr ⟨_, ρ, _, run_call_add h1 h2 h3 h4 .i32 h5 (i32At_some hn hl hp) hf (y := y) (s := z) ?_, rfl, hg⟩
        rw [← hw]
        rfl
      · cases h
    · cases h
  · cases h
/-- One summary, else another. -/
def smOr (a b : Nat → List AV → S → R) (k : Nat) (l : List AV) (s : S) : R := match a k l s with
  | some r => some r
  | none => b k l s
theorem smOr_ok {a b : Nat → List AV → S → R} (ha : CallS P a) (hb : CallS P b) : CallS P (smOr a b) := by
  intro k l s r s' h ρ w vs hl hv
  unfold smOr at h
  split at h
  · rename_i q hq
    injection h with h
    subst h
    exact ha k l s _ _ hq ρ w vs hl hv
  · exact hb k l s _ _ h ρ w vs hl hv
end
end Go.Ev
set_option linter.unusedVariables false
set_option linter.unusedSimpArgs false
namespace Go.Ev
open Go Go.Fw

section
variable {P : Program}
noncomputable def smDo (P : Program) (fDo kf : Nat) (sm : Nat → List AV → S → R) (n : Nat) (k : Nat) (l : List AV) (s : S) : R := bif Nat.beq k fDo then (match l with
  | [.ptr i o, .fn g [.ptr j q] []] => bif Nat.beq g kf then
      (u32At s i o).bind fun d => (i32At s i (Nat.succ o)).bind fun m => bif and (iEq d 0) (iEq m 0) then
        (storeA s i o (.int .u32 0)).bind fun _ => (storeA s i (Nat.succ o) (.int .i32 1)).bind fun s1 => (ev P sm n kf [.ptr j q] s1).bind fun x => match x with
        | (.tup [], s2) => (u32At s2 i o).bind fun d => (i32At s2 i (Nat.succ o)).bind fun m => bif and (iEq d 0) (iEq m 1) then
            (storeA s2 i (Nat.succ o) (.int .i32 0)).bind fun _ => (storeA s2 i o (.int .u32 1)).bind fun s3 => (storeA s3 i (Nat.succ o) (.int .i32 0)).bind fun s4 => some (.tup [], s4)
          else none
        | _ => none
      else none
    else none
  | _ => none) else none
/-- What is known of Do. -/
def DoS (P : Program) (fDo kf : Nat) : Prop := ∀ (b off : Nat) (rp : Addr) (w : World), w.cell? ⟨b, off, none⟩ = some (.int .u32 0) → w.cell? ⟨b, off + 1, none⟩ = some (.int .i32 0) → w.frozen? ⟨b, off, none⟩ = false → w.frozen? ⟨b, off + 1, none⟩ = false → ∀ R : World → Prop,
  (Calls P kf #[.pointer (some rp)] (w.setCell ⟨b, off + 1, none⟩ (.int .i32 1)) fun e w2 => e = .returned (.tuple #[]) ∧ R w2) →
  (∀ w2, R w2 → w2.cell? ⟨b, off, none⟩ = some (.int .u32 0) ∧ w2.cell? ⟨b, off + 1, none⟩ = some (.int .i32 1) ∧ w2.frozen? ⟨b, off, none⟩ = false ∧ w2.frozen? ⟨b, off + 1, none⟩ = false) →
  Calls P fDo #[.pointer (some ⟨b, off, none⟩), .func (.func kf) #[.pointer (some rp)] #[]] w fun e w' => e = .returned (.tuple #[]) ∧ ∃ w2, R w2 ∧ w' = (w2.drew.setCell ⟨b, off, none⟩ (.int .u32 1)).setCell ⟨b, off + 1, none⟩ (.int .i32 0)
theorem smDo_ok (hP : PrOk P) {sm : Nat → List AV → S → R} (hsm : CallS P sm) {fDo kf : Nat} (hDo : DoS P fDo kf) (hok : CallOk P fDo) (hokf : CallOk P kf) (n : Nat) : CallS P (smDo P fDo kf sm n) := by
  intro k l s r s' h ρ w vs hl hv
  unfold smDo at h
  rw [cbeq] at h
  split at h
  rotate_left
  · cases h
  rename_i hk
  subst hk
  split at h
  rotate_left
  · cases h
  rename_i i o g j q
  rw [cbeq] at h
  split at h
  rotate_left
  · cases h
  rename_i hg
  subst hg
  simp only [Option.bind_eq_some_iff] at h
  obtain ⟨d, hd, m, hm, h⟩ := h
  cases hz : and (iEq d 0) (iEq m 0) with
  | false => rw [hz] at h; cases h
  | true =>
  rw [hz] at h
  simp only [Bool.and_eq_true, iEq_dec, decide_eq_true_eq] at hz
  obtain ⟨rfl, rfl⟩ := hz
  simp only [cond_true, Option.bind_eq_some_iff] at h
  obtain ⟨s0, hs0, s1, hs1, ⟨x, s2⟩, hev, h⟩ := h
  split at h
  rotate_left
  · cases h
  rename_i x' s2' hxe
  injection hxe with hx1 hx2
  subst hx1 hx2
  simp only [Option.bind_eq_some_iff] at h
  obtain ⟨d2, hd2, m2, hm2, h⟩ := h
  cases hz : and (iEq d2 0) (iEq m2 1) with
  | false => rw [hz] at h; cases h
  | true =>
  rw [hz] at h
  simp only [Bool.and_eq_true, iEq_dec, decide_eq_true_eq] at hz
  obtain ⟨rfl, rfl⟩ := hz
  simp only [cond_true, Option.bind_eq_some_iff, Option.some.injEq, Prod.mk.injEq] at h
  obtain ⟨s5, hs5, s3, hs3, s4, hs4, rfl, rfl⟩ := h
  obtain ⟨v1, vs1, rfl, ⟨p, hp, rfl⟩, v2, vs2, rfl, hv2, hnil⟩ := hv
  have : vs2 = [] := hnil
  subst this
  obtain ⟨f', c', rfl, hf', hc'⟩ := hv2
  obtain ⟨u, us, hu, ⟨pj, hpj, rfl⟩, hus⟩ := hf'
  have hf'e : f' = #[.pointer (some ⟨pj.b, pj.o + q, none⟩)] := by
    apply Array.toList_inj.1
    rw [hu, show us = [] from hus]
  have hc'e : c' = #[] := by
    apply Array.toList_inj.1
    rw [show c'.toList = [] from hc']
  subst hf'e hc'e
  have c0 := u32At_some hd hl hp
  have c1 : w.cell? ⟨p.b, p.o + o + 1, none⟩ = some (.int .i32 0) := i32At_some hm hl hp
  obtain ⟨_, f0, _⟩ := storeA_one hs0 (v := .int .u32 0) rfl rfl hl hp
  obtain ⟨_, f1, hg1⟩ := storeA_one hs1 (v := .int .i32 1) rfl rfl hl hp
  have hcall := ev_callS hP hsm n _ _ _ _ _ hev ρ _ [.pointer (some ⟨pj.b, pj.o + q, none⟩)] hg1.rel ⟨_, _, rfl, ⟨pj, hpj, rfl⟩, rfl⟩
  rcases hcall with ⟨_, hcall⟩ | ⟨v, ρ', w', hrun, _⟩
  rotate_left
  · rw [run_callFunc hokf] at hrun
    cases hrun
  have main := hDo p.b (p.o + o) ⟨pj.b, pj.o + q, none⟩ w c0 c1 f0 f1
    (fun w2 => ∃ ρ2, Goes ρ s1 (w.setCell ⟨p.b, p.o + (o + 1), none⟩ (.int .i32 1)) ρ2 s2 w2)
    (hcall.mono fun e w2 he => by
      obtain ⟨v, ρ2, rfl, hr, hg⟩ := he
      obtain ⟨arr, rfl, harr⟩ := hr
      have harr : arr.toList = [] := harr
      have : arr = #[] := by
        apply Array.toList_inj.1
        rw [harr]
      subst this
      exact ⟨rfl, ρ2, hg⟩)
    (fun w2 hw2 => by
      obtain ⟨ρ2, hg⟩ := hw2
      have hp2 := hg.ext i p hp
      refine ⟨u32At_some hd2 hg.rel hp2, i32At_some hm2 hg.rel hp2, ?_, ?_⟩
      · exact (storeA_one hs3 (v := .int .u32 1) rfl rfl hg.rel hp2).2.1
      · exact (storeA_one hs5 (v := .int .i32 0) rfl rfl hg.rel hp2).2.1)
  refine .inl ⟨hok, main.mono fun e w' he => ?_⟩
  obtain ⟨rfl, w2, ⟨ρ2, hg⟩, rfl⟩ := he
  have hp2 := hg.ext i p hp
  have gd : Goes ρ2 s2 w2 ρ2 s2 w2.drew := Goes.drew hg.rel _
  obtain ⟨_, _, g3⟩ := storeA_one hs3 (v := .int .u32 1) rfl rfl gd.rel hp2
  obtain ⟨_, _, g4⟩ := storeA_one hs4 (v := .int .i32 0) rfl rfl g3.rel hp2
  exact ⟨_, ρ2, rfl, ⟨#[], rfl, rfl⟩, (((hg1.trans hg).trans gd).trans g3).trans g4⟩
end
end Go.Ev
set_option linter.unusedVariables false
set_option linter.unusedSimpArgs false
namespace Go.Ev
open Go Go.Fw

section
variable {P : Program} {w : World} {s s' : S} {ρ : Rho} {r : AV}
noncomputable def ixB (x n : Nat) : Nat → Nat → Option Nat := Nat.rec (motive := fun _ => Nat → Nat → Option Nat) (fun _ _ => none) (fun _ ih c i => bif Nat.beq (Nat.mod c 256) x then some i else ih (Nat.div c 256) (Nat.succ i)) n
noncomputable def cnB (x n : Nat) : Nat → Nat → Nat := Nat.rec (motive := fun _ => Nat → Nat → Nat) (fun _ i => i) (fun _ ih c i => ih (Nat.div c 256) (bif Nat.beq (Nat.mod c 256) x then Nat.succ i else i)) n
noncomputable def ixS (m d n : Nat) : Nat → Nat → Option Nat := Nat.rec (motive := fun _ => Nat → Nat → Option Nat) (fun _ i => bif Nat.beq m 0 then some i else none) (fun k ih c i => bif and (Nat.ble m (Nat.succ k)) (Nat.beq (Nat.mod c (Nat.pow 2 (Nat.mul 8 m))) d) then some i else ih (Nat.div c 256) (Nat.succ i)) n
def oInt : Option Nat → Int
  | some i => .ofNat i
  | none => .negSucc 0
theorem ixB_run {x : Nat} (hx : x < 256) : ∀ (n c i : Nat), oInt (ixB x n c i) = if Lib.indexByte (byL n c) (UInt8.ofNat x) = -1 then -1 else Lib.indexByte (byL n c) (UInt8.ofNat x) + i
  | 0, c, i => rfl
  | n + 1, c, i => by
    have ih := ixB_run hx n (c / 256) (i + 1)
    show oInt (bif Nat.beq (c % 256) x then some i else ixB x n (c / 256) (i + 1)) = _
    rw [byL, Lib.indexByte]
    have hb : (UInt8.ofNat (c % 256) == UInt8.ofNat x) = decide (c % 256 = x) := by
      rw [Bool.eq_iff_iff, beq_iff_eq, decide_eq_true_eq]
      constructor
      · intro h
        have := congrArg UInt8.toNat h
        rw [UInt8.toNat_ofNat', UInt8.toNat_ofNat'] at this
        omega
      · intro h; rw [h]
    have hge := Lib.indexByte_ge (byL n (c / 256)) (UInt8.ofNat x)
    rw [cbeq]
    by_cases h : c % 256 = x
    · rw [if_pos h, hb, decide_eq_true h, if_pos rfl, if_neg (by decide)]
      show ((i : Nat) : Int) = 0 + (i : Int)
      omega
    · rw [if_neg h, hb, decide_eq_false h, ih]
      simp only [Bool.false_eq_true, if_false, beq_iff_eq]
      by_cases h1 : Lib.indexByte (byL n (c / 256)) (UInt8.ofNat x) = -1
      · rw [if_pos h1, if_pos h1, if_pos rfl]
      · rw [if_neg h1, if_neg h1, if_neg (by omega)]
        push_cast
        omega
theorem cnB_run {x : Nat} (hx : x < 256) : ∀ (n c i : Nat), cnB x n c i = Lib.countByte (byL n c) (UInt8.ofNat x) + i
  | 0, c, i => by
    show i = List.count _ [] + i
    simp
  | n + 1, c, i => by
    have ih := cnB_run hx n (c / 256)
    show cnB x n (c / 256) (bif Nat.beq (c % 256) x then Nat.succ i else i) = _
    rw [ih, byL, Lib.countByte, Lib.countByte, List.count_cons]
    have hb : (UInt8.ofNat (c % 256) == UInt8.ofNat x) = decide (c % 256 = x) := by
      rw [Bool.eq_iff_iff, beq_iff_eq, decide_eq_true_eq]
      constructor
      · intro h
        have := congrArg UInt8.toNat h
        rw [UInt8.toNat_ofNat', UInt8.toNat_ofNat'] at this
        omega
      · intro h; rw [h]
    rw [cbeq, hb]
    by_cases h : c % 256 = x
    · rw [if_pos h, decide_eq_true h, if_pos rfl]; omega
    · rw [if_neg h, decide_eq_false h, if_neg (by decide)]; omega
theorem pre_byL {m d n c : Nat} (hd : d < 2 ^ (8 * m)) : (byL m d).isPrefixOf (byL n c) = and (Nat.ble m n) (Nat.beq (c % 2 ^ (8 * m)) d) := by
  rw [Bool.eq_iff_iff, List.isPrefixOf_iff_prefix, Bool.and_eq_true, beq_dec, decide_eq_true_eq]
  constructor
  · rintro ⟨t, ht⟩
    have hl : m ≤ n := by
      have := congrArg List.length ht
      rw [List.length_append, byL_len, byL_len] at this
      omega
    refine ⟨Nat.ble_eq_true_of_le hl, ?_⟩
    refine byL_inj (n := m) (Nat.mod_lt _ (Nat.pow_pos (by decide))) hd ?_
    rw [byL_mod, ← byL_take m n c hl, ← ht, List.take_left' (byL_len m d)]
  · rintro ⟨hl, he⟩
    have hl := Nat.le_of_ble_eq_true hl
    refine ⟨(byL n c).drop m, ?_⟩
    rw [← he, byL_mod, ← byL_take m n c hl, List.take_append_drop]
theorem ixS_run {m d : Nat} (hd : d < 2 ^ (8 * m)) : ∀ (n c i : Nat), oInt (ixS m d n c i) = if Lib.index (byL n c) (byL m d) = -1 then -1 else Lib.index (byL n c) (byL m d) + i
  | 0, c, i => by
    show oInt (bif Nat.beq m 0 then some i else none) = _
    rw [byL, Lib.index, cbeq]
    by_cases h : m = 0
    · subst h
      rw [if_pos rfl]
      show ((i : Nat) : Int) = if (0 : Int) = -1 then -1 else 0 + (i : Int)
      rw [if_neg (by decide)]
      omega
    · rw [if_neg h]
      have : (byL m d).isEmpty = false := by
        cases hb : (byL m d) with
        | nil => have := byL_len m d; rw [hb] at this; exact absurd this.symm h
        | cons => rfl
      rw [this]
      rfl
  | n + 1, c, i => by
    have ih := ixS_run hd n (c / 256) (i + 1)
    show oInt (bif and (Nat.ble m (Nat.succ n)) (Nat.beq (c % 2 ^ (8 * m)) d) then some i else ixS m d n (c / 256) (i + 1)) = _
    rw [← pre_byL (n := Nat.succ n) (c := c) hd]
    have hge := Lib.index_ge (byL n (c / 256)) (byL m d)
    rw [byL, Lib.index]
    cases hp : (byL m d).isPrefixOf (UInt8.ofNat (c % 256) :: byL n (c / 256)) with
    | true =>
      rw [cond_true, if_pos rfl, if_neg (by decide)]
      show ((i : Nat) : Int) = 0 + (i : Int)
      omega
    | false =>
      rw [cond_false, ih]
      simp only [Bool.false_eq_true, if_false, beq_iff_eq]
      by_cases h1 : Lib.index (byL n (c / 256)) (byL m d) = -1
      · rw [if_pos h1, if_pos h1, if_pos rfl]
      · rw [if_neg h1, if_neg h1, if_neg (by omega)]
        push_cast
        omega
/-- t: which function is of which kind; g: the block of bytealg.MaxLen. -/
noncomputable def smT (g : Nat) (t : Nat → Nat) (k : Nat) (l : List AV) (s : S) : R := match t k with
  | 1 => match l with
    | [.str n c, .int .u8 (.ofNat x)] => bif Nat.blt x 256 then some (.int .i64 (oInt (ixB x n c 0)), s) else none
    | _ => none
  | 2 => match l with
    | [.str n c, .int .u8 (.ofNat x)] => bif Nat.blt x 256 then some (.int .i64 (.ofNat (cnB x n c 0)), s) else none
    | _ => none
  | 3 => match l with
    | [.str n c, .str m d] => bif Nat.blt n 4294967281 then (s.h.get g).bind fun r => match r with
      | .cells _ _ [.val _ (.int .i64 _)] => some (.int .i64 (oInt (ixS m d n c 0)), s)
      | _ => none
      else none
    | _ => none
  | _ => none
structure TabT (P : Program) (g : Nat) (t : Nat → Nat) : Prop where
  k1 : ∀ k, t k = 1 → ExF P k Extern.BytealgIndexByte.indexByte
  k2 : ∀ k, t k = 2 → ExF P k Extern.BytealgCount.count
  k3 : ∀ k, t k = 3 → CallOk P k ∧ ∀ (s sub : ByteArray) (m : Int) (w : World), s.size < 4294967281 → w.cell? ⟨g, 0, none⟩ = some (.int .i64 m) → Calls P k #[.string s, .string sub] w fun e w' => e = .returned (.int .i64 (Lib.index s.data.toList sub.data.toList)) ∧ w' = w
  gl : g < 1000
theorem smT_ok {g : Nat} {t : Nat → Nat} (ht : TabT P g t) : CallS P (smT g t) := by
  intro k l s r s' h ρ w vs hl hv
  have u8 : ∀ x : Nat, ((x : Int)).toNat.toUInt8 = UInt8.ofNat x := fun x => rfl
  unfold smT at h
  split at h
  · rename_i hk
    obtain ⟨fn, h1, h2, h3, h4, h5⟩ := (ht.k1 k hk).ex
    split at h
    · rename_i n c x
      rw [cblt] at h
      split at h
      rotate_left
      · cases h
      rename_i hx
      injection h with h
      injection h with e1 e2
      subst e1 e2
      obtain ⟨v, vs', rfl, ⟨sb, rfl, g1, g2⟩, v2, vs2, rfl, hv2, hnil⟩ := hv
      have : vs2 = [] := hnil
      subst this
      have : v2 = _ := hv2
      subst this
      refine .inr ⟨_, ρ, w, ?_, rfl, Goes.refl hl⟩
      rw [run_callFunc_extern h1 h2 h3 h4 h5]
      have hr := Lib.run_indexByteString (P := P) sb (x : Int) w
      have hval := ixB_run hx n c 0
      rw [g1, u8 x] at hr
      have e : oInt (ixB x n c 0) = Lib.indexByte (byL n c) (UInt8.ofNat x) := by
        rw [hval]
        split
        · rename_i h; exact h.symm
        · simp
      rw [e]
      show ((Extern.BytealgIndexByte.indexByte #[.string sb, .int .u8 (x : Int)]).run P w).andThen _ = _
      rw [hr]
      rfl
    · cases h
  · rename_i hk
    obtain ⟨fn, h1, h2, h3, h4, h5⟩ := (ht.k2 k hk).ex
    split at h
    · rename_i n c x
      rw [cblt] at h
      split at h
      rotate_left
      · cases h
      rename_i hx
      injection h with h
      injection h with e1 e2
      subst e1 e2
      obtain ⟨v, vs', rfl, ⟨sb, rfl, g1, g2⟩, v2, vs2, rfl, hv2, hnil⟩ := hv
      have : vs2 = [] := hnil
      subst this
      have : v2 = _ := hv2
      subst this
      refine .inr ⟨_, ρ, w, ?_, rfl, Goes.refl hl⟩
      rw [run_callFunc_extern h1 h2 h3 h4 h5]
      have hr := Lib.run_countString (P := P) sb (x : Int) w
      have hval := cnB_run hx n c 0
      rw [g1, u8 x] at hr
      rw [hval]
      show ((Extern.BytealgCount.count #[.string sb, .int .u8 (x : Int)]).run P w).andThen _ = _
      rw [hr]
      rfl
    · cases h
  · rename_i hk
    obtain ⟨hok, hcall⟩ := ht.k3 k hk
    split at h
    · rename_i n c m d
      rw [cblt] at h
      split at h
      rotate_left
      · cases h
      rename_i hn
      simp only [Option.bind_eq_some_iff] at h
      obtain ⟨row, hrow, h⟩ := h
      split at h
      · rename_i e room tv mv
        injection h with h
        injection h with e1 e2
        subst e1 e2
        obtain ⟨v, vs', rfl, ⟨sb, rfl, g1, g2⟩, v2, vs2, rfl, ⟨sc, rfl, g3, g4⟩, hnil⟩ := hv
        have : vs2 = [] := hnil
        subst this
        obtain ⟨p, hp, hra⟩ := hl.row g _ hrow (by rintro ⟨⟩)
        obtain ⟨sz, hp2⟩ := hl.gl g ht.gl
        rw [hp] at hp2
        injection hp2 with hp2
        subst hp2
        obtain ⟨u, hu, hru, _⟩ := hra.cell (o := 0) (v := .val tv (.int .i64 mv)) rfl
        have hu2 : u = .int .i64 mv := hru.1
        subst hu2
        have hsz : sb.size < 4294967281 := by
          show sb.data.size < _
          rw [← Array.length_toList, g1, byL_len]
          exact hn
        refine .inl ⟨hok, Calls.mono (hcall sb sc mv w hsz hu) fun e w' he => ?_⟩
        obtain ⟨rfl, rfl⟩ := he
        refine ⟨_, ρ, rfl, ?_, Goes.refl hl⟩
        rw [g1, g3]
        show (_ : Value) = _
        have hval := ixS_run g4 n c 0
        have e : oInt (ixS m d n c 0) = Lib.index (byL n c) (byL m d) := by
          rw [hval]
          split
          · rename_i h; exact h.symm
          · simp
        rw [e]
      · cases h
    · cases h
  · cases h
end
end Go.Ev
set_option linter.unusedVariables false
set_option linter.unusedSimpArgs false
namespace Go.Ev
open Go Go.Fw

section
variable {P : Program} {w : World} {s s' : S} {ρ : Rho} {r : AV}
/-- Values that name no row. -/
def closA : AV → Bool
  | .bool _ => true
  | .int _ _ => true
  | .str _ _ => true
  | .slN => true
  | .bag _ _ => true
  | _ => false
def closL : List AV → Bool
  | [] => true
  | x :: l => and (closA x) (closL l)
def closR : Row → Bool
  | .cells _ _ l => closL l
  | .bytes _ _ _ _ => true
  | _ => false
theorem clos_rv {ρ' : Rho} {x : AV} (h : closA x = true) {v : Value} (hv : RV ρ x v) : RV ρ' x v := by
  cases x <;> first | exact hv | cases h
theorem closL_mem : ∀ {l : List AV}, closL l = true → ∀ x ∈ l, closA x = true
  | [], _, x, hx => by cases hx
  | y :: l, h, x, hx => by
    rw [closL, Bool.and_eq_true] at h
    rcases List.mem_cons.1 hx with rfl | hx
    · exact h.1
    · exact closL_mem h.2 x hx
theorem clos_rvs {ρ' : Rho} : ∀ {l : List AV}, closL l = true → ∀ {vs : List Value}, RVs ρ l vs → RVs ρ' l vs
  | [], _, vs, h => h
  | x :: l, hc, vs, ⟨v, us, e, h1, h2⟩ => by
    rw [closL, Bool.and_eq_true] at hc
    exact ⟨v, us, e, clos_rv hc.1 h1, clos_rvs hc.2 h2⟩
theorem clos_row {ρ' : Rho} {x : Row} (h : closR x = true) {p : Pl} (hr : RowAt ρ w p x) : RowAt ρ' w p x := by
  cases x with
  | cells e room l =>
    obtain ⟨arr, et, fr, h1, h2, h3, h4, h5, h6⟩ := hr
    refine ⟨arr, et, fr, h1, h2, h3, h4, h5, fun k v hv => ?_⟩
    obtain ⟨g1, u, g2, g3⟩ := h6 k v hv
    exact ⟨g1, u, g2, clos_rv (closL_mem h v (List.mem_of_getElem? hv)) g3⟩
  | bytes e room n c => exact hr
  | _ => cases h
def eqBool (a b : Bool) : Bool := bif a then b else not b
theorem eqBool_eq {a b : Bool} (h : eqBool a b = true) : a = b := by cases a <;> cases b <;> first | rfl | cases h
def eqRow (a b : Row) : Bool := match a, b with
  | .cells e m l, .cells e' m' l' => and (Nat.beq e e') (and (eqBool m m') (eqAL l l'))
  | .bytes e m n c, .bytes e' m' n' c' => and (Nat.beq e e') (and (eqBool m m') (and (Nat.beq n n') (Nat.beq c c')))
  | _, _ => false
theorem eqRow_eq {a b : Row} (h : eqRow a b = true) : a = b := by
  unfold eqRow at h
  split at h
  · simp only [Bool.and_eq_true] at h
    rw [Nat.eq_of_beq_eq_true h.1, eqBool_eq h.2.1, eqAL_eq h.2.2]
  · simp only [Bool.and_eq_true] at h
    rw [Nat.eq_of_beq_eq_true h.1, eqBool_eq h.2.1, Nat.eq_of_beq_eq_true h.2.2.1, Nat.eq_of_beq_eq_true h.2.2.2]
  · cases h
noncomputable def rowIs (s : S) (g : Nat) (r : Row) : Bool := match s.h.get g with
  | some r' => eqRow r r'
  | none => false
theorem rowIs_eq {g : Nat} {x : Row} (h : rowIs s g x = true) : s.h.get g = some x := by
  unfold rowIs at h
  split at h
  · rename_i r' hr
    rw [hr, eqRow_eq h]
  · cases h
noncomputable def okG (s : S) : List (Nat × Row) → Bool
  | [] => true
  | x :: l => and (rowIs s x.1 x.2) (okG s l)
theorem okG_mem {gs : List (Nat × Row)} (h : okG s gs = true) : ∀ x ∈ gs, s.h.get x.1 = some x.2 := by
  induction gs with
  | nil => intro x hx; cases hx
  | cons y l ih =>
    rw [okG, Bool.and_eq_true] at h
    intro x hx
    rcases List.mem_cons.1 hx with rfl | hx
    · exact rowIs_eq h.1
    · exact ih h.2 x hx
noncomputable def setG : List (Nat × Row) → T Row
  | [] => T.full 13
  | x :: l => (setG l).set x.1 x.2
theorem setG_get : ∀ {gs : List (Nat × Row)} {i : Nat} {r : Row}, (setG gs).get i = some r → (i, r) ∈ gs
  | [], i, r, h => by rw [setG, T.get_full] at h; cases h
  | x :: l, i, r, h => by
    rw [setG] at h
    rcases T.get_set h with ⟨rfl, rfl⟩ | ⟨_, h⟩
    · exact List.mem_cons_self
    · exact List.mem_cons_of_mem _ (setG_get h)
def okL : List (Nat × Row) → Bool
  | [] => true
  | x :: l => and (Nat.blt x.1 1000) (and (closR x.2) (okL l))
theorem okL_mem {gs : List (Nat × Row)} (h : okL gs = true) : ∀ x ∈ gs, x.1 < 1000 ∧ closR x.2 = true := by
  induction gs with
  | nil => intro x hx; cases hx
  | cons y l ih =>
    rw [okL, Bool.and_eq_true, Bool.and_eq_true, blt_dec, decide_eq_true_eq] at h
    intro x hx
    rcases List.mem_cons.1 hx with rfl | hx
    · exact ⟨h.1, h.2.1⟩
    · exact ih h.2.2 x hx
theorem okG_set {gs : List (Nat × Row)} (h : okG s gs = true) {i : Nat} {r : Row} (hi : (setG gs).get i = some r) : s.h.get i = some r := okG_mem h _ (setG_get hi)
/-! ### Calls without memory -/
structure En where
  k : Nat
  l : List AV
  r : AV
/-- What such a call returns. -/
def KnownC (P : Program) (gs : List (Nat × Row)) (e : En) : Prop := closL e.l = true ∧ closA e.r = true ∧ ∀ ρ w vs, Rel ρ ⟨setG gs, 1000⟩ w → RVs ρ e.l vs → CallOk P e.k ∧ Calls P e.k vs.toArray w (fun x w' => ∃ v ρ', x = .returned v ∧ RV ρ' e.r v ∧ Ext w w')
noncomputable def retE (r : R) (x : AV) : Bool := match r with
  | some (v, _) => eqA1 v x
  | none => false
theorem known_ev (hP : PrOk P) {sm : Nat → List AV → S → R} (hsm : CallS P sm) {n : Nat} {gs : List (Nat × Row)} (hgs : okL gs = true) {e : En} (hc : and (closL e.l) (closA e.r) = true) (hok : CallOk P e.k) (h : retE (ev P sm n e.k e.l ⟨setG gs, 1000⟩) e.r = true) : KnownC P gs e := by
  rw [Bool.and_eq_true] at hc
  refine ⟨hc.1, hc.2, fun ρ w vs hR hv => ⟨hok, ?_⟩⟩
  unfold retE at h
  split at h
  · rename_i v s' hs
    have hve := eqA1_eq h
    subst hve
    rcases ev_callS hP hsm n _ _ _ _ s' hs ρ w vs hR hv with ⟨_, g⟩ | ⟨v, ρ', w', g, _⟩
    · refine Calls.mono g fun x w' hx => ?_
      obtain ⟨v, ρ', rfl, hr, G⟩ := hx
      exact ⟨v, ρ', rfl, hr, G.toExt hR fun i r hi => (okL_mem hgs _ (setG_get hi)).1⟩
    · rw [run_callFunc hok] at g
      cases g
  · cases h
def findC : List En → Nat → List AV → Option AV
  | [], _, _ => none
  | e :: l, k, a => bif and (Nat.beq e.k k) (eqAL e.l a) then some e.r else findC l k a
theorem findC_mem : ∀ {tab : List En} {k : Nat} {a : List AV} {r : AV}, findC tab k a = some r → ∃ e ∈ tab, e.k = k ∧ e.l = a ∧ e.r = r
  | [], _, _, _, h => by cases h
  | e :: l, k, a, r, h => by
    rw [findC] at h
    cases hc : and (Nat.beq e.k k) (eqAL e.l a) with
    | true =>
      rw [hc] at h
      injection h with h
      rw [Bool.and_eq_true] at hc
      exact ⟨e, List.mem_cons_self, Nat.eq_of_beq_eq_true hc.1, eqAL_eq hc.2, h⟩
    | false =>
      rw [hc] at h
      obtain ⟨e', h1, h2⟩ := findC_mem h
      exact ⟨e', List.mem_cons_of_mem _ h1, h2⟩
noncomputable def smC (gs : List (Nat × Row)) (tab : List En) (k : Nat) (l : List AV) (s : S) : R := (findC tab k l).bind fun r => bif okG s gs then some (r, s) else none
/-- Package variables alone. -/
def Rho.low (ρ : Rho) : Rho := fun i => if i < 1000 then ρ i else none
theorem rel_low {gs : List (Nat × Row)} (hgs : okL gs = true) (hg : okG s gs = true) (hl : Rel ρ s w) : Rel ρ.low ⟨setG gs, 1000⟩ w := by
  have lo : ∀ i, i < 1000 → ρ.low i = ρ i := fun i hi => if_pos hi
  have hin : ∀ i r, (setG gs).get i = some r → i < 1000 ∧ closR r = true ∧ s.h.get i = some r := fun i r hi => ⟨(okL_mem hgs _ (setG_get hi)).1, (okL_mem hgs _ (setG_get hi)).2, okG_set hg hi⟩
  refine ⟨fun i r hi hd => ?_, fun i j r q p p' hi hdi hj hdj hp hp' hb => ?_, fun i p hp => ?_, fun g hg' => ?_, Nat.le_refl _⟩
  · obtain ⟨h1, h2, h3⟩ := hin i r hi
    obtain ⟨p, hp, hra⟩ := hl.row i r h3 hd
    exact ⟨p, by rw [lo i h1]; exact hp, clos_row h2 hra⟩
  · obtain ⟨h1, _, h3⟩ := hin i r hi
    obtain ⟨g1, _, g3⟩ := hin j q hj
    rw [lo i h1] at hp
    rw [lo j g1] at hp'
    exact hl.inj i j r q p p' h3 hdi g3 hdj hp hp' hb
  · have hi : i < 1000 := by
      apply Nat.lt_of_not_le
      intro hle
      have : ρ.low i = none := if_neg (by omega)
      rw [this] at hp
      cases hp
    exact ⟨hi, fun h => by omega⟩
  · obtain ⟨sz, h⟩ := hl.gl g hg'
    exact ⟨sz, by rw [lo g hg']; exact h⟩
theorem smC_ok {gs : List (Nat × Row)} (hgs : okL gs = true) {tab : List En} (ht : ∀ e ∈ tab, KnownC P gs e) : CallS P (smC gs tab) := by
  intro k l s r s' h ρ w vs hl hv
  simp only [smC, Option.bind_eq_some_iff] at h
  obtain ⟨x, hx, h⟩ := h
  cases hg : okG s gs with
  | false => rw [hg] at h; cases h
  | true =>
    rw [hg] at h
    injection h with h
    injection h with e1 e2
    subst e1 e2
    obtain ⟨e, he, rfl, rfl, rfl⟩ := findC_mem hx
    obtain ⟨c1, c2, c3⟩ := ht e he
    obtain ⟨g1, g2⟩ := c3 ρ.low w vs (rel_low hgs hg hl) (clos_rvs c1 hv)
    refine .inl ⟨g1, Calls.mono g2 fun y w' hy => ?_⟩
    obtain ⟨v, ρ', rfl, hr, hE⟩ := hy
    exact ⟨v, ρ, rfl, clos_rv c2 hr, Goes.ofExt hl hE⟩
/-! ### Calls that look at one row -/
structure EnS where
  k : Nat
  row : Row
  o : Nat
  n : Nat
  c : Cap
  r : AV
noncomputable def sLoc (gs : List (Nat × Row)) (x : Row) : S := ⟨(setG gs).set 1000 x, 1001⟩
noncomputable def retS (r : R) (x : AV) (row : Row) : Bool := match r with
  | some (v, s) => and (eqA1 v x) (rowIs s 1000 row)
  | none => false
/-- What such a call returns: memory that was there is as it was. -/
def KnownS (P : Program) (gs : List (Nat × Row)) (e : EnS) : Prop := closA e.r = true ∧ closR e.row = true ∧ ∀ ρ w vs, Rel ρ (sLoc gs e.row) w → RVs ρ [.sl 1000 e.o e.n e.c] vs → CallOk P e.k ∧ Calls P e.k vs.toArray w (fun x w' => ∃ v ρ' s', x = .returned v ∧ RV ρ' e.r v ∧ s'.h.get 1000 = some e.row ∧ Goes ρ (sLoc gs e.row) w ρ' s' w')
theorem knownS_ev (hP : PrOk P) {sm : Nat → List AV → S → R} (hsm : CallS P sm) {n : Nat} {gs : List (Nat × Row)} {e : EnS} (hc : and (closA e.r) (closR e.row) = true) (hok : CallOk P e.k) (h : retS (ev P sm n e.k [.sl 1000 e.o e.n e.c] (sLoc gs e.row)) e.r e.row = true) : KnownS P gs e := by
  rw [Bool.and_eq_true] at hc
  refine ⟨hc.1, hc.2, fun ρ w vs hR hv => ⟨hok, ?_⟩⟩
  unfold retS at h
  split at h
  · rename_i v s' hs
    rw [Bool.and_eq_true] at h
    have hve := eqA1_eq h.1
    subst hve
    rcases ev_callS hP hsm n _ _ _ _ s' hs ρ w vs hR hv with ⟨_, g⟩ | ⟨v, ρ', w', g, _⟩
    · refine Calls.mono g fun x w' hx => ?_
      obtain ⟨v, ρ', rfl, hr, G⟩ := hx
      exact ⟨v, ρ', s', rfl, hr, rowIs_eq h.2, G⟩
    · rw [run_callFunc hok] at g
      cases g
  · cases h
def findS : List EnS → Nat → Nat → Nat → Cap → Row → Option AV
  | [], _, _, _, _, _ => none
  | e :: l, k, o, n, c, x => bif and (Nat.beq e.k k) (and (Nat.beq e.o o) (and (Nat.beq e.n n) (and (eqCap e.c c) (eqRow e.row x)))) then some e.r else findS l k o n c x
theorem findS_mem : ∀ {tab : List EnS} {k o n : Nat} {c : Cap} {x : Row} {r : AV}, findS tab k o n c x = some r → ∃ e ∈ tab, e.k = k ∧ e.o = o ∧ e.n = n ∧ e.c = c ∧ e.row = x ∧ e.r = r
  | [], _, _, _, _, _, _, h => by cases h
  | e :: l, k, o, n, c, x, r, h => by
    rw [findS] at h
    cases hc : and (Nat.beq e.k k) (and (Nat.beq e.o o) (and (Nat.beq e.n n) (and (eqCap e.c c) (eqRow e.row x)))) with
    | true =>
      rw [hc] at h
      injection h with h
      simp only [Bool.and_eq_true] at hc
      exact ⟨e, List.mem_cons_self, Nat.eq_of_beq_eq_true hc.1, Nat.eq_of_beq_eq_true hc.2.1, Nat.eq_of_beq_eq_true hc.2.2.1, eqCap_eq hc.2.2.2.1, eqRow_eq hc.2.2.2.2, h⟩
    | false =>
      rw [hc] at h
      obtain ⟨e', h1, h2⟩ := findS_mem h
      exact ⟨e', List.mem_cons_of_mem _ h1, h2⟩
noncomputable def smS (gs : List (Nat × Row)) (tab : List EnS) (k : Nat) (l : List AV) (s : S) : R := match l with
  | [.sl i o n c] => bif Nat.blt i 1000 then none else (s.h.get i).bind fun x => (findS tab k o n c x).bind fun r => bif okG s gs then some (r, s) else none
  | _ => none
/-- Package variables, and one row more. -/
def Rho.one (ρ : Rho) (i : Nat) : Rho := fun j => if j < 1000 then ρ j else if j = 1000 then ρ i else none
theorem smS_ok {gs : List (Nat × Row)} (hgs : okL gs = true) {tab : List EnS} (ht : ∀ e ∈ tab, KnownS P gs e) : CallS P (smS gs tab) := by
  intro k l s r s' h ρ w vs hl hv
  unfold smS at h
  split at h
  rotate_left
  · cases h
  rename_i i o n c
  rw [cblt] at h
  split at h
  · cases h
  rename_i h1000
  simp only [Option.bind_eq_some_iff] at h
  obtain ⟨x, hx, y, hy, h⟩ := h
  cases hg : okG s gs with
  | false => rw [hg] at h; cases h
  | true =>
  rw [hg] at h
  injection h with h
  injection h with e1 e2
  subst e1 e2
  obtain ⟨e, he, rfl, rfl, rfl, rfl, rfl, rfl⟩ := findS_mem hy
  obtain ⟨c1, c2, c3⟩ := ht e he
  have hdead : e.row ≠ .dead := by intro hd; rw [hd] at c2; cases c2
  obtain ⟨p, hp, hra⟩ := hl.row i e.row hx hdead
  have lo : ∀ j, j < 1000 → ρ.one i j = ρ j := fun j hj => if_pos hj
  have l1 : ρ.one i 1000 = some p := by
    show (if 1000 < 1000 then ρ 1000 else if 1000 = 1000 then ρ i else none) = some p
    rw [if_neg (by omega), if_pos rfl]
    exact hp
  have hin : ∀ j q, (sLoc gs e.row).h.get j = some q → (j = 1000 ∧ q = e.row) ∨ (j < 1000 ∧ closR q = true ∧ s.h.get j = some q) := fun j q hj => by
    have hj : ((setG gs).set 1000 e.row).get j = some q := hj
    rcases T.get_set hj with ⟨h1, h2⟩ | ⟨_, hj⟩
    · exact .inl ⟨h1, h2⟩
    · exact .inr ⟨(okL_mem hgs _ (setG_get hj)).1, (okL_mem hgs _ (setG_get hj)).2, okG_set hg hj⟩
  have hR : Rel (ρ.one i) (sLoc gs e.row) w := by
    refine ⟨fun j q hj hd => ?_, fun j m q t p1 p2 hj hdj hm hdm hp1 hp2 hb => ?_, fun j q hq => ?_, fun g hg' => ?_, by show 1000 ≤ 1001; omega⟩
    · rcases hin j q hj with ⟨rfl, rfl⟩ | ⟨h1, h2, h3⟩
      · exact ⟨p, l1, clos_row c2 hra⟩
      · obtain ⟨p2, hp2, hra2⟩ := hl.row j q h3 hd
        exact ⟨p2, by rw [lo j h1]; exact hp2, clos_row h2 hra2⟩
    · rcases hin j q hj with ⟨rfl, rfl⟩ | ⟨h1, h2, h3⟩ <;> rcases hin m t hm with ⟨rfl, rfl⟩ | ⟨g1, g2, g3⟩
      · rfl
      · rw [l1] at hp1
        injection hp1 with hp1
        subst hp1
        rw [lo m g1] at hp2
        have := hl.inj i m _ _ _ _ hx hdead g3 hdm hp hp2 hb
        omega
      · rw [l1] at hp2
        injection hp2 with hp2
        subst hp2
        rw [lo j h1] at hp1
        have := hl.inj j i _ _ _ _ h3 hdj hx hdead hp1 hp hb
        omega
      · rw [lo j h1] at hp1
        rw [lo m g1] at hp2
        exact hl.inj j m _ _ _ _ h3 hdj g3 hdm hp1 hp2 hb
    · show j < 1001 ∧ _
      by_cases hj : j < 1000
      · exact ⟨by omega, fun h => by omega⟩
      · by_cases hj2 : j = 1000
        · subst hj2
          rw [l1] at hq
          injection hq with hq
          subst hq
          exact ⟨by omega, fun _ => (hl.nx i p hp).2 (by omega)⟩
        · have : ρ.one i j = none := by
            show (if j < 1000 then ρ j else if j = 1000 then ρ i else none) = none
            rw [if_neg hj, if_neg hj2]
          rw [this] at hq
          cases hq
    · obtain ⟨sz, h⟩ := hl.gl g hg'
      exact ⟨sz, by rw [lo g hg']; exact h⟩
  have hv' : RVs (ρ.one i) [.sl 1000 e.o e.n e.c] vs := by
    obtain ⟨v, us, rfl, h1, h2⟩ := hv
    refine ⟨v, us, rfl, ?_, h2⟩
    cases hcap : e.c with
    | k q =>
      rw [hcap] at h1
      obtain ⟨p2, h3, h4⟩ := h1
      rw [hp] at h3
      injection h3 with h3
      subst h3
      exact ⟨p, l1, h4⟩
    | u z =>
      rw [hcap] at h1
      obtain ⟨p2, A, q, h3, h4⟩ := h1
      rw [hp] at h3
      injection h3 with h3
      subst h3
      exact ⟨p, A, q, l1, h4⟩
  obtain ⟨g1, g2⟩ := c3 (ρ.one i) w vs hR hv'
  refine .inl ⟨g1, Calls.mono g2 fun y w' hy => ?_⟩
  obtain ⟨v, ρ', s', rfl, hr, hrow, G⟩ := hy
  refine ⟨v, ρ, rfl, clos_rv c1 hr, ?_⟩
  have hne : ∀ b, b < w.heap.size → b ≠ p.b → (∀ g, g < 1000 → (∀ q, s.h.get g = some q → q = .dead) ∨ g ≠ b) → w'.heap[b]? = w.heap[b]? := fun b hb h1 h2 => by
    refine G.keep b hb fun ho => ?_
    obtain ⟨j, q, p2, hj, hd, hp2, hb2⟩ := ho
    rcases hin j q hj with ⟨rfl, rfl⟩ | ⟨k1, k2, k3⟩
    · rw [l1] at hp2
      injection hp2 with hp2
      subst hp2
      exact h1 hb2.symm
    · obtain ⟨sz, hsz⟩ := hl.gl j k1
      rw [lo j k1, hsz] at hp2
      injection hp2 with hp2
      subst hp2
      rcases h2 j k1 with h2 | h2
      · exact hd (h2 q k3)
      · exact h2 hb2
  -- blocks of the package variables stay too
  have hgl : ∀ b, b < w.heap.size → b ≠ p.b → w'.heap[b]? = w.heap[b]? := fun b hb h1 => by
    by_cases ho : Own (ρ.one i) (sLoc gs e.row) b
    · obtain ⟨j, q, p2, hj, hd, hp2, hb2⟩ := ho
      rcases hin j q hj with ⟨rfl, rfl⟩ | ⟨k1, k2, k3⟩
      · rw [l1] at hp2
        injection hp2 with hp2
        subst hp2
        exact absurd hb2.symm h1
      · obtain ⟨sz, hsz⟩ := hl.gl j k1
        rw [lo j k1, hsz] at hp2
        injection hp2 with hp2
        subst hp2
        have := G.gk j q k1 hj hd
        rw [← hb2]
        exact this
    · exact G.keep b hb ho
  have hrow' : RowAt ρ w' p e.row := by
    obtain ⟨p2, hp2, hra2⟩ := G.rel.row 1000 e.row hrow hdead
    rw [G.ext 1000 p l1] at hp2
    injection hp2 with hp2
    subst hp2
    exact clos_row c2 hra2
  have hrel : Rel ρ s w' := by
    refine ⟨fun j q hj hd => ?_, hl.inj, fun j q hq => ⟨(hl.nx j q hq).1, fun h => Nat.lt_of_lt_of_le ((hl.nx j q hq).2 h) G.size⟩, hl.gl, hl.lo⟩
    obtain ⟨p2, hp2, hra2⟩ := hl.row j q hj hd
    by_cases hb : p2.b = p.b
    · have := hl.inj j i _ _ _ _ hj hd hx hdead hp2 hp hb
      subst this
      rw [hx] at hj
      injection hj with hj
      subst hj
      exact ⟨p, hp, hrow'⟩
    · exact ⟨p2, hp2, hra2.keep (fun _ _ h => h) (hgl p2.b hra2.lt hb)⟩
  refine ⟨fun _ _ h => h, Nat.le_refl _, G.size, G.os, G.tape, G.output, fun b _ h => h, fun b hb ho => hgl b hb fun h => ho ⟨i, e.row, p, hx, hdead, hp, h.symm⟩, hrel, fun _ _ h => .inl h, fun _ _ => rfl, fun g q hg' hq hd => ?_⟩
  have hlt := hl.glt hg' hq hd
  refine hgl g hlt fun hb => ?_
  obtain ⟨sz, hsz⟩ := hl.gl g hg'
  have := hl.inj g i _ _ _ _ hq hd hx hdead hsz hp hb
  omega
end
end Go.Ev
set_option linter.unusedVariables false
set_option linter.unusedSimpArgs false
namespace Go.Ev
open Go Go.Fw Go.RowKit Go.ChangeShapes Go.WideShapes

theorem table_int {H : Type} {enc : TypeId × Value → H} {P : Program} {w : World} {base : Nat} {spare : Nat → Bool} {held : Bool} {fuel : Nat} {t e : TypeId} {k : IntKind} {n : Nat} {cs : List Value} {l : List Int} {p : List MemPlace} (ht : P.underlying t = some (.array n e)) (he : P.underlying e = some (.int k)) (hc : P.cellsOf e = 1) (hl : l.length = n)
    (h : DataW.trod enc P w base spare held fuel t cs = some (.agg (l.map fun x => .lit (.int k x)), p)) : ∀ (i : Nat) (x : Int), l[i]? = some x → cs[i]? = some (.int k x) := by
  intro i x hx
  have hi : i < n := by rw [← hl]; exact (List.getElem?_eq_some_iff.1 hx).1
  obtain ⟨xs, m, _, hxs, _, hn, hel⟩ := DataW.trod_array ht h
  simp only [Prod.mk.injEq, DataW.agg.injEq] at hxs
  have hi' := hel i hi
  rw [hc, Nat.mul_one, List.getElem?_eq_getElem (by omega)] at hi'
  obtain ⟨q, e1, e2, _⟩ := DataW.trod_int he hi'
  have hd : (l.map fun x => (DataW.lit (.int k x) : DataW H))[i]? = some (xs[i].1) := by rw [hxs.1, List.getElem?_map, List.getElem?_eq_getElem (by omega)]; rfl
  rw [List.getElem?_map, hx] at hd
  simp only [Option.map_some, Option.some.injEq] at hd
  rw [e2] at hd
  injection hd with hd
  injection hd with _ hd
  have h1 : ((cs.drop i).take 1)[0]? = some (.int k q) := by rw [e1]; rfl
  rw [List.getElem?_take, if_pos (by omega), List.getElem?_drop, Nat.add_zero] at h1
  rw [h1, hd]
theorem laid_mem {P : Program} {w : World} : ∀ {laid : List (String × DataW Unit)} {ps : List MemPlace}, DataW.LaidVars P w laid ps → ∀ {n : String} {d : DataW Unit}, (n, d) ∈ laid →
    ∃ g t cs fuel p, P.globalNamed n = some g ∧ (P.globals[g]?).map (·.type) = some t ∧ w.var? P n = some cs ∧ DataW.trod (fun _ => ()) P w 0 (fun _ => true) false fuel t cs.toList = some (d, p) ∧ ∀ x ∈ MemPlace.row ⟨g, 0, none⟩ cs.size, x ∈ ps
  | [], ps, _, n, d, hm => by cases hm
  | (n', d') :: r, ps, h, n, d, hm => by
    obtain ⟨g, t, cs, fuel, p, q, h1, h2, h3, h4, h5, rfl⟩ := h
    rcases List.mem_cons.1 hm with e | hm
    · injection e with e1 e2
      subst e1 e2
      exact ⟨g, t, cs, fuel, p, h1, h2, h3, h4, fun x hx => List.mem_append.2 (.inl (List.mem_append.2 (.inl hx)))⟩
    · obtain ⟨g, t, cs, fuel, p, k1, k2, k3, k4, k5⟩ := laid_mem h5 hm
      exact ⟨g, t, cs, fuel, p, k1, k2, k3, k4, fun x hx => List.mem_append.2 (.inr (k5 x hx))⟩
theorem mem_row0 {g n : Nat} (hn : 0 < n) : MemPlace.cell g 0 ∈ MemPlace.row ⟨g, 0, none⟩ n := by
  unfold MemPlace.row
  first
    | exact List.mem_map.2 ⟨0, List.mem_range.2 hn, rfl⟩
    | (simp; exact ⟨0, hn, rfl⟩)
/-- A listed table in memory. -/
theorem laid_table {P : Program} {W : World} {laid : List (String × DataW Unit)} (hm : laidMet P laid W) {n : String} {k : IntKind} {l : List Int} (hmem : (n, .agg (l.map fun x => .lit (.int k x))) ∈ laid) {g t e m : Nat} (hg : P.globalNamed n = some g) (ht : (P.globals[g]?).map (·.type) = some t) (hu : P.underlying t = some (.array m e)) (he : P.underlying e = some (.int k)) (hc : P.cellsOf e = 1) (hl : l.length = m) (h0 : 0 < m) :
    ∃ c t', W.heap[g]? = some (.cells c t' (0, 0)) ∧ l.length ≤ c.size ∧ ∀ (i : Nat) (x : Int), l[i]? = some x → c[i]? = some (.int k x) := by
  obtain ⟨ps, h1, _, h3⟩ := hm
  obtain ⟨g', t', cs, fuel, p, k1, k2, k3, k4, k5⟩ := laid_mem h1 hmem
  obtain rfl := Option.some.inj (hg.symm.trans k1)
  obtain rfl := Option.some.inj (ht.symm.trans k2)
  have hv := table_int hu he hc hl k4
  obtain ⟨x0, hx0⟩ : ∃ x, l[0]? = some x := ⟨_, List.getElem?_eq_getElem (by omega)⟩
  have hpos : 0 < cs.size := by
    have := (List.getElem?_eq_some_iff.1 (hv 0 x0 hx0)).1
    simpa using this
  obtain ⟨⟨c, u, hb⟩, _⟩ := h3 g 0 (k5 _ (mem_row0 hpos))
  have ec : c = cs := by
    unfold World.var? at k3
    rw [hg, Option.bind_some, hb] at k3
    injection k3
  subst ec
  refine ⟨c, u, hb, ?_, fun i x hx => ?_⟩
  · apply Nat.le_of_not_lt
    intro hlt
    have := hv c.size _ (List.getElem?_eq_getElem hlt)
    rw [Array.getElem?_toList, Array.getElem?_eq_none (Nat.le_refl _)] at this
    cases this
  · have := hv i x hx
    rwa [Array.getElem?_toList] at this
def rowI (k : IntKind) (l : List Int) : Row := .cells 0 true (l.map fun x => .int k x)
theorem rowI_at {ρ : Rho} {w : World} {g : Nat} {k : IntKind} {l : List Int} {c : Array Value} {t : TypeId} (hb : w.heap[g]? = some (.cells c t (0, 0))) (hl : l.length ≤ c.size) (h : ∀ (i : Nat) (x : Int), l[i]? = some x → c[i]? = some (.int k x)) : RowAt ρ w ⟨g, 0, c.size⟩ (rowI k l) := by
  refine ⟨c, t, (0, 0), hb, rfl, .inl rfl, by rw [List.length_map]; show 0 + l.length ≤ c.size; omega, (fun h => by cases h), fun j v hv => ?_⟩
  rw [List.getElem?_map] at hv
  obtain ⟨x, hx, rfl⟩ := Option.map_eq_some_iff.1 hv
  exact ⟨rfl, _, by rw [Nat.zero_add]; exact h j x hx, rfl⟩
/-- Bytes as whole numbers. -/
def byI (n c : Nat) : List Int := (byL n c).map fun x => (x.toNat : Int)
theorem byI_len (n c : Nat) : (byI n c).length = n := by rw [byI, List.length_map, byL_len]
theorem rowB_at {ρ : Rho} {w : World} {g n : Nat} {q : Nat} (hq : q < 2 ^ (8 * n)) {c : Array Value} {t : TypeId} (hb : w.heap[g]? = some (.cells c t (0, 0))) (hl : (byI n q).length ≤ c.size) (h : ∀ (i : Nat) (x : Int), (byI n q)[i]? = some x → c[i]? = some (.int .u8 x)) : RowAt ρ w ⟨g, 0, c.size⟩ (.bytes 0 true n q) := by
  rw [byI_len] at hl
  refine ⟨hq, c, t, (0, 0), hb, rfl, ⟨.inl rfl, .inl rfl⟩, by show 0 + n ≤ c.size; omega, (fun h => by cases h), fun j x hx => ?_⟩
  rw [Nat.zero_add]
  exact h j _ (by rw [byI, List.getElem?_map, hx]; rfl)
theorem rowV_at {ρ : Rho} {w : World} {g : Nat} {v : Value} {c : Array Value} {t : TypeId} (hb : w.heap[g]? = some (.cells c t (0, 0))) (hc : c[0]? = some v) (h1 : v.oneCell' = true) (h2 : v.cells = #[v]) (i : Nat) : RowAt ρ w ⟨g, 0, c.size⟩ (.cells 0 true [.val i v]) := by
  have hsz : 0 < c.size := (Array.getElem?_eq_some_iff.1 hc).1
  refine ⟨c, t, (0, 0), hb, rfl, .inl rfl, by show 0 + 1 ≤ c.size; omega, (fun h => by cases h), fun j u hu => ?_⟩
  match j, hu with
  | 0, hu =>
    injection hu with hu
    subst hu
    exact ⟨rfl, v, by rw [Nat.zero_add]; exact hc, rfl, h1, h2⟩
  | j + 1, hu => simp at hu
end Go.Ev
