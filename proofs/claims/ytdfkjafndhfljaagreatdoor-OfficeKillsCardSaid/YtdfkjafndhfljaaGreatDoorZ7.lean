/- What is proved: what is known of functions without code that the model has by itself: abi.NoEscape, marks of package race, sync/atomic's. And what follows from it: a summary of sync.Once.Do, not yet done and its lock free, whose function the evaluator runs. summaries of searches in strings: bytealg's IndexByteString and CountString, stringslite's Index. a call whose outcome the evaluator has told once, from few rows of memory, may be told wherever these rows are as they were. a table of whole numbers that a row lists lies in memory as the evaluator has it. a call without memory in, whose outcome and whose rows the evaluator has told once, may be told again anywhere, its rows under new numbers; and a state of the evaluator may be written down and gone on from. -/
import Derived.Test.YtdfkjafndhfljaaGreatDoorZ6
import Derived.Laws.LoneSync
import Derived.Lib.Bytealg
import Derived.Lib.Index
import Derived.Test.YtdfkjafndhfljaaGreatDoorZ1
set_option linter.unusedVariables false
set_option linter.unusedSimpArgs false
namespace Go.Ev
open Go Go.Fw

section
variable {P : Program} {w : World} {s s' : S} {ρ : Rho} {r : AV}
structure ExF (P : Program) (k : Nat) (g : Array Value → Sem Value) : Prop where
  ex : ∃ fn, P.funcs[k]? = some fn ∧ (fn.name == "runtime.NumGoroutine") = false ∧ fn.body.isNone = true ∧ Extern.findNext fn = none ∧ Extern.find fn = some g
noncomputable def u32At (s : S) (i o : Nat) : Option Int := (s.h.get i).bind fun r => (readCell r o).bind fun v => match v with
  | .int .u32 n => some n
  | _ => none
noncomputable def i32At (s : S) (i o : Nat) : Option Int := (s.h.get i).bind fun r => (readCell r o).bind fun v => match v with
  | .int .i32 n => some n
  | _ => none
/-- Calls of them; t: which function is of which kind. -/
noncomputable def smX (t : Nat → Nat) (k : Nat) (l : List AV) (s : S) : R := match t k with
  | 1 => match l with
    | [x] => some (x, s)
    | _ => none
  | 2 => match l with
    | [] => some (.tup [], s)
    | _ => none
  | 3 => match l with
    | [.ptr _ _] => some (.tup [], s)
    | _ => none
  | 4 => match l with
    | [.ptr i o] => (u32At s i o).bind fun n => some (.int .u32 n, s)
    | _ => none
  | 5 => match l with
    | [.ptr i o, .int k y] => (storeA s i o (.int k y)).bind fun s => some (.tup [], s)
    | _ => none
  | 6 => match l with
    | [.ptr i o, .int .i32 x, .int .i32 y] => (i32At s i o).bind fun n => bif iEq n x then (storeA s i o (.int .i32 y)).bind fun s => some (.bool true, s) else none
    | _ => none
  | 7 => match l with
    | [.ptr i o, .int .i32 y] => (i32At s i o).bind fun n => match wr .i32 (Int.add n y) with
      | .int .i32 z => (storeA s i o (.int .i32 z)).bind fun s => some (.int .i32 z, s)
      | _ => none
    | _ => none
  | _ => none
structure TabOk (P : Program) (t : Nat → Nat) : Prop where
  k1 : ∀ k, t k = 1 → ExF P k Extern.AbiNoEscape.same
  k2 : ∀ k, t k = 2 → ∃ m, ExF P k (fun _ => do mark m; pure Extern.Race.none_)
  k3 : ∀ k, t k = 3 → ∃ m, ExF P k (Extern.Race.marked m)
  k4 : ∀ k, t k = 4 → ExF P k (Extern.Atomic.loadT (.int .u32))
  k5 : ∀ k, t k = 5 → ExF P k Extern.Atomic.storeT
  k6 : ∀ k, t k = 6 → ExF P k (Extern.Atomic.casT (.int .i32))
  k7 : ∀ k, t k = 7 → ExF P k (Extern.Atomic.update (Op.intArith .add) .i32 true)
theorem storeA_one {i o : Nat} {x : AV} {s2 : S} (h : storeA s i o x = some s2) {v : Value} (hv : RV ρ x v) (ho : v.cells = #[v]) (hl : Rel ρ s w) {p : Pl} (hp : ρ i = some p) :
    (∃ u, w.cell? ⟨p.b, p.o + o, none⟩ = some u) ∧ w.frozen? ⟨p.b, p.o + o, none⟩ = false ∧ Goes ρ s w ρ s2 (w.setCell ⟨p.b, p.o + o, none⟩ v) := by
  have hg := (storeA_goes (P := default) h hv hl hp).2
  unfold storeA at h
  rw [cblt] at h
  split at h
  · cases h
  simp only [Option.bind_eq_some_iff, Option.some.injEq] at h
  obtain ⟨row, hrow, row', hrow', rfl⟩ := h
  have hnd : row ≠ .dead := by rintro rfl; cases hrow'
  obtain ⟨p', hp', hra⟩ := hl.row i row hrow hnd
  rw [hp] at hp'
  injection hp' with hp'
  subst hp'
  obtain ⟨h1, h2, h3, h4, h5⟩ := writeRow_at hrow' hv hra
  rw [ho] at h4 h5 hg
  have c0 := h4 0 (by simp)
  have f0 := h5 0 (by simp)
  rw [Nat.add_zero] at c0 f0
  exact ⟨Option.isSome_iff_exists.1 c0, f0, hg⟩
theorem intAt {i o : Nat} {row : Row} {x : AV} (hrow : s.h.get i = some row) (hv : readCell row o = some x) (hl : Rel ρ s w) {p : Pl} (hp : ρ i = some p) : ∃ u, w.cell? ⟨p.b, p.o + o, none⟩ = some u ∧ RV ρ x u := by
  have hnd : row ≠ .dead := by rintro rfl; cases hv
  obtain ⟨p', hp', hra⟩ := hl.row i row hrow hnd
  rw [hp] at hp'
  injection hp' with hp'
  subst hp'
  obtain ⟨u, hu, hr, _⟩ := hra.cell hv
  exact ⟨u, hu, hr⟩
theorem i32At_some {i o : Nat} {n : Int} (h : i32At s i o = some n) (hl : Rel ρ s w) {p : Pl} (hp : ρ i = some p) : w.cell? ⟨p.b, p.o + o, none⟩ = some (.int .i32 n) := by
  simp only [i32At, Option.bind_eq_some_iff] at h
  obtain ⟨row, hrow, x, hx, h⟩ := h
  obtain ⟨u, hu, hr⟩ := intAt hrow hx hl hp
  split at h
  · injection h with h
    subst h
    rw [hu, show u = _ from hr]
  · cases h
theorem u32At_some {i o : Nat} {n : Int} (h : u32At s i o = some n) (hl : Rel ρ s w) {p : Pl} (hp : ρ i = some p) : w.cell? ⟨p.b, p.o + o, none⟩ = some (.int .u32 n) := by
  simp only [u32At, Option.bind_eq_some_iff] at h
  obtain ⟨row, hrow, x, hx, h⟩ := h
  obtain ⟨u, hu, hr⟩ := intAt hrow hx hl hp
  split at h
  · injection h with h
    subst h
    rw [hu, show u = _ from hr]
  · cases h
theorem smX_ok {t : Nat → Nat} (ht : TabOk P t) : CallS P (smX t) := by
  intro k l s r s' h ρ w vs hl hv
  have none_rv : RV ρ (.tup []) (.tuple #[]) := ⟨#[], rfl, rfl⟩
  unfold smX at h
  split at h
  · rename_i hk
    obtain ⟨fn, h1, h2, h3, h4, h5⟩ := (ht.k1 k hk).ex
    split at h
    · injection h with h
      injection h with e1 e2
      subst e1 e2
      obtain ⟨v, vs', rfl, hr, hn⟩ := hv
      have : vs' = [] := hn
      subst this
      refine .inr ⟨v, ρ, w, ?_, hr, Goes.refl hl⟩
      rw [run_callFunc_extern h1 h2 h3 h4 h5]
      rfl
    · cases h
  · rename_i hk
    obtain ⟨m, ⟨fn, h1, h2, h3, h4, h5⟩⟩ := ht.k2 k hk
    split at h
    · injection h with h
      injection h with e1 e2
      subst e1 e2
      have : vs = [] := hv
      subst this
      exact .inr ⟨_, ρ, w, run_call_mark0 h1 h2 h3 h4 m h5 w, none_rv, Goes.refl hl⟩
    · cases h
  · rename_i hk
    obtain ⟨m, ⟨fn, h1, h2, h3, h4, h5⟩⟩ := ht.k3 k hk
    split at h
    · injection h with h
      injection h with e1 e2
      subst e1 e2
      obtain ⟨v, vs', rfl, ⟨p, hp, rfl⟩, hn⟩ := hv
      have : vs' = [] := hn
      subst this
      exact .inr ⟨_, ρ, w, run_call_marked h1 h2 h3 h4 m h5 _ w, none_rv, Goes.refl hl⟩
    · cases h
  · rename_i hk
    obtain ⟨fn, h1, h2, h3, h4, h5⟩ := (ht.k4 k hk).ex
    split at h
    · simp only [Option.bind_eq_some_iff, Option.some.injEq, Prod.mk.injEq] at h
      obtain ⟨n, hn, rfl, rfl⟩ := h
      obtain ⟨v, vs', rfl, ⟨p, hp, rfl⟩, hnil⟩ := hv
      have : vs' = [] := hnil
      subst this
      exact .inr ⟨_, ρ, w, run_call_load h1 h2 h3 h4 .u32 h5 (u32At_some hn hl hp), rfl, Goes.refl hl⟩
    · cases h
  · rename_i hk
    obtain ⟨fn, h1, h2, h3, h4, h5⟩ := (ht.k5 k hk).ex
    split at h
    · simp only [Option.bind_eq_some_iff, Option.some.injEq, Prod.mk.injEq] at h
      obtain ⟨s2, hs, rfl, rfl⟩ := h
      obtain ⟨v, vs', rfl, ⟨p, hp, rfl⟩, v2, vs2, rfl, hv2, hnil⟩ := hv
      have : vs2 = [] := hnil
      subst this
      have : v2 = _ := hv2
      subst this
      obtain ⟨⟨u, hu⟩, hf, hg⟩ := storeA_one hs hv2 rfl hl hp
      exact .inr ⟨_, ρ, _, run_call_store h1 h2 h3 h4 h5 hu hf, none_rv, hg⟩
    · cases h
  · rename_i hk
    obtain ⟨fn, h1, h2, h3, h4, h5⟩ := (ht.k6 k hk).ex
    split at h
    · simp only [Option.bind_eq_some_iff] at h
      obtain ⟨n, hn, h⟩ := h
      obtain ⟨v, vs', rfl, ⟨p, hp, rfl⟩, v2, vs2, rfl, hv2, v3, vs3, rfl, hv3, hnil⟩ := hv
      have : vs3 = [] := hnil
      subst this
      have : v2 = _ := hv2
      subst this
      have : v3 = _ := hv3
      subst this
      rename_i i o x y
      cases hq : iEq n x with
      | false => rw [hq] at h; cases h
      | true =>
        rw [hq] at h
        simp only [cond_true, Option.bind_eq_some_iff, Option.some.injEq, Prod.mk.injEq] at h
        obtain ⟨s2, hs, rfl, rfl⟩ := h
        rw [iEq_dec, decide_eq_true_eq] at hq
        subst hq
        obtain ⟨_, hf, hg⟩ := storeA_one hs hv3 rfl hl hp
        exact .inr ⟨_, ρ, _, run_call_cas_hit h1 h2 h3 h4 .i32 h5 (i32At_some hn hl hp) hf, rfl, hg⟩
    · cases h
  · rename_i hk
    obtain ⟨fn, h1, h2, h3, h4, h5⟩ := (ht.k7 k hk).ex
    split at h
    · simp only [Option.bind_eq_some_iff] at h
      obtain ⟨n, hn, h⟩ := h
      obtain ⟨v, vs', rfl, ⟨p, hp, rfl⟩, v2, vs2, rfl, hv2, hnil⟩ := hv
      have : vs2 = [] := hnil
      subst this
      have : v2 = _ := hv2
      subst this
      split at h
      · rename_i z hz
        simp only [Option.bind_eq_some_iff, Option.some.injEq, Prod.mk.injEq] at h
        obtain ⟨s2, hs, rfl, rfl⟩ := h
        rename_i i o y v0
        have hw := wr_rv (ρ := ρ) (k := .i32) (n := Int.add n y)
        rw [hz] at hw
        have hw : (Value.int .i32 (IntKind.i32.wrap (Int.add n y))) = .int .i32 z := hw
        injection hw with _ hw
        have hvz : RV ρ (.int .i32 z) (.int .i32 z) := rfl
        obtain ⟨_, hf, hg⟩ := storeA_one hs hvz rfl hl hp
        refine .inr ⟨_, ρ, _, run_call_add h1 h2 h3 h4 .i32 h5 (i32At_some hn hl hp) hf (y := y) (s := z) ?_, rfl, hg⟩
        rw [← hw]
        rfl
      · cases h
    · cases h
  · cases h
/-- One summary, else another. -/
def smOr (a b : Nat → List AV → S → R) (k : Nat) (l : List AV) (s : S) : R := match a k l s with
  | some r => some r
  | none => b k l s
theorem smOr_ok {a b : Nat → List AV → S → R} (ha : CallS P a) (hb : CallS P b) : CallS P (smOr a b) := by
  intro k l s r s' h ρ w vs hl hv
  unfold smOr at h
  split at h
  · rename_i q hq
    injection h with h
    subst h
    exact ha k l s _ _ hq ρ w vs hl hv
  · exact hb k l s _ _ h ρ w vs hl hv
end
end Go.Ev
set_option linter.unusedVariables false
set_option linter.unusedSimpArgs false
namespace Go.Ev
open Go Go.Fw

section
variable {P : Program}
noncomputable def smDo (P : Program) (fDo kf : Nat) (sm : Nat → List AV → S → R) (n : Nat) (k : Nat) (l : List AV) (s : S) : R := bif Nat.beq k fDo then (match l with
  | [.ptr i o, .fn g [.ptr j q] []] => bif Nat.beq g kf then
      (u32At s i o).bind fun d => (i32At s i (Nat.succ o)).bind fun m => bif and (iEq d 0) (iEq m 0) then
        (storeA s i o (.int .u32 0)).bind fun _ => (storeA s i (Nat.succ o) (.int .i32 1)).bind fun s1 => (ev P sm n kf [.ptr j q] s1).bind fun x => match x with
        | (.tup [], s2) => (u32At s2 i o).bind fun d => (i32At s2 i (Nat.succ o)).bind fun m => bif and (iEq d 0) (iEq m 1) then
            (storeA s2 i (Nat.succ o) (.int .i32 0)).bind fun _ => (storeA s2 i o (.int .u32 1)).bind fun s3 => (storeA s3 i (Nat.succ o) (.int .i32 0)).bind fun s4 => some (.tup [], s4)
          else none
        | _ => none
      else none
    else none
  | _ => none) else none
/-- What is known of Do. -/
def DoS (P : Program) (fDo kf : Nat) : Prop := ∀ (b off : Nat) (rp : Addr) (w : World), w.cell? ⟨b, off, none⟩ = some (.int .u32 0) → w.cell? ⟨b, off + 1, none⟩ = some (.int .i32 0) → w.frozen? ⟨b, off, none⟩ = false → w.frozen? ⟨b, off + 1, none⟩ = false → ∀ R : World → Prop,
  (Calls P kf #[.pointer (some rp)] (w.setCell ⟨b, off + 1, none⟩ (.int .i32 1)) fun e w2 => e = .returned (.tuple #[]) ∧ R w2) →
  (∀ w2, R w2 → w2.cell? ⟨b, off, none⟩ = some (.int .u32 0) ∧ w2.cell? ⟨b, off + 1, none⟩ = some (.int .i32 1) ∧ w2.frozen? ⟨b, off, none⟩ = false ∧ w2.frozen? ⟨b, off + 1, none⟩ = false) →
  Calls P fDo #[.pointer (some ⟨b, off, none⟩), .func (.func kf) #[.pointer (some rp)] #[]] w fun e w' => e = .returned (.tuple #[]) ∧ ∃ w2, R w2 ∧ w' = (w2.drew.setCell ⟨b, off, none⟩ (.int .u32 1)).setCell ⟨b, off + 1, none⟩ (.int .i32 0)
theorem smDo_ok (hP : PrOk P) {sm : Nat → List AV → S → R} (hsm : CallS P sm) {fDo kf : Nat} (hDo : DoS P fDo kf) (hok : CallOk P fDo) (hokf : CallOk P kf) (n : Nat) : CallS P (smDo P fDo kf sm n) := by
  intro k l s r s' h ρ w vs hl hv
  unfold smDo at h
  rw [cbeq] at h
  split at h
  rotate_left
  · cases h
  rename_i hk
  subst hk
  split at h
  rotate_left
  · cases h
  rename_i i o g j q
  rw [cbeq] at h
  split at h
  rotate_left
  · cases h
  rename_i hg
  subst hg
  simp only [Option.bind_eq_some_iff] at h
  obtain ⟨d, hd, m, hm, h⟩ := h
  cases hz : and (iEq d 0) (iEq m 0) with
  | false => rw [hz] at h; cases h
  | true =>
  rw [hz] at h
  simp only [Bool.and_eq_true, iEq_dec, decide_eq_true_eq] at hz
  obtain ⟨rfl, rfl⟩ := hz
  simp only [cond_true, Option.bind_eq_some_iff] at h
  obtain ⟨s0, hs0, s1, hs1, ⟨x, s2⟩, hev, h⟩ := h
  split at h
  rotate_left
  · cases h
  rename_i x' s2' hxe
  injection hxe with hx1 hx2
  subst hx1 hx2
  simp only [Option.bind_eq_some_iff] at h
  obtain ⟨d2, hd2, m2, hm2, h⟩ := h
  cases hz : and (iEq d2 0) (iEq m2 1) with
  | false => rw [hz] at h; cases h
  | true =>
  rw [hz] at h
  simp only [Bool.and_eq_true, iEq_dec, decide_eq_true_eq] at hz
  obtain ⟨rfl, rfl⟩ := hz
  simp only [cond_true, Option.bind_eq_some_iff, Option.some.injEq, Prod.mk.injEq] at h
  obtain ⟨s5, hs5, s3, hs3, s4, hs4, rfl, rfl⟩ := h
  obtain ⟨v1, vs1, rfl, ⟨p, hp, rfl⟩, v2, vs2, rfl, hv2, hnil⟩ := hv
  have : vs2 = [] := hnil
  subst this
  obtain ⟨f', c', rfl, hf', hc'⟩ := hv2
  obtain ⟨u, us, hu, ⟨pj, hpj, rfl⟩, hus⟩ := hf'
  have hf'e : f' = #[.pointer (some ⟨pj.b, pj.o + q, none⟩)] := by
    apply Array.toList_inj.1
    rw [hu, show us = [] from hus]
  have hc'e : c' = #[] := by
    apply Array.toList_inj.1
    rw [show c'.toList = [] from hc']
  subst hf'e hc'e
  have c0 := u32At_some hd hl hp
  have c1 : w.cell? ⟨p.b, p.o + o + 1, none⟩ = some (.int .i32 0) := i32At_some hm hl hp
  obtain ⟨_, f0, _⟩ := storeA_one hs0 (v := .int .u32 0) rfl rfl hl hp
  obtain ⟨_, f1, hg1⟩ := storeA_one hs1 (v := .int .i32 1) rfl rfl hl hp
  have hcall := ev_callS hP hsm n _ _ _ _ _ hev ρ _ [.pointer (some ⟨pj.b, pj.o + q, none⟩)] hg1.rel ⟨_, _, rfl, ⟨pj, hpj, rfl⟩, rfl⟩
  rcases hcall with ⟨_, hcall⟩ | ⟨v, ρ', w', hrun, _⟩
  rotate_left
  · rw [run_callFunc hokf] at hrun
    cases hrun
  have main := hDo p.b (p.o + o) ⟨pj.b, pj.o + q, none⟩ w c0 c1 f0 f1
    (fun w2 => ∃ ρ2, Goes ρ s1 (w.setCell ⟨p.b, p.o + (o + 1), none⟩ (.int .i32 1)) ρ2 s2 w2)
    (hcall.mono fun e w2 he => by
      obtain ⟨v, ρ2, rfl, hr, hg⟩ := he
      obtain ⟨arr, rfl, harr⟩ := hr
      have harr : arr.toList = [] := harr
      have : arr = #[] := by
        apply Array.toList_inj.1
        rw [harr]
      subst this
      exact ⟨rfl, ρ2, hg⟩)
    (fun w2 hw2 => by
      obtain ⟨ρ2, hg⟩ := hw2
      have hp2 := hg.ext i p hp
      refine ⟨u32At_some hd2 hg.rel hp2, i32At_some hm2 hg.rel hp2, ?_, ?_⟩
      · exact (storeA_one hs3 (v := .int .u32 1) rfl rfl hg.rel hp2).2.1
      · exact (storeA_one hs5 (v := .int .i32 0) rfl rfl hg.rel hp2).2.1)
  refine .inl ⟨hok, main.mono fun e w' he => ?_⟩
  obtain ⟨rfl, w2, ⟨ρ2, hg⟩, rfl⟩ := he
  have hp2 := hg.ext i p hp
  have gd : Goes ρ2 s2 w2 ρ2 s2 w2.drew := Goes.drew hg.rel _
  obtain ⟨_, _, g3⟩ := storeA_one hs3 (v := .int .u32 1) rfl rfl gd.rel hp2
  obtain ⟨_, _, g4⟩ := storeA_one hs4 (v := .int .i32 0) rfl rfl g3.rel hp2
  exact ⟨_, ρ2, rfl, ⟨#[], rfl, rfl⟩, (((hg1.trans hg).trans gd).trans g3).trans g4⟩
end
end Go.Ev
set_option linter.unusedVariables false
set_option linter.unusedSimpArgs false
namespace Go.Ev
open Go Go.Fw

section
variable {P : Program} {w : World} {s s' : S} {ρ : Rho} {r : AV}
noncomputable def ixB (x n : Nat) : Nat → Nat → Option Nat := Nat.rec (motive := fun _ => Nat → Nat → Option Nat) (fun _ _ => none) (fun _ ih c i => bif Nat.beq (Nat.mod c 256) x then some i else ih (Nat.div c 256) (Nat.succ i)) n
noncomputable def cnB (x n : Nat) : Nat → Nat → Nat := Nat.rec (motive := fun _ => Nat → Nat → Nat) (fun _ i => i) (fun _ ih c i => ih (Nat.div c 256) (bif Nat.beq (Nat.mod c 256) x then Nat.succ i else i)) n
noncomputable def ixS (m d n : Nat) : Nat → Nat → Option Nat := Nat.rec (motive := fun _ => Nat → Nat → Option Nat) (fun _ i => bif Nat.beq m 0 then some i else none) (fun k ih c i => bif and (Nat.ble m (Nat.succ k)) (Nat.beq (Nat.mod c (Nat.pow 2 (Nat.mul 8 m))) d) then some i else ih (Nat.div c 256) (Nat.succ i)) n
def oInt : Option Nat → Int
  | some i => .ofNat i
  | none => .negSucc 0
theorem ixB_run {x : Nat} (hx : x < 256) : ∀ (n c i : Nat), oInt (ixB x n c i) = if Lib.indexByte (byL n c) (UInt8.ofNat x) = -1 then -1 else Lib.indexByte (byL n c) (UInt8.ofNat x) + i
  | 0, c, i => rfl
  | n + 1, c, i => by
    have ih := ixB_run hx n (c / 256) (i + 1)
    show oInt (bif Nat.beq (c % 256) x then some i else ixB x n (c / 256) (i + 1)) = _
    rw [byL, Lib.indexByte]
    have hb : (UInt8.ofNat (c % 256) == UInt8.ofNat x) = decide (c % 256 = x) := by
      rw [Bool.eq_iff_iff, beq_iff_eq, decide_eq_true_eq]
      constructor
      · intro h
        have := congrArg UInt8.toNat h
        rw [UInt8.toNat_ofNat', UInt8.toNat_ofNat'] at this
        omega
      · intro h; rw [h]
    have hge := Lib.indexByte_ge (byL n (c / 256)) (UInt8.ofNat x)
    rw [cbeq]
    by_cases h : c % 256 = x
    · rw [if_pos h, hb, decide_eq_true h, if_pos rfl, if_neg (by decide)]
      show ((i : Nat) : Int) = 0 + (i : Int)
      omega
    · rw [if_neg h, hb, decide_eq_false h, ih]
      simp only [Bool.false_eq_true, if_false, beq_iff_eq]
      by_cases h1 : Lib.indexByte (byL n (c / 256)) (UInt8.ofNat x) = -1
      · rw [if_pos h1, if_pos h1, if_pos rfl]
      · rw [if_neg h1, if_neg h1, if_neg (by omega)]
        push_cast
        omega
theorem cnB_run {x : Nat} (hx : x < 256) : ∀ (n c i : Nat), cnB x n c i = Lib.countByte (byL n c) (UInt8.ofNat x) + i
  | 0, c, i => by
    show i = List.count _ [] + i
    simp
  | n + 1, c, i => by
    have ih := cnB_run hx n (c / 256)
    show cnB x n (c / 256) (bif Nat.beq (c % 256) x then Nat.succ i else i) = _
    rw [ih, byL, Lib.countByte, Lib.countByte, List.count_cons]
    have hb : (UInt8.ofNat (c % 256) == UInt8.ofNat x) = decide (c % 256 = x) := by
      rw [Bool.eq_iff_iff, beq_iff_eq, decide_eq_true_eq]
      constructor
      · intro h
        have := congrArg UInt8.toNat h
        rw [UInt8.toNat_ofNat', UInt8.toNat_ofNat'] at this
        omega
      · intro h; rw [h]
    rw [cbeq, hb]
    by_cases h : c % 256 = x
    · rw [if_pos h, decide_eq_true h, if_pos rfl]; omega
    · rw [if_neg h, decide_eq_false h, if_neg (by decide)]; omega
theorem pre_byL {m d n c : Nat} (hd : d < 2 ^ (8 * m)) : (byL m d).isPrefixOf (byL n c) = and (Nat.ble m n) (Nat.beq (c % 2 ^ (8 * m)) d) := by
  rw [Bool.eq_iff_iff, List.isPrefixOf_iff_prefix, Bool.and_eq_true, beq_dec, decide_eq_true_eq]
  constructor
  · rintro ⟨t, ht⟩
    have hl : m ≤ n := by
      have := congrArg List.length ht
      rw [List.length_append, byL_len, byL_len] at this
      omega
    refine ⟨Nat.ble_eq_true_of_le hl, ?_⟩
    refine byL_inj (n := m) (Nat.mod_lt _ (Nat.pow_pos (by decide))) hd ?_
    rw [byL_mod, ← byL_take m n c hl, ← ht, List.take_left' (byL_len m d)]
  · rintro ⟨hl, he⟩
    have hl := Nat.le_of_ble_eq_true hl
    refine ⟨(byL n c).drop m, ?_⟩
    rw [← he, byL_mod, ← byL_take m n c hl, List.take_append_drop]
theorem ixS_run {m d : Nat} (hd : d < 2 ^ (8 * m)) : ∀ (n c i : Nat), oInt (ixS m d n c i) = if Lib.index (byL n c) (byL m d) = -1 then -1 else Lib.index (byL n c) (byL m d) + i
  | 0, c, i => by
    show oInt (bif Nat.beq m 0 then some i else none) = _
    rw [byL, Lib.index, cbeq]
    by_cases h : m = 0
    · subst h
      rw [if_pos rfl]
      show ((i : Nat) : Int) = if (0 : Int) = -1 then -1 else 0 + (i : Int)
      rw [if_neg (by decide)]
      omega
    · rw [if_neg h]
      have : (byL m d).isEmpty = false := by
        cases hb : (byL m d) with
        | nil => have := byL_len m d; rw [hb] at this; exact absurd this.symm h
        | cons => rfl
      rw [this]
      rfl
  | n + 1, c, i => by
    have ih := ixS_run hd n (c / 256) (i + 1)
    show oInt (bif and (Nat.ble m (Nat.succ n)) (Nat.beq (c % 2 ^ (8 * m)) d) then some i else ixS m d n (c / 256) (i + 1)) = _
    rw [← pre_byL (n := Nat.succ n) (c := c) hd]
    have hge := Lib.index_ge (byL n (c / 256)) (byL m d)
    rw [byL, Lib.index]
    cases hp : (byL m d).isPrefixOf (UInt8.ofNat (c % 256) :: byL n (c / 256)) with
    | true =>
      rw [cond_true, if_pos rfl, if_neg (by decide)]
      show ((i : Nat) : Int) = 0 + (i : Int)
      omega
    | false =>
      rw [cond_false, ih]
      simp only [Bool.false_eq_true, if_false, beq_iff_eq]
      by_cases h1 : Lib.index (byL n (c / 256)) (byL m d) = -1
      · rw [if_pos h1, if_pos h1, if_pos rfl]
      · rw [if_neg h1, if_neg h1, if_neg (by omega)]
        push_cast
        omega
/-- t: which function is of which kind; g: the block of bytealg.MaxLen. -/
noncomputable def smT (g : Nat) (t : Nat → Nat) (k : Nat) (l : List AV) (s : S) : R := match t k with
  | 1 => match l with
    | [.str n c, .int .u8 (.ofNat x)] => bif Nat.blt x 256 then some (.int .i64 (oInt (ixB x n c 0)), s) else none
    | _ => none
  | 2 => match l with
    | [.str n c, .int .u8 (.ofNat x)] => bif Nat.blt x 256 then some (.int .i64 (.ofNat (cnB x n c 0)), s) else none
    | _ => none
  | 3 => match l with
    | [.str n c, .str m d] => bif Nat.blt n 4294967281 then (s.h.get g).bind fun r => match r with
      | .cells _ _ [.val _ (.int .i64 _)] => some (.int .i64 (oInt (ixS m d n c 0)), s)
      | _ => none
      else none
    | _ => none
  | _ => none
structure TabT (P : Program) (g : Nat) (t : Nat → Nat) : Prop where
  k1 : ∀ k, t k = 1 → ExF P k Extern.BytealgIndexByte.indexByte
  k2 : ∀ k, t k = 2 → ExF P k Extern.BytealgCount.count
  k3 : ∀ k, t k = 3 → CallOk P k ∧ ∀ (s sub : ByteArray) (m : Int) (w : World), s.size < 4294967281 → w.cell? ⟨g, 0, none⟩ = some (.int .i64 m) → Calls P k #[.string s, .string sub] w fun e w' => e = .returned (.int .i64 (Lib.index s.data.toList sub.data.toList)) ∧ w' = w
  gl : g < 1000
theorem smT_ok {g : Nat} {t : Nat → Nat} (ht : TabT P g t) : CallS P (smT g t) := by
  intro k l s r s' h ρ w vs hl hv
  have u8 : ∀ x : Nat, ((x : Int)).toNat.toUInt8 = UInt8.ofNat x := fun x => rfl
  unfold smT at h
  split at h
  · rename_i hk
    obtain ⟨fn, h1, h2, h3, h4, h5⟩ := (ht.k1 k hk).ex
    split at h
    · rename_i n c x
      rw [cblt] at h
      split at h
      rotate_left
      · cases h
      rename_i hx
      injection h with h
      injection h with e1 e2
      subst e1 e2
      obtain ⟨v, vs', rfl, ⟨sb, rfl, g1, g2⟩, v2, vs2, rfl, hv2, hnil⟩ := hv
      have : vs2 = [] := hnil
      subst this
      have : v2 = _ := hv2
      subst this
      refine .inr ⟨_, ρ, w, ?_, rfl, Goes.refl hl⟩
      rw [run_callFunc_extern h1 h2 h3 h4 h5]
      have hr := Lib.run_indexByteString (P := P) sb (x : Int) w
      have hval := ixB_run hx n c 0
      rw [g1, u8 x] at hr
      have e : oInt (ixB x n c 0) = Lib.indexByte (byL n c) (UInt8.ofNat x) := by
        rw [hval]
        split
        · rename_i h; exact h.symm
        · simp
      rw [e]
      show ((Extern.BytealgIndexByte.indexByte #[.string sb, .int .u8 (x : Int)]).run P w).andThen _ = _
      rw [hr]
      rfl
    · cases h
  · rename_i hk
    obtain ⟨fn, h1, h2, h3, h4, h5⟩ := (ht.k2 k hk).ex
    split at h
    · rename_i n c x
      rw [cblt] at h
      split at h
      rotate_left
      · cases h
      rename_i hx
      injection h with h
      injection h with e1 e2
      subst e1 e2
      obtain ⟨v, vs', rfl, ⟨sb, rfl, g1, g2⟩, v2, vs2, rfl, hv2, hnil⟩ := hv
      have : vs2 = [] := hnil
      subst this
      have : v2 = _ := hv2
      subst this
      refine .inr ⟨_, ρ, w, ?_, rfl, Goes.refl hl⟩
      rw [run_callFunc_extern h1 h2 h3 h4 h5]
      have hr := Lib.run_countString (P := P) sb (x : Int) w
      have hval := cnB_run hx n c 0
      rw [g1, u8 x] at hr
      rw [hval]
      show ((Extern.BytealgCount.count #[.string sb, .int .u8 (x : Int)]).run P w).andThen _ = _
      rw [hr]
      rfl
    · cases h
  · rename_i hk
    obtain ⟨hok, hcall⟩ := ht.k3 k hk
    split at h
    · rename_i n c m d
      rw [cblt] at h
      split at h
      rotate_left
      · cases h
      rename_i hn
      simp only [Option.bind_eq_some_iff] at h
      obtain ⟨row, hrow, h⟩ := h
      split at h
      · rename_i e room tv mv
        injection h with h
        injection h with e1 e2
        subst e1 e2
        obtain ⟨v, vs', rfl, ⟨sb, rfl, g1, g2⟩, v2, vs2, rfl, ⟨sc, rfl, g3, g4⟩, hnil⟩ := hv
        have : vs2 = [] := hnil
        subst this
        obtain ⟨p, hp, hra⟩ := hl.row g _ hrow (by rintro ⟨⟩)
        obtain ⟨sz, hp2⟩ := hl.gl g ht.gl
        rw [hp] at hp2
        injection hp2 with hp2
        subst hp2
        obtain ⟨u, hu, hru, _⟩ := hra.cell (o := 0) (v := .val tv (.int .i64 mv)) rfl
        have hu2 : u = .int .i64 mv := hru.1
        subst hu2
        have hsz : sb.size < 4294967281 := by
          show sb.data.size < _
          rw [← Array.length_toList, g1, byL_len]
          exact hn
        refine .inl ⟨hok, Calls.mono (hcall sb sc mv w hsz hu) fun e w' he => ?_⟩
        obtain ⟨rfl, rfl⟩ := he
        refine ⟨_, ρ, rfl, ?_, Goes.refl hl⟩
        rw [g1, g3]
        show (_ : Value) = _
        have hval := ixS_run g4 n c 0
        have e : oInt (ixS m d n c 0) = Lib.index (byL n c) (byL m d) := by
          rw [hval]
          split
          · rename_i h; exact h.symm
          · simp
        rw [e]
      · cases h
    · cases h
  · cases h
end
end Go.Ev
set_option linter.unusedVariables false
set_option linter.unusedSimpArgs false
namespace Go.Ev
open Go Go.Fw

section
variable {P : Program} {w : World} {s s' : S} {ρ : Rho} {r : AV}
/-- Values that name no row. -/
def closA : AV → Bool
  | .bool _ => true
  | .int _ _ => true
  | .str _ _ => true
  | .slN => true
  | .bag _ _ => true
  | _ => false
def closL : List AV → Bool
  | [] => true
  | x :: l => and (closA x) (closL l)
def closR : Row → Bool
  | .cells _ _ l => closL l
  | .bytes _ _ _ _ => true
  | _ => false
theorem clos_rv {ρ' : Rho} {x : AV} (h : closA x = true) {v : Value} (hv : RV ρ x v) : RV ρ' x v := by
  cases x <;> first | exact hv | cases h
theorem closL_mem : ∀ {l : List AV}, closL l = true → ∀ x ∈ l, closA x = true
  | [], _, x, hx => by cases hx
  | y :: l, h, x, hx => by
    rw [closL, Bool.and_eq_true] at h
    rcases List.mem_cons.1 hx with rfl | hx
    · exact h.1
    · exact closL_mem h.2 x hx
theorem clos_rvs {ρ' : Rho} : ∀ {l : List AV}, closL l = true → ∀ {vs : List Value}, RVs ρ l vs → RVs ρ' l vs
  | [], _, vs, h => h
  | x :: l, hc, vs, ⟨v, us, e, h1, h2⟩ => by
    rw [closL, Bool.and_eq_true] at hc
    exact ⟨v, us, e, clos_rv hc.1 h1, clos_rvs hc.2 h2⟩
theorem clos_row {ρ' : Rho} {x : Row} (h : closR x = true) {p : Pl} (hr : RowAt ρ w p x) : RowAt ρ' w p x := by
  cases x with
  | cells e room l =>
    obtain ⟨arr, et, fr, h1, h2, h3, h4, h5, h6⟩ := hr
    refine ⟨arr, et, fr, h1, h2, h3, h4, h5, fun k v hv => ?_⟩
    obtain ⟨g1, u, g2, g3⟩ := h6 k v hv
    exact ⟨g1, u, g2, clos_rv (closL_mem h v (List.mem_of_getElem? hv)) g3⟩
  | bytes e room n c => exact hr
  | _ => cases h
def eqBool (a b : Bool) : Bool := bif a then b else not b
theorem eqBool_eq {a b : Bool} (h : eqBool a b = true) : a = b := by cases a <;> cases b <;> first | rfl | cases h
def eqRow (a b : Row) : Bool := match a, b with
  | .cells e m l, .cells e' m' l' => and (Nat.beq e e') (and (eqBool m m') (eqAL l l'))
  | .bytes e m n c, .bytes e' m' n' c' => and (Nat.beq e e') (and (eqBool m m') (and (Nat.beq n n') (Nat.beq c c')))
  | _, _ => false
theorem eqRow_eq {a b : Row} (h : eqRow a b = true) : a = b := by
  unfold eqRow at h
  split at h
  · simp only [Bool.and_eq_true] at h
    rw [Nat.eq_of_beq_eq_true h.1, eqBool_eq h.2.1, eqAL_eq h.2.2]
  · simp only [Bool.and_eq_true] at h
    rw [Nat.eq_of_beq_eq_true h.1, eqBool_eq h.2.1, Nat.eq_of_beq_eq_true h.2.2.1, Nat.eq_of_beq_eq_true h.2.2.2]
  · cases h
noncomputable def rowIs (s : S) (g : Nat) (r : Row) : Bool := match s.h.get g with
  | some r' => eqRow r r'
  | none => false
theorem rowIs_eq {g : Nat} {x : Row} (h : rowIs s g x = true) : s.h.get g = some x := by
  unfold rowIs at h
  split at h
  · rename_i r' hr
    rw [hr, eqRow_eq h]
  · cases h
noncomputable def okG (s : S) : List (Nat × Row) → Bool
  | [] => true
  | x :: l => and (rowIs s x.1 x.2) (okG s l)
theorem okG_mem {gs : List (Nat × Row)} (h : okG s gs = true) : ∀ x ∈ gs, s.h.get x.1 = some x.2 := by
  induction gs with
  | nil => intro x hx; cases hx
  | cons y l ih =>
    rw [okG, Bool.and_eq_true] at h
    intro x hx
    rcases List.mem_cons.1 hx with rfl | hx
    · exact rowIs_eq h.1
    · exact ih h.2 x hx
noncomputable def setG : List (Nat × Row) → T Row
  | [] => T.full 13
  | x :: l => (setG l).set x.1 x.2
theorem setG_get : ∀ {gs : List (Nat × Row)} {i : Nat} {r : Row}, (setG gs).get i = some r → (i, r) ∈ gs
  | [], i, r, h => by rw [setG, T.get_full] at h; cases h
  | x :: l, i, r, h => by
    rw [setG] at h
    rcases T.get_set h with ⟨rfl, rfl⟩ | ⟨_, h⟩
    · exact List.mem_cons_self
    · exact List.mem_cons_of_mem _ (setG_get h)
def okL : List (Nat × Row) → Bool
  | [] => true
  | x :: l => and (Nat.blt x.1 1000) (and (closR x.2) (okL l))
theorem okL_mem {gs : List (Nat × Row)} (h : okL gs = true) : ∀ x ∈ gs, x.1 < 1000 ∧ closR x.2 = true := by
  induction gs with
  | nil => intro x hx; cases hx
  | cons y l ih =>
    rw [okL, Bool.and_eq_true, Bool.and_eq_true, blt_dec, decide_eq_true_eq] at h
    intro x hx
    rcases List.mem_cons.1 hx with rfl | hx
    · exact ⟨h.1, h.2.1⟩
    · exact ih h.2.2 x hx
theorem okG_set {gs : List (Nat × Row)} (h : okG s gs = true) {i : Nat} {r : Row} (hi : (setG gs).get i = some r) : s.h.get i = some r := okG_mem h _ (setG_get hi)
/-! ### Calls without memory -/
structure En where
  k : Nat
  l : List AV
  r : AV
/-- What such a call returns. -/
def KnownC (P : Program) (gs : List (Nat × Row)) (e : En) : Prop := closL e.l = true ∧ closA e.r = true ∧ ∀ ρ w vs, Rel ρ ⟨setG gs, 1000⟩ w → RVs ρ e.l vs → CallOk P e.k ∧ Calls P e.k vs.toArray w (fun x w' => ∃ v ρ', x = .returned v ∧ RV ρ' e.r v ∧ Ext w w')
noncomputable def retE (r : R) (x : AV) : Bool := match r with
  | some (v, _) => eqA1 v x
  | none => false
theorem known_ev (hP : PrOk P) {sm : Nat → List AV → S → R} (hsm : CallS P sm) {n : Nat} {gs : List (Nat × Row)} (hgs : okL gs = true) {e : En} (hc : and (closL e.l) (closA e.r) = true) (hok : CallOk P e.k) (h : retE (ev P sm n e.k e.l ⟨setG gs, 1000⟩) e.r = true) : KnownC P gs e := by
  rw [Bool.and_eq_true] at hc
  refine ⟨hc.1, hc.2, fun ρ w vs hR hv => ⟨hok, ?_⟩⟩
  unfold retE at h
  split at h
  · rename_i v s' hs
    have hve := eqA1_eq h
    subst hve
    rcases ev_callS hP hsm n _ _ _ _ s' hs ρ w vs hR hv with ⟨_, g⟩ | ⟨v, ρ', w', g, _⟩
    · refine Calls.mono g fun x w' hx => ?_
      obtain ⟨v, ρ', rfl, hr, G⟩ := hx
      exact ⟨v, ρ', rfl, hr, G.toExt hR fun i r hi => (okL_mem hgs _ (setG_get hi)).1⟩
    · rw [run_callFunc hok] at g
      cases g
  · cases h
def findC : List En → Nat → List AV → Option AV
  | [], _, _ => none
  | e :: l, k, a => bif and (Nat.beq e.k k) (eqAL e.l a) then some e.r else findC l k a
theorem findC_mem : ∀ {tab : List En} {k : Nat} {a : List AV} {r : AV}, findC tab k a = some r → ∃ e ∈ tab, e.k = k ∧ e.l = a ∧ e.r = r
  | [], _, _, _, h => by cases h
  | e :: l, k, a, r, h => by
    rw [findC] at h
    cases hc : and (Nat.beq e.k k) (eqAL e.l a) with
    | true =>
      rw [hc] at h
      injection h with h
      rw [Bool.and_eq_true] at hc
      exact ⟨e, List.mem_cons_self, Nat.eq_of_beq_eq_true hc.1, eqAL_eq hc.2, h⟩
    | false =>
      rw [hc] at h
      obtain ⟨e', h1, h2⟩ := findC_mem h
      exact ⟨e', List.mem_cons_of_mem _ h1, h2⟩
noncomputable def smC (gs : List (Nat × Row)) (tab : List En) (k : Nat) (l : List AV) (s : S) : R := (findC tab k l).bind fun r => bif okG s gs then some (r, s) else none
/-- Package variables alone. -/
def Rho.low (ρ : Rho) : Rho := fun i => if i < 1000 then ρ i else none
theorem rel_low {gs : List (Nat × Row)} (hgs : okL gs = true) (hg : okG s gs = true) (hl : Rel ρ s w) : Rel ρ.low ⟨setG gs, 1000⟩ w := by
  have lo : ∀ i, i < 1000 → ρ.low i = ρ i := fun i hi => if_pos hi
  have hin : ∀ i r, (setG gs).get i = some r → i < 1000 ∧ closR r = true ∧ s.h.get i = some r := fun i r hi => ⟨(okL_mem hgs _ (setG_get hi)).1, (okL_mem hgs _ (setG_get hi)).2, okG_set hg hi⟩
  refine ⟨fun i r hi hd => ?_, fun i j r q p p' hi hdi hj hdj hp hp' hb => ?_, fun i p hp => ?_, fun g hg' => ?_, Nat.le_refl _⟩
  · obtain ⟨h1, h2, h3⟩ := hin i r hi
    obtain ⟨p, hp, hra⟩ := hl.row i r h3 hd
    exact ⟨p, by rw [lo i h1]; exact hp, clos_row h2 hra⟩
  · obtain ⟨h1, _, h3⟩ := hin i r hi
    obtain ⟨g1, _, g3⟩ := hin j q hj
    rw [lo i h1] at hp
    rw [lo j g1] at hp'
    exact hl.inj i j r q p p' h3 hdi g3 hdj hp hp' hb
  · have hi : i < 1000 := by
      apply Nat.lt_of_not_le
      intro hle
      have : ρ.low i = none := if_neg (by omega)
      rw [this] at hp
      cases hp
    exact ⟨hi, fun h => by omega⟩
  · obtain ⟨sz, h⟩ := hl.gl g hg'
    exact ⟨sz, by rw [lo g hg']; exact h⟩
theorem smC_ok {gs : List (Nat × Row)} (hgs : okL gs = true) {tab : List En} (ht : ∀ e ∈ tab, KnownC P gs e) : CallS P (smC gs tab) := by
  intro k l s r s' h ρ w vs hl hv
  simp only [smC, Option.bind_eq_some_iff] at h
  obtain ⟨x, hx, h⟩ := h
  cases hg : okG s gs with
  | false => rw [hg] at h; cases h
  | true =>
    rw [hg] at h
    injection h with h
    injection h with e1 e2
    subst e1 e2
    obtain ⟨e, he, rfl, rfl, rfl⟩ := findC_mem hx
    obtain ⟨c1, c2, c3⟩ := ht e he
    obtain ⟨g1, g2⟩ := c3 ρ.low w vs (rel_low hgs hg hl) (clos_rvs c1 hv)
    refine .inl ⟨g1, Calls.mono g2 fun y w' hy => ?_⟩
    obtain ⟨v, ρ', rfl, hr, hE⟩ := hy
    exact ⟨v, ρ, rfl, clos_rv c2 hr, Goes.ofExt hl hE⟩
/-! ### Calls that look at one row -/
structure EnS where
  k : Nat
  row : Row
  o : Nat
  n : Nat
  c : Cap
  r : AV
noncomputable def sLoc (gs : List (Nat × Row)) (x : Row) : S := ⟨(setG gs).set 1000 x, 1001⟩
noncomputable def retS (r : R) (x : AV) (row : Row) : Bool := match r with
  | some (v, s) => and (eqA1 v x) (rowIs s 1000 row)
  | none => false
/-- What such a call returns: memory that was there is as it was. -/
def KnownS (P : Program) (gs : List (Nat × Row)) (e : EnS) : Prop := closA e.r = true ∧ closR e.row = true ∧ ∀ ρ w vs, Rel ρ (sLoc gs e.row) w → RVs ρ [.sl 1000 e.o e.n e.c] vs → CallOk P e.k ∧ Calls P e.k vs.toArray w (fun x w' => ∃ v ρ' s', x = .returned v ∧ RV ρ' e.r v ∧ s'.h.get 1000 = some e.row ∧ Goes ρ (sLoc gs e.row) w ρ' s' w')
theorem knownS_ev (hP : PrOk P) {sm : Nat → List AV → S → R} (hsm : CallS P sm) {n : Nat} {gs : List (Nat × Row)} {e : EnS} (hc : and (closA e.r) (closR e.row) = true) (hok : CallOk P e.k) (h : retS (ev P sm n e.k [.sl 1000 e.o e.n e.c] (sLoc gs e.row)) e.r e.row = true) : KnownS P gs e := by
  rw [Bool.and_eq_true] at hc
  refine ⟨hc.1, hc.2, fun ρ w vs hR hv => ⟨hok, ?_⟩⟩
  unfold retS at h
  split at h
  · rename_i v s' hs
    rw [Bool.and_eq_true] at h
    have hve := eqA1_eq h.1
    subst hve
    rcases ev_callS hP hsm n _ _ _ _ s' hs ρ w vs hR hv with ⟨_, g⟩ | ⟨v, ρ', w', g, _⟩
    · refine Calls.mono g fun x w' hx => ?_
      obtain ⟨v, ρ', rfl, hr, G⟩ := hx
      exact ⟨v, ρ', s', rfl, hr, rowIs_eq h.2, G⟩
    · rw [run_callFunc hok] at g
      cases g
  · cases h
def findS : List EnS → Nat → Nat → Nat → Cap → Row → Option AV
  | [], _, _, _, _, _ => none
  | e :: l, k, o, n, c, x => bif and (Nat.beq e.k k) (and (Nat.beq e.o o) (and (Nat.beq e.n n) (and (eqCap e.c c) (eqRow e.row x)))) then some e.r else findS l k o n c x
theorem findS_mem : ∀ {tab : List EnS} {k o n : Nat} {c : Cap} {x : Row} {r : AV}, findS tab k o n c x = some r → ∃ e ∈ tab, e.k = k ∧ e.o = o ∧ e.n = n ∧ e.c = c ∧ e.row = x ∧ e.r = r
  | [], _, _, _, _, _, _, h => by cases h
  | e :: l, k, o, n, c, x, r, h => by
    rw [findS] at h
    cases hc : and (Nat.beq e.k k) (and (Nat.beq e.o o) (and (Nat.beq e.n n) (and (eqCap e.c c) (eqRow e.row x)))) with
    | true =>
      rw [hc] at h
      injection h with h
      simp only [Bool.and_eq_true] at hc
      exact ⟨e, List.mem_cons_self, Nat.eq_of_beq_eq_true hc.1, Nat.eq_of_beq_eq_true hc.2.1, Nat.eq_of_beq_eq_true hc.2.2.1, eqCap_eq hc.2.2.2.1, eqRow_eq hc.2.2.2.2, h⟩
    | false =>
      rw [hc] at h
      obtain ⟨e', h1, h2⟩ := findS_mem h
      exact ⟨e', List.mem_cons_of_mem _ h1, h2⟩
noncomputable def smS (gs : List (Nat × Row)) (tab : List EnS) (k : Nat) (l : List AV) (s : S) : R := match l with
  | [.sl i o n c] => bif Nat.blt i 1000 then none else (s.h.get i).bind fun x => (findS tab k o n c x).bind fun r => bif okG s gs then some (r, s) else none
  | _ => none
/-- Package variables, and one row more. -/
def Rho.one (ρ : Rho) (i : Nat) : Rho := fun j => if j < 1000 then ρ j else if j = 1000 then ρ i else none
theorem smS_ok {gs : List (Nat × Row)} (hgs : okL gs = true) {tab : List EnS} (ht : ∀ e ∈ tab, KnownS P gs e) : CallS P (smS gs tab) := by
  intro k l s r s' h ρ w vs hl hv
  unfold smS at h
  split at h
  rotate_left
  · cases h
  rename_i i o n c
  rw [cblt] at h
  split at h
  · cases h
  rename_i h1000
  simp only [Option.bind_eq_some_iff] at h
  obtain ⟨x, hx, y, hy, h⟩ := h
  cases hg : okG s gs with
  | false => rw [hg] at h; cases h
  | true =>
  rw [hg] at h
  injection h with h
  injection h with e1 e2
  subst e1 e2
  obtain ⟨e, he, rfl, rfl, rfl, rfl, rfl, rfl⟩ := findS_mem hy
  obtain ⟨c1, c2, c3⟩ := ht e he
  have hdead : e.row ≠ .dead := by intro hd; rw [hd] at c2; cases c2
  obtain ⟨p, hp, hra⟩ := hl.row i e.row hx hdead
  have lo : ∀ j, j < 1000 → ρ.one i j = ρ j := fun j hj => if_pos hj
  have l1 : ρ.one i 1000 = some p := by
    show (if 1000 < 1000 then ρ 1000 else if 1000 = 1000 then ρ i else none) = some p
    rw [if_neg (by omega), if_pos rfl]
    exact hp
  have hin : ∀ j q, (sLoc gs e.row).h.get j = some q → (j = 1000 ∧ q = e.row) ∨ (j < 1000 ∧ closR q = true ∧ s.h.get j = some q) := fun j q hj => by
    have hj : ((setG gs).set 1000 e.row).get j = some q := hj
    rcases T.get_set hj with ⟨h1, h2⟩ | ⟨_, hj⟩
    · exact .inl ⟨h1, h2⟩
    · exact .inr ⟨(okL_mem hgs _ (setG_get hj)).1, (okL_mem hgs _ (setG_get hj)).2, okG_set hg hj⟩
  have hR : Rel (ρ.one i) (sLoc gs e.row) w := by
    refine ⟨fun j q hj hd => ?_, fun j m q t p1 p2 hj hdj hm hdm hp1 hp2 hb => ?_, fun j q hq => ?_, fun g hg' => ?_, by show 1000 ≤ 1001; omega⟩
    · rcases hin j q hj with ⟨rfl, rfl⟩ | ⟨h1, h2, h3⟩
      · exact ⟨p, l1, clos_row c2 hra⟩
      · obtain ⟨p2, hp2, hra2⟩ := hl.row j q h3 hd
        exact ⟨p2, by rw [lo j h1]; exact hp2, clos_row h2 hra2⟩
    · rcases hin j q hj with ⟨rfl, rfl⟩ | ⟨h1, h2, h3⟩ <;> rcases hin m t hm with ⟨rfl, rfl⟩ | ⟨g1, g2, g3⟩
      · rfl
      · rw [l1] at hp1
        injection hp1 with hp1
        subst hp1
        rw [lo m g1] at hp2
        have := hl.inj i m _ _ _ _ hx hdead g3 hdm hp hp2 hb
        omega
      · rw [l1] at hp2
        injection hp2 with hp2
        subst hp2
        rw [lo j h1] at hp1
        have := hl.inj j i _ _ _ _ h3 hdj hx hdead hp1 hp hb
        omega
      · rw [lo j h1] at hp1
        rw [lo m g1] at hp2
        exact hl.inj j m _ _ _ _ h3 hdj g3 hdm hp1 hp2 hb
    · show j < 1001 ∧ _
      by_cases hj : j < 1000
      · exact ⟨by omega, fun h => by omega⟩
      · by_cases hj2 : j = 1000
        · subst hj2
          rw [l1] at hq
          injection hq with hq
          subst hq
          exact ⟨by omega, fun _ => (hl.nx i p hp).2 (by omega)⟩
        · have : ρ.one i j = none := by
            show (if j < 1000 then ρ j else if j = 1000 then ρ i else none) = none
            rw [if_neg hj, if_neg hj2]
          rw [this] at hq
          cases hq
    · obtain ⟨sz, h⟩ := hl.gl g hg'
      exact ⟨sz, by rw [lo g hg']; exact h⟩
  have hv' : RVs (ρ.one i) [.sl 1000 e.o e.n e.c] vs := by
    obtain ⟨v, us, rfl, h1, h2⟩ := hv
    refine ⟨v, us, rfl, ?_, h2⟩
    cases hcap : e.c with
    | k q =>
      rw [hcap] at h1
      obtain ⟨p2, h3, h4⟩ := h1
      rw [hp] at h3
      injection h3 with h3
      subst h3
      exact ⟨p, l1, h4⟩
    | u z =>
      rw [hcap] at h1
      obtain ⟨p2, A, q, h3, h4⟩ := h1
      rw [hp] at h3
      injection h3 with h3
      subst h3
      exact ⟨p, A, q, l1, h4⟩
  obtain ⟨g1, g2⟩ := c3 (ρ.one i) w vs hR hv'
  refine .inl ⟨g1, Calls.mono g2 fun y w' hy => ?_⟩
  obtain ⟨v, ρ', s', rfl, hr, hrow, G⟩ := hy
  refine ⟨v, ρ, rfl, clos_rv c1 hr, ?_⟩
  have hne : ∀ b, b < w.heap.size → b ≠ p.b → (∀ g, g < 1000 → (∀ q, s.h.get g = some q → q = .dead) ∨ g ≠ b) → w'.heap[b]? = w.heap[b]? := fun b hb h1 h2 => by
    refine G.keep b hb fun ho => ?_
    obtain ⟨j, q, p2, hj, hd, hp2, hb2⟩ := ho
    rcases hin j q hj with ⟨rfl, rfl⟩ | ⟨k1, k2, k3⟩
    · rw [l1] at hp2
      injection hp2 with hp2
      subst hp2
      exact h1 hb2.symm
    · obtain ⟨sz, hsz⟩ := hl.gl j k1
      rw [lo j k1, hsz] at hp2
      injection hp2 with hp2
      subst hp2
      rcases h2 j k1 with h2 | h2
      · exact hd (h2 q k3)
      · exact h2 hb2
  -- blocks of the package variables stay too
  have hgl : ∀ b, b < w.heap.size → b ≠ p.b → w'.heap[b]? = w.heap[b]? := fun b hb h1 => by
    by_cases ho : Own (ρ.one i) (sLoc gs e.row) b
    · obtain ⟨j, q, p2, hj, hd, hp2, hb2⟩ := ho
      rcases hin j q hj with ⟨rfl, rfl⟩ | ⟨k1, k2, k3⟩
      · rw [l1] at hp2
        injection hp2 with hp2
        subst hp2
        exact absurd hb2.symm h1
      · obtain ⟨sz, hsz⟩ := hl.gl j k1
        rw [lo j k1, hsz] at hp2
        injection hp2 with hp2
        subst hp2
        have := G.gk j q k1 hj hd
        rw [← hb2]
        exact this
    · exact G.keep b hb ho
  have hrow' : RowAt ρ w' p e.row := by
    obtain ⟨p2, hp2, hra2⟩ := G.rel.row 1000 e.row hrow hdead
    rw [G.ext 1000 p l1] at hp2
    injection hp2 with hp2
    subst hp2
    exact clos_row c2 hra2
  have hrel : Rel ρ s w' := by
    refine ⟨fun j q hj hd => ?_, hl.inj, fun j q hq => ⟨(hl.nx j q hq).1, fun h => Nat.lt_of_lt_of_le ((hl.nx j q hq).2 h) G.size⟩, hl.gl, hl.lo⟩
    obtain ⟨p2, hp2, hra2⟩ := hl.row j q hj hd
    by_cases hb : p2.b = p.b
    · have := hl.inj j i _ _ _ _ hj hd hx hdead hp2 hp hb
      subst this
      rw [hx] at hj
      injection hj with hj
      subst hj
      exact ⟨p, hp, hrow'⟩
    · exact ⟨p2, hp2, hra2.keep (fun _ _ h => h) (hgl p2.b hra2.lt hb)⟩
  refine ⟨fun _ _ h => h, Nat.le_refl _, G.size, G.os, G.tape, G.output, fun b _ h => h, fun b hb ho => hgl b hb fun h => ho ⟨i, e.row, p, hx, hdead, hp, h.symm⟩, hrel, fun _ _ h => .inl h, fun _ _ => rfl, fun g q hg' hq hd => ?_⟩
  have hlt := hl.glt hg' hq hd
  refine hgl g hlt fun hb => ?_
  obtain ⟨sz, hsz⟩ := hl.gl g hg'
  have := hl.inj g i _ _ _ _ hq hd hx hdead hsz hp hb
  omega
end
end Go.Ev
set_option linter.unusedVariables false
set_option linter.unusedSimpArgs false
namespace Go.Ev
open Go Go.Fw Go.RowKit Go.ChangeShapes Go.WideShapes

theorem table_int {H : Type} {enc : TypeId × Value → H} {P : Program} {w : World} {base : Nat} {spare : Nat → Bool} {held : Bool} {fuel : Nat} {t e : TypeId} {k : IntKind} {n : Nat} {cs : List Value} {l : List Int} {p : List MemPlace} (ht : P.underlying t = some (.array n e)) (he : P.underlying e = some (.int k)) (hc : P.cellsOf e = 1) (hl : l.length = n)
    (h : DataW.trod enc P w base spare held fuel t cs = some (.agg (l.map fun x => .lit (.int k x)), p)) : ∀ (i : Nat) (x : Int), l[i]? = some x → cs[i]? = some (.int k x) := by
  intro i x hx
  have hi : i < n := by rw [← hl]; exact (List.getElem?_eq_some_iff.1 hx).1
  obtain ⟨xs, m, _, hxs, _, hn, hel⟩ := DataW.trod_array ht h
  simp only [Prod.mk.injEq, DataW.agg.injEq] at hxs
  have hi' := hel i hi
  rw [hc, Nat.mul_one, List.getElem?_eq_getElem (by omega)] at hi'
  obtain ⟨q, e1, e2, _⟩ := DataW.trod_int he hi'
  have hd : (l.map fun x => (DataW.lit (.int k x) : DataW H))[i]? = some (xs[i].1) := by rw [hxs.1, List.getElem?_map, List.getElem?_eq_getElem (by omega)]; rfl
  rw [List.getElem?_map, hx] at hd
  simp only [Option.map_some, Option.some.injEq] at hd
  rw [e2] at hd
  injection hd with hd
  injection hd with _ hd
  have h1 : ((cs.drop i).take 1)[0]? = some (.int k q) := by rw [e1]; rfl
  rw [List.getElem?_take, if_pos (by omega), List.getElem?_drop, Nat.add_zero] at h1
  rw [h1, hd]
theorem laid_mem {P : Program} {w : World} : ∀ {laid : List (String × DataW Unit)} {ps : List MemPlace}, DataW.LaidVars P w laid ps → ∀ {n : String} {d : DataW Unit}, (n, d) ∈ laid →
    ∃ g t cs fuel p, P.globalNamed n = some g ∧ (P.globals[g]?).map (·.type) = some t ∧ w.var? P n = some cs ∧ DataW.trod (fun _ => ()) P w 0 (fun _ => true) false fuel t cs.toList = some (d, p) ∧ ∀ x ∈ MemPlace.row ⟨g, 0, none⟩ cs.size, x ∈ ps
  | [], ps, _, n, d, hm => by cases hm
  | (n', d') :: r, ps, h, n, d, hm => by
    obtain ⟨g, t, cs, fuel, p, q, h1, h2, h3, h4, h5, rfl⟩ := h
    rcases List.mem_cons.1 hm with e | hm
    · injection e with e1 e2
      subst e1 e2
      exact ⟨g, t, cs, fuel, p, h1, h2, h3, h4, fun x hx => List.mem_append.2 (.inl (List.mem_append.2 (.inl hx)))⟩
    · obtain ⟨g, t, cs, fuel, p, k1, k2, k3, k4, k5⟩ := laid_mem h5 hm
      exact ⟨g, t, cs, fuel, p, k1, k2, k3, k4, fun x hx => List.mem_append.2 (.inr (k5 x hx))⟩
theorem mem_row0 {g n : Nat} (hn : 0 < n) : MemPlace.cell g 0 ∈ MemPlace.row ⟨g, 0, none⟩ n := by
  unfold MemPlace.row
  first
    | exact List.mem_map.2 ⟨0, List.mem_range.2 hn, rfl⟩
    | (simp; exact ⟨0, hn, rfl⟩)
/-- A listed table in memory. -/
theorem laid_table {P : Program} {W : World} {laid : List (String × DataW Unit)} (hm : laidMet P laid W) {n : String} {k : IntKind} {l : List Int} (hmem : (n, .agg (l.map fun x => .lit (.int k x))) ∈ laid) {g t e m : Nat} (hg : P.globalNamed n = some g) (ht : (P.globals[g]?).map (·.type) = some t) (hu : P.underlying t = some (.array m e)) (he : P.underlying e = some (.int k)) (hc : P.cellsOf e = 1) (hl : l.length = m) (h0 : 0 < m) :
    ∃ c t', W.heap[g]? = some (.cells c t' (0, 0)) ∧ l.length ≤ c.size ∧ ∀ (i : Nat) (x : Int), l[i]? = some x → c[i]? = some (.int k x) := by
  obtain ⟨ps, h1, _, h3⟩ := hm
  obtain ⟨g', t', cs, fuel, p, k1, k2, k3, k4, k5⟩ := laid_mem h1 hmem
  obtain rfl := Option.some.inj (hg.symm.trans k1)
  obtain rfl := Option.some.inj (ht.symm.trans k2)
  have hv := table_int hu he hc hl k4
  obtain ⟨x0, hx0⟩ : ∃ x, l[0]? = some x := ⟨_, List.getElem?_eq_getElem (by omega)⟩
  have hpos : 0 < cs.size := by
    have := (List.getElem?_eq_some_iff.1 (hv 0 x0 hx0)).1
    simpa using this
  obtain ⟨⟨c, u, hb⟩, _⟩ := h3 g 0 (k5 _ (mem_row0 hpos))
  have ec : c = cs := by
    unfold World.var? at k3
    rw [hg, Option.bind_some, hb] at k3
    injection k3
  subst ec
  refine ⟨c, u, hb, ?_, fun i x hx => ?_⟩
  · apply Nat.le_of_not_lt
    intro hlt
    have := hv c.size _ (List.getElem?_eq_getElem hlt)
    rw [Array.getElem?_toList, Array.getElem?_eq_none (Nat.le_refl _)] at this
    cases this
  · have := hv i x hx
    rwa [Array.getElem?_toList] at this
def rowI (k : IntKind) (l : List Int) : Row := .cells 0 true (l.map fun x => .int k x)
theorem rowI_at {ρ : Rho} {w : World} {g : Nat} {k : IntKind} {l : List Int} {c : Array Value} {t : TypeId} (hb : w.heap[g]? = some (.cells c t (0, 0))) (hl : l.length ≤ c.size) (h : ∀ (i : Nat) (x : Int), l[i]? = some x → c[i]? = some (.int k x)) : RowAt ρ w ⟨g, 0, c.size⟩ (rowI k l) := by
  refine ⟨c, t, (0, 0), hb, rfl, .inl rfl, by rw [List.length_map]; show 0 + l.length ≤ c.size; omega, (fun h => by cases h), fun j v hv => ?_⟩
  rw [List.getElem?_map] at hv
  obtain ⟨x, hx, rfl⟩ := Option.map_eq_some_iff.1 hv
  exact ⟨rfl, _, by rw [Nat.zero_add]; exact h j x hx, rfl⟩
/-- Bytes as whole numbers. -/
def byI (n c : Nat) : List Int := (byL n c).map fun x => (x.toNat : Int)
theorem byI_len (n c : Nat) : (byI n c).length = n := by rw [byI, List.length_map, byL_len]
theorem rowB_at {ρ : Rho} {w : World} {g n : Nat} {q : Nat} (hq : q < 2 ^ (8 * n)) {c : Array Value} {t : TypeId} (hb : w.heap[g]? = some (.cells c t (0, 0))) (hl : (byI n q).length ≤ c.size) (h : ∀ (i : Nat) (x : Int), (byI n q)[i]? = some x → c[i]? = some (.int .u8 x)) : RowAt ρ w ⟨g, 0, c.size⟩ (.bytes 0 true n q) := by
  rw [byI_len] at hl
  refine ⟨hq, c, t, (0, 0), hb, rfl, ⟨.inl rfl, .inl rfl⟩, by show 0 + n ≤ c.size; omega, (fun h => by cases h), fun j x hx => ?_⟩
  rw [Nat.zero_add]
  exact h j _ (by rw [byI, List.getElem?_map, hx]; rfl)
theorem rowV_at {ρ : Rho} {w : World} {g : Nat} {v : Value} {c : Array Value} {t : TypeId} (hb : w.heap[g]? = some (.cells c t (0, 0))) (hc : c[0]? = some v) (h1 : v.oneCell' = true) (h2 : v.cells = #[v]) (i : Nat) : RowAt ρ w ⟨g, 0, c.size⟩ (.cells 0 true [.val i v]) := by
  have hsz : 0 < c.size := (Array.getElem?_eq_some_iff.1 hc).1
  refine ⟨c, t, (0, 0), hb, rfl, .inl rfl, by show 0 + 1 ≤ c.size; omega, (fun h => by cases h), fun j u hu => ?_⟩
  match j, hu with
  | 0, hu =>
    injection hu with hu
    subst hu
    exact ⟨rfl, v, by rw [Nat.zero_add]; exact hc, rfl, h1, h2⟩
  | j + 1, hu => simp at hu
end Go.Ev
set_option linter.unusedVariables false
set_option linter.unusedSimpArgs false
set_option linter.unusedSectionVars false
namespace Go.Ev
open Go Go.Fw

/-! ### The same value, whatever it is -/
mutual
def eqN : AV → AV → Bool
  | .agg l, .agg m => eqNL l m
  | .tup l, .tup m => eqNL l m
  | .fn k f c, .fn j g d => and (Nat.beq k j) (and (eqNL f g) (eqNL c d))
  | .ifc t x, .ifc u y => and (Nat.beq t u) (eqN x y)
  | .undef, .undef => true
  | a, b => eqA1 a b
def eqNL : List AV → List AV → Bool
  | [], [] => true
  | x :: l, y :: m => and (eqN x y) (eqNL l m)
  | _, _ => false
end
mutual
theorem eqN_eq : ∀ (a b : AV), eqN a b = true → a = b
  | .agg l, .agg m, h => by rw [eqN] at h; rw [eqNL_eq l m h]
  | .tup l, .tup m, h => by rw [eqN] at h; rw [eqNL_eq l m h]
  | .fn k f c, .fn j g d, h => by
    rw [eqN, Bool.and_eq_true, Bool.and_eq_true] at h
    rw [Nat.eq_of_beq_eq_true h.1, eqNL_eq f g h.2.1, eqNL_eq c d h.2.2]
  | .ifc t x, .ifc u y, h => by
    rw [eqN, Bool.and_eq_true] at h
    rw [Nat.eq_of_beq_eq_true h.1, eqN_eq x y h.2]
  | .undef, .undef, _ => rfl
  | .bool x, b, h => by unfold eqN at h; exact eqA1_eq h
  | .int k x, b, h => by unfold eqN at h; exact eqA1_eq h
  | .str n c, b, h => by unfold eqN at h; exact eqA1_eq h
  | .nil, b, h => by unfold eqN at h; exact eqA1_eq h
  | .ptr i o, b, h => by unfold eqN at h; exact eqA1_eq h
  | .slN, b, h => by unfold eqN at h; exact eqA1_eq h
  | .sl i o n c, b, h => by unfold eqN at h; exact eqA1_eq h
  | .nilF, b, h => by unfold eqN at h; exact eqA1_eq h
  | .bag n c, b, h => by unfold eqN at h; exact eqA1_eq h
  | .nilI, b, h => by unfold eqN at h; exact eqA1_eq h
  | .val t v, b, h => by unfold eqN at h; exact eqA1_eq h
  | .mp i, b, h => by unfold eqN at h; exact eqA1_eq h
  | .nilM, b, h => by unfold eqN at h; exact eqA1_eq h
  | .agg l, .bool _, h => by simp [eqN, eqA1] at h
  | .agg l, .int _ _, h => by simp [eqN, eqA1] at h
  | .agg l, .str _ _, h => by simp [eqN, eqA1] at h
  | .agg l, .nil, h => by simp [eqN, eqA1] at h
  | .agg l, .ptr _ _, h => by simp [eqN, eqA1] at h
  | .agg l, .slN, h => by simp [eqN, eqA1] at h
  | .agg l, .sl _ _ _ _, h => by simp [eqN, eqA1] at h
  | .agg l, .fn _ _ _, h => by simp [eqN, eqA1] at h
  | .agg l, .nilF, h => by simp [eqN, eqA1] at h
  | .agg l, .bag _ _, h => by simp [eqN, eqA1] at h
  | .agg l, .tup _, h => by simp [eqN, eqA1] at h
  | .agg l, .ifc _ _, h => by simp [eqN, eqA1] at h
  | .agg l, .nilI, h => by simp [eqN, eqA1] at h
  | .agg l, .undef, h => by simp [eqN, eqA1] at h
  | .agg l, .val _ _, h => by simp [eqN, eqA1] at h
  | .agg l, .mp _, h => by simp [eqN, eqA1] at h
  | .agg l, .nilM, h => by simp [eqN, eqA1] at h
  | .tup l, .bool _, h => by simp [eqN, eqA1] at h
  | .tup l, .int _ _, h => by simp [eqN, eqA1] at h
  | .tup l, .str _ _, h => by simp [eqN, eqA1] at h
  | .tup l, .nil, h => by simp [eqN, eqA1] at h
  | .tup l, .ptr _ _, h => by simp [eqN, eqA1] at h
  | .tup l, .slN, h => by simp [eqN, eqA1] at h
  | .tup l, .sl _ _ _ _, h => by simp [eqN, eqA1] at h
  | .tup l, .fn _ _ _, h => by simp [eqN, eqA1] at h
  | .tup l, .nilF, h => by simp [eqN, eqA1] at h
  | .tup l, .bag _ _, h => by simp [eqN, eqA1] at h
  | .tup l, .agg _, h => by simp [eqN, eqA1] at h
  | .tup l, .ifc _ _, h => by simp [eqN, eqA1] at h
  | .tup l, .nilI, h => by simp [eqN, eqA1] at h
  | .tup l, .undef, h => by simp [eqN, eqA1] at h
  | .tup l, .val _ _, h => by simp [eqN, eqA1] at h
  | .tup l, .mp _, h => by simp [eqN, eqA1] at h
  | .tup l, .nilM, h => by simp [eqN, eqA1] at h
  | .fn _ _ _, .bool _, h => by simp [eqN, eqA1] at h
  | .fn _ _ _, .int _ _, h => by simp [eqN, eqA1] at h
  | .fn _ _ _, .str _ _, h => by simp [eqN, eqA1] at h
  | .fn _ _ _, .nil, h => by simp [eqN, eqA1] at h
  | .fn _ _ _, .ptr _ _, h => by simp [eqN, eqA1] at h
  | .fn _ _ _, .slN, h => by simp [eqN, eqA1] at h
  | .fn _ _ _, .sl _ _ _ _, h => by simp [eqN, eqA1] at h
  | .fn _ _ _, .agg _, h => by simp [eqN, eqA1] at h
  | .fn _ _ _, .nilF, h => by simp [eqN, eqA1] at h
  | .fn _ _ _, .bag _ _, h => by simp [eqN, eqA1] at h
  | .fn _ _ _, .tup _, h => by simp [eqN, eqA1] at h
  | .fn _ _ _, .ifc _ _, h => by simp [eqN, eqA1] at h
  | .fn _ _ _, .nilI, h => by simp [eqN, eqA1] at h
  | .fn _ _ _, .undef, h => by simp [eqN, eqA1] at h
  | .fn _ _ _, .val _ _, h => by simp [eqN, eqA1] at h
  | .fn _ _ _, .mp _, h => by simp [eqN, eqA1] at h
  | .fn _ _ _, .nilM, h => by simp [eqN, eqA1] at h
  | .ifc _ _, .bool _, h => by simp [eqN, eqA1] at h
  | .ifc _ _, .int _ _, h => by simp [eqN, eqA1] at h
  | .ifc _ _, .str _ _, h => by simp [eqN, eqA1] at h
  | .ifc _ _, .nil, h => by simp [eqN, eqA1] at h
  | .ifc _ _, .ptr _ _, h => by simp [eqN, eqA1] at h
  | .ifc _ _, .slN, h => by simp [eqN, eqA1] at h
  | .ifc _ _, .sl _ _ _ _, h => by simp [eqN, eqA1] at h
  | .ifc _ _, .fn _ _ _, h => by simp [eqN, eqA1] at h
  | .ifc _ _, .nilF, h => by simp [eqN, eqA1] at h
  | .ifc _ _, .bag _ _, h => by simp [eqN, eqA1] at h
  | .ifc _ _, .tup _, h => by simp [eqN, eqA1] at h
  | .ifc _ _, .agg _, h => by simp [eqN, eqA1] at h
  | .ifc _ _, .nilI, h => by simp [eqN, eqA1] at h
  | .ifc _ _, .undef, h => by simp [eqN, eqA1] at h
  | .ifc _ _, .val _ _, h => by simp [eqN, eqA1] at h
  | .ifc _ _, .mp _, h => by simp [eqN, eqA1] at h
  | .ifc _ _, .nilM, h => by simp [eqN, eqA1] at h
  | .undef, .bool _, h => by simp [eqN, eqA1] at h
  | .undef, .int _ _, h => by simp [eqN, eqA1] at h
  | .undef, .str _ _, h => by simp [eqN, eqA1] at h
  | .undef, .nil, h => by simp [eqN, eqA1] at h
  | .undef, .ptr _ _, h => by simp [eqN, eqA1] at h
  | .undef, .slN, h => by simp [eqN, eqA1] at h
  | .undef, .sl _ _ _ _, h => by simp [eqN, eqA1] at h
  | .undef, .fn _ _ _, h => by simp [eqN, eqA1] at h
  | .undef, .nilF, h => by simp [eqN, eqA1] at h
  | .undef, .bag _ _, h => by simp [eqN, eqA1] at h
  | .undef, .tup _, h => by simp [eqN, eqA1] at h
  | .undef, .ifc _ _, h => by simp [eqN, eqA1] at h
  | .undef, .nilI, h => by simp [eqN, eqA1] at h
  | .undef, .agg _, h => by simp [eqN, eqA1] at h
  | .undef, .val _ _, h => by simp [eqN, eqA1] at h
  | .undef, .mp _, h => by simp [eqN, eqA1] at h
  | .undef, .nilM, h => by simp [eqN, eqA1] at h
theorem eqNL_eq : ∀ (l m : List AV), eqNL l m = true → l = m
  | [], [], _ => rfl
  | [], _ :: _, h => by simp [eqNL] at h
  | _ :: _, [], h => by simp [eqNL] at h
  | x :: l, y :: m, h => by
    rw [eqNL, Bool.and_eq_true] at h
    rw [eqN_eq x y h.1, eqNL_eq l m h.2]
end
def eqP : List (AV × AV) → List (AV × AV) → Bool
  | [], [] => true
  | x :: l, y :: m => and (eqN x.1 y.1) (and (eqN x.2 y.2) (eqP l m))
  | _, _ => false
theorem eqP_eq : ∀ {l m : List (AV × AV)}, eqP l m = true → l = m
  | [], [], _ => rfl
  | [], _ :: _, h => by simp [eqP] at h
  | _ :: _, [], h => by simp [eqP] at h
  | (a, b) :: l, (c, d) :: m, h => by
    rw [eqP, Bool.and_eq_true, Bool.and_eq_true] at h
    have e1 : a = c := eqN_eq _ _ h.1
    have e2 : b = d := eqN_eq _ _ h.2.1
    rw [e1, e2, eqP_eq h.2.2]
def eqRowN (a b : Row) : Bool := match a, b with
  | .cells e m l, .cells e' m' l' => and (Nat.beq e e') (and (eqBool m m') (eqNL l l'))
  | .bytes e m n c, .bytes e' m' n' c' => and (Nat.beq e e') (and (eqBool m m') (and (Nat.beq n n') (Nat.beq c c')))
  | .map l, .map m => eqP l m
  | _, _ => false
theorem eqRowN_eq {a b : Row} (h : eqRowN a b = true) : a = b := by
  unfold eqRowN at h
  split at h
  · simp only [Bool.and_eq_true] at h
    rw [Nat.eq_of_beq_eq_true h.1, eqBool_eq h.2.1, eqNL_eq _ _ h.2.2]
  · simp only [Bool.and_eq_true] at h
    rw [Nat.eq_of_beq_eq_true h.1, eqBool_eq h.2.1, Nat.eq_of_beq_eq_true h.2.2.1, Nat.eq_of_beq_eq_true h.2.2.2]
  · rw [eqP_eq h]
  · cases h
/-- The rows are these, at least. -/
noncomputable def hasR (s : S) : List (Nat × Row) → Bool
  | [] => true
  | x :: l => and (match s.h.get x.1 with
    | some r => eqRowN x.2 r
    | none => false) (hasR s l)
theorem hasR_mem {s : S} {gs : List (Nat × Row)} (h : hasR s gs = true) : ∀ x ∈ gs, s.h.get x.1 = some x.2 := by
  induction gs with
  | nil => intro x hx; cases hx
  | cons y l ih =>
    rw [hasR, Bool.and_eq_true] at h
    intro x hx
    rcases List.mem_cons.1 hx with rfl | hx
    · have h1 := h.1
      split at h1
      · rename_i r hr
        rw [hr, eqRowN_eq h1]
      · cases h1
    · exact ih h.2 x hx

/-! ### Rows under new numbers -/
def shI (d i : Nat) : Nat := bif Nat.blt i 1000 then i else Nat.add i d
mutual
def shA (d : Nat) : AV → AV
  | .ptr i o => .ptr (shI d i) o
  | .sl i o n c => .sl (shI d i) o n c
  | .mp i => .mp (shI d i)
  | .agg l => .agg (shL d l)
  | .tup l => .tup (shL d l)
  | .fn k f c => .fn k (shL d f) (shL d c)
  | .ifc t x => .ifc t (shA d x)
  | x => x
def shL (d : Nat) : List AV → List AV
  | [] => []
  | x :: l => shA d x :: shL d l
end
def shP (d : Nat) : List (AV × AV) → List (AV × AV)
  | [] => []
  | x :: l => (shA d x.1, shA d x.2) :: shP d l
def shR (d : Nat) : Row → Row
  | .cells e m l => .cells e m (shL d l)
  | .map l => .map (shP d l)
  | r => r
theorem shL_len (d : Nat) : ∀ l, (shL d l).length = l.length
  | [] => rfl
  | x :: l => by rw [shL, List.length_cons, List.length_cons, shL_len d l]
theorem shL_get (d : Nat) : ∀ (l : List AV) (k : Nat), (shL d l)[k]? = (l[k]?).map (shA d)
  | [], k => by simp [shL]
  | x :: l, 0 => rfl
  | x :: l, k + 1 => by rw [shL, List.getElem?_cons_succ, List.getElem?_cons_succ, shL_get d l k]
theorem shP_len (d : Nat) : ∀ l, (shP d l).length = l.length
  | [] => rfl
  | x :: l => by rw [shP, List.length_cons, List.length_cons, shP_len d l]
theorem shP_get (d : Nat) : ∀ (l : List (AV × AV)) (k : Nat), (shP d l)[k]? = (l[k]?).map fun x => (shA d x.1, shA d x.2)
  | [], k => by simp [shP]
  | x :: l, 0 => rfl
  | x :: l, k + 1 => by rw [shP, List.getElem?_cons_succ, List.getElem?_cons_succ, shP_get d l k]
theorem shA_one (d : Nat) (x : AV) : (shA d x).one = x.one := by cases x <;> simp [shA, AV.one]
theorem shL_one (d : Nat) : ∀ l, allOne (shL d l) = allOne l
  | [] => rfl
  | x :: l => by rw [shL, allOne, allOne, shA_one, shL_one d l]
theorem shA_clos (d : Nat) {x : AV} (h : closA x = true) : shA d x = x := by cases x <;> first | rfl | cases h
section
mutual
theorem RV.shift {ρ ρ' : Rho} {d : Nat} (hρ : ∀ i p, ρ i = some p → ρ' (shI d i) = some p) : ∀ (a : AV) (v : Value), RV ρ a v → RV ρ' (shA d a) v
  | .bool _, _, g => g
  | .int _ _, _, g => g
  | .str _ _, _, g => g
  | .nil, _, g => g
  | .ptr i o, v, ⟨p, hp, hv⟩ => ⟨p, hρ i p hp, hv⟩
  | .slN, _, g => g
  | .sl i o n (.k c), v, ⟨p, hp, hv⟩ => ⟨p, hρ i p hp, hv⟩
  | .sl i o n (.u z), v, ⟨p, A, c, hp, hv⟩ => ⟨p, A, c, hρ i p hp, hv⟩
  | .fn k f c, v, ⟨f', c', hv, h1, h2⟩ => ⟨f', c', hv, RVs.shift hρ f _ h1, RVs.shift hρ c _ h2⟩
  | .nilF, _, g => g
  | .agg l, v, ⟨a, hv, h1, h2⟩ => ⟨a, hv, RVs.shift hρ l _ h1, by rw [shL_one]; exact h2⟩
  | .bag _ _, _, g => g
  | .tup l, v, ⟨a, hv, h1⟩ => ⟨a, hv, RVs.shift hρ l _ h1⟩
  | .ifc t a, v, ⟨u, hv, h1⟩ => ⟨u, hv, RV.shift hρ a u h1⟩
  | .nilI, _, g => g
  | .undef, _, g => g
  | .val _ _, _, g => g
  | .mp i, v, ⟨p, hp, hv⟩ => ⟨p, hρ i p hp, hv⟩
  | .nilM, _, g => g
theorem RVs.shift {ρ ρ' : Rho} {d : Nat} (hρ : ∀ i p, ρ i = some p → ρ' (shI d i) = some p) : ∀ (l : List AV) (vs : List Value), RVs ρ l vs → RVs ρ' (shL d l) vs
  | [], vs, h => h
  | x :: l, vs, ⟨v, us, e, h1, h2⟩ => ⟨v, us, e, RV.shift hρ x v h1, RVs.shift hρ l us h2⟩
end
theorem RowAt.shift {ρ ρ' : Rho} {d : Nat} (hρ : ∀ i p, ρ i = some p → ρ' (shI d i) = some p) {w : World} {p : Pl} {r : Row} (h : RowAt ρ w p r) : RowAt ρ' w p (shR d r) := by
  cases r with
  | cells e room l =>
    obtain ⟨arr, et, fr, h1, h2, h3, h4, h5, h6⟩ := h
    refine ⟨arr, et, fr, h1, h2, h3, by rw [shL_len]; exact h4, by rw [shL_len]; exact h5, fun k v hv => ?_⟩
    rw [shL_get] at hv
    obtain ⟨x, hx, rfl⟩ := Option.map_eq_some_iff.1 hv
    obtain ⟨g1, u, g2, g3⟩ := h6 k x hx
    exact ⟨by rw [shA_one]; exact g1, u, g2, RV.shift hρ x u g3⟩
  | bytes e room n c => exact h
  | dead => exact h
  | map l =>
    obtain ⟨es, clk, h1, h2, h3⟩ := h
    refine ⟨es, clk, h1, by rw [shP_len]; exact h2, fun k x hk => ?_⟩
    rw [shP_get] at hk
    obtain ⟨y, hy, rfl⟩ := Option.map_eq_some_iff.1 hk
    obtain ⟨e, g1, g2, g3⟩ := h3 k y hy
    exact ⟨e, g1, RV.shift hρ _ _ g2, RV.shift hρ _ _ g3⟩
  | iter n c k => exact h
end
/-! ### Calls that lay rows -/
section
variable {P : Program} {w : World} {s s' : S} {ρ : Rho} {r : AV}
structure EnR where
  k : Nat
  l : List AV
  r : AV
  rows : List (Nat × Row)
  cnt : Nat
/-- What such a call returns, and what it lays. -/
def KnownR (P : Program) (gs : List (Nat × Row)) (e : EnR) : Prop := closL e.l = true ∧ ∀ ρ w vs, Rel ρ ⟨setG gs, 1000⟩ w → RVs ρ e.l vs → CallOk P e.k ∧ Calls P e.k vs.toArray w (fun x w' => ∃ v ρ', x = .returned v ∧ RV ρ' e.r v ∧ Ext w w' ∧
  (∀ i p, ρ i = some p → ρ' i = some p) ∧ (∀ i p, ρ' i = some p → (ρ i = some p ∨ 1000 ≤ i) ∧ i < 1000 + e.cnt ∧ (1000 ≤ i → p.b < w'.heap.size)) ∧
  (∀ i x, (i, x) ∈ e.rows → 1000 ≤ i ∧ ∃ p, ρ' i = some p ∧ RowAt ρ' w' p x ∧ w.heap.size ≤ p.b) ∧ ∀ i j x y p q, (i, x) ∈ e.rows → (j, y) ∈ e.rows → ρ' i = some p → ρ' j = some q → p.b = q.b → i = j)
def noDead : List (Nat × Row) → Bool
  | [] => true
  | x :: l => and (not (Nat.blt x.1 1000)) (and (match x.2 with
    | .dead => false
    | _ => true) (noDead l))
theorem noDead_mem : ∀ {l : List (Nat × Row)}, noDead l = true → ∀ x ∈ l, 1000 ≤ x.1 ∧ x.2 ≠ .dead
  | [], _, x, hx => by cases hx
  | y :: l, h, x, hx => by
    rw [noDead, Bool.and_eq_true, Bool.and_eq_true, Bool.not_eq_true', blt_dec, decide_eq_false_iff_not] at h
    rcases List.mem_cons.1 hx with rfl | hx
    · refine ⟨by have := h.1; omega, fun e => ?_⟩
      have h1 := h.2.1
      rw [e] at h1
      cases h1
    · exact noDead_mem h.2.2 x hx
noncomputable def retR (r : R) (x : AV) (rows : List (Nat × Row)) (cnt : Nat) : Bool := match r with
  | some (v, s) => and (eqN x v) (and (hasR s rows) (Nat.ble s.nx (Nat.add 1000 cnt)))
  | none => false
theorem knownR_ev (hP : PrOk P) {sm : Nat → List AV → S → R} (hsm : CallS P sm) {n : Nat} {gs : List (Nat × Row)} (hgs : okL gs = true) {e : EnR} (hc : and (closL e.l) (noDead e.rows) = true) (hok : CallOk P e.k) (h : retR (ev P sm n e.k e.l ⟨setG gs, 1000⟩) e.r e.rows e.cnt = true) : KnownR P gs e := by
  rw [Bool.and_eq_true] at hc
  refine ⟨hc.1, fun ρ w vs hR hv => ⟨hok, ?_⟩⟩
  unfold retR at h
  split at h
  rotate_left
  · cases h
  rename_i v s' hs
  rw [Bool.and_eq_true, Bool.and_eq_true] at h
  obtain ⟨h1, h2, h3⟩ := h
  have hve := eqN_eq _ _ h1
  have h3 := Nat.le_of_ble_eq_true h3
  have hrows := hasR_mem h2
  rcases ev_callS hP hsm n _ _ _ _ s' hs ρ w vs hR hv with ⟨_, g⟩ | ⟨v, ρ', w', g, _⟩
  rotate_left
  · rw [run_callFunc hok] at g
    cases g
  refine Calls.mono g fun x w' hx => ?_
  obtain ⟨u, ρ', rfl, hr, G⟩ := hx
  have hlow : Low (⟨setG gs, 1000⟩ : S) := fun i r hi => (okL_mem hgs _ (setG_get hi)).1
  refine ⟨u, ρ', rfl, by rw [hve]; exact hr, G.toExt hR hlow, G.ext, fun i p hp => ⟨G.fresh i p hp, ?_, (G.rel.nx i p hp).2⟩, fun i y hy => ?_, fun i j y z p q hi hj hp hq hb => ?_⟩
  · have := (G.rel.nx i p hp).1
    show i < 1000 + e.cnt
    have h3' : s'.nx ≤ 1000 + e.cnt := h3
    omega
  · obtain ⟨g1, g2⟩ := noDead_mem hc.2 _ hy
    obtain ⟨p, hp, hra⟩ := G.rel.row i y (hrows _ hy) g2
    refine ⟨g1, p, hp, hra, Nat.le_of_not_lt fun hlt => ?_⟩
    have ho : Own ρ ⟨setG gs, 1000⟩ p.b := G.own p.b hlt ⟨i, y, p, hrows _ hy, g2, hp, rfl⟩
    obtain ⟨j, z, q, hj, hd, hq, hb⟩ := ho
    have hjl := hlow j z hj
    have hj' : s'.h.get j = some z := by rw [G.gh j hjl]; exact hj
    have := G.rel.inj j i z y q p hj' hd (hrows _ hy) g2 (G.ext j q hq) hp hb
    have g1' : 1000 ≤ i := g1
    omega
  · exact G.rel.inj i j y z p q (hrows _ hi) (noDead_mem hc.2 _ hi).2 (hrows _ hj) (noDead_mem hc.2 _ hj).2 hp hq hb
noncomputable def setS (d : Nat) : List (Nat × Row) → T Row → T Row
  | [], h => h
  | x :: l, h => setS d l (h.set (Nat.add x.1 d) (shR d x.2))
theorem setS_get {d : Nat} : ∀ {l : List (Nat × Row)} {h : T Row} {i : Nat} {r : Row}, (setS d l h).get i = some r → (∃ j x, (j, x) ∈ l ∧ i = j + d ∧ r = shR d x) ∨ h.get i = some r
  | [], h, i, r, hg => .inr hg
  | (j, x) :: l, h, i, r, hg => by
    rw [setS] at hg
    rcases setS_get hg with ⟨j', x', h1, h2, h3⟩ | hg
    · exact .inl ⟨j', x', List.mem_cons_of_mem _ h1, h2, h3⟩
    · rcases T.get_set hg with ⟨h1, h2⟩ | ⟨_, h⟩
      · exact .inl ⟨j, x, List.mem_cons_self, h1, h2⟩
      · exact .inr h
theorem setS_low {d : Nat} {g : Nat} : ∀ {l : List (Nat × Row)} {h : T Row}, (∀ x ∈ l, x.1 + d ≠ g) → (setS d l h).get g = h.get g
  | [], h, _ => rfl
  | (j, x) :: l, h, hne => by
    rw [setS, setS_low fun y hy => hne y (List.mem_cons_of_mem _ hy)]
    exact T.get_set_ne _ _ (Ne.symm (hne _ List.mem_cons_self))
def findR : List EnR → Nat → List AV → Option EnR
  | [], _, _ => none
  | e :: l, k, a => bif and (Nat.beq e.k k) (eqAL e.l a) then some e else findR l k a
theorem findR_mem : ∀ {tab : List EnR} {k : Nat} {a : List AV} {e : EnR}, findR tab k a = some e → e ∈ tab ∧ e.k = k ∧ e.l = a
  | [], _, _, _, h => by cases h
  | e :: l, k, a, e', h => by
    rw [findR] at h
    cases hc : and (Nat.beq e.k k) (eqAL e.l a) with
    | true =>
      rw [hc] at h
      injection h with h
      subst h
      rw [Bool.and_eq_true] at hc
      exact ⟨List.mem_cons_self, Nat.eq_of_beq_eq_true hc.1, eqAL_eq hc.2⟩
    | false =>
      rw [hc] at h
      obtain ⟨h1, h2⟩ := findR_mem h
      exact ⟨List.mem_cons_of_mem _ h1, h2⟩
noncomputable def smR (gs : List (Nat × Row)) (tab : List EnR) (k : Nat) (l : List AV) (s : S) : R := (findR tab k l).bind fun e => bif and (okG s gs) (Nat.ble 1000 s.nx) then some (shA (Nat.sub s.nx 1000) e.r, ⟨setS (Nat.sub s.nx 1000) e.rows s.h, Nat.add s.nx e.cnt⟩) else none
theorem smR_ok {gs : List (Nat × Row)} (hgs : okL gs = true) {tab : List EnR} (ht : ∀ e ∈ tab, KnownR P gs e) : CallS P (smR gs tab) := by
  intro k l s r s' h ρ w vs hl hv
  simp only [smR, Option.bind_eq_some_iff] at h
  obtain ⟨e, he, h⟩ := h
  cases hg : and (okG s gs) (Nat.ble 1000 s.nx) with
  | false => rw [hg] at h; cases h
  | true =>
  rw [hg] at h
  injection h with h
  injection h with e1 e2
  subst e1 e2
  rw [Bool.and_eq_true] at hg
  obtain ⟨hg, _⟩ := hg
  obtain ⟨hmem, rfl, rfl⟩ := findR_mem he
  obtain ⟨c1, c2⟩ := ht e hmem
  have hlo := hl.lo
  obtain ⟨d, hd⟩ : ∃ d, d = Nat.sub s.nx 1000 := ⟨_, rfl⟩
  have hd' : s.nx = 1000 + d := by rw [hd]; show s.nx = 1000 + (s.nx - 1000); omega
  rw [← hd]
  obtain ⟨g1, g2⟩ := c2 ρ.low w vs (rel_low hgs hg hl) (clos_rvs c1 hv)
  refine .inl ⟨g1, Calls.mono g2 fun y w' hy => ?_⟩
  obtain ⟨v, ρ', rfl, hr, hE, x1, x2, x3, x4⟩ := hy
  obtain ⟨ρ2, hρ2⟩ : ∃ ρ2 : Rho, ρ2 = fun i => if i < s.nx then ρ i else ρ' (i - d) := ⟨_, rfl⟩
  have old : ∀ i, i < s.nx → ρ2 i = ρ i := fun i hi => by rw [hρ2]; exact if_pos hi
  have new : ∀ i, s.nx ≤ i → ρ2 i = ρ' (i - d) := fun i hi => by rw [hρ2]; exact if_neg (by omega)
  have hxx : ∀ i p, ρ i = some p → ρ2 i = some p := fun i p hp => by rw [old i (hl.nx i p hp).1]; exact hp
  have low : ∀ i p, i < 1000 → ρ' i = some p → ρ i = some p := fun i p hi hp => by
    rcases (x2 i p hp).1 with h | h
    · have : ρ.low i = ρ i := if_pos hi
      rw [← this]; exact h
    · omega
  have hsh : ∀ i p, ρ' i = some p → ρ2 (shI d i) = some p := fun i p hp => by
    unfold shI
    rw [cblt]
    split
    · rename_i hi
      exact hxx i p (low i p hi hp)
    · rename_i hi
      show ρ2 (i + d) = some p
      rw [new _ (by omega), Nat.add_sub_cancel]
      exact hp
  have ids : ∀ j x, (j, x) ∈ e.rows → 1000 ≤ j := fun j x hx => (x3 j x hx).1
  have hrow : ∀ i q, (setS d e.rows s.h).get i = some q → (∃ j x, (j, x) ∈ e.rows ∧ i = j + d ∧ q = shR d x) ∨ s.h.get i = some q := fun i q h => setS_get h
  have newp : ∀ j x p, (j, x) ∈ e.rows → ρ2 (j + d) = some p → ρ' j = some p := fun j x p hx hp => by
    rw [new _ (by have := ids j x hx; omega), Nat.add_sub_cancel] at hp
    exact hp
  have oldp : ∀ i q p, s.h.get i = some q → q ≠ .dead → ρ2 i = some p → ρ i = some p ∧ p.b < w.heap.size := fun i q p hi hdd hp => by
    obtain ⟨p', hp', hra⟩ := hl.row i q hi hdd
    rw [hxx i p' hp'] at hp
    injection hp with hp
    subst hp
    exact ⟨hp', hra.lt⟩
  have hrel : Rel ρ2 ⟨setS d e.rows s.h, s.nx + e.cnt⟩ w' := by
    refine ⟨fun i q hi hdd => ?_, fun i j q t p p' hi hdi hj hdj hp hp' hb => ?_, fun i p hp => ?_, fun g hg' => ?_, by show 1000 ≤ s.nx + e.cnt; omega⟩
    · rcases hrow i q hi with ⟨j, x, hx, rfl, rfl⟩ | hi
      · obtain ⟨k1, p, hp, hra, _⟩ := x3 j x hx
        exact ⟨p, by rw [new _ (by omega), Nat.add_sub_cancel]; exact hp, RowAt.shift hsh hra⟩
      · obtain ⟨p, hp, hra⟩ := hl.row i q hi hdd
        exact ⟨p, hxx i p hp, hra.keep hxx (hE.block p.b hra.lt)⟩
    · rcases hrow i q hi with ⟨a, x, ha, rfl, rfl⟩ | hi <;> rcases hrow j t hj with ⟨b, y, hb2, rfl, rfl⟩ | hj
      · rw [x4 a b x y p p' ha hb2 (newp a x p ha hp) (newp b y p' hb2 hp') hb]
      · obtain ⟨_, p0, hp0, _, hge⟩ := x3 a x ha
        have := newp a x p ha hp
        rw [hp0] at this
        injection this with this
        subst this
        have := (oldp j t p' hj hdj hp').2
        omega
      · obtain ⟨_, p0, hp0, _, hge⟩ := x3 b y hb2
        have := newp b y p' hb2 hp'
        rw [hp0] at this
        injection this with this
        subst this
        have := (oldp i q p hi hdi hp).2
        omega
      · exact hl.inj i j q t p p' hi hdi hj hdj (oldp i q p hi hdi hp).1 (oldp j t p' hj hdj hp').1 hb
    · show i < s.nx + e.cnt ∧ _
      by_cases hi : i < s.nx
      · rw [old i hi] at hp
        exact ⟨by omega, fun h => Nat.lt_of_lt_of_le ((hl.nx i p hp).2 h) hE.size⟩
      · rw [new i (by omega)] at hp
        obtain ⟨_, k2, k3⟩ := x2 (i - d) p hp
        exact ⟨by omega, fun _ => k3 (by omega)⟩
    · obtain ⟨sz, h⟩ := hl.gl g hg'
      exact ⟨sz, hxx g _ h⟩
  refine ⟨v, ρ2, rfl, RV.shift hsh e.r v hr, ⟨hxx, by show s.nx ≤ s.nx + e.cnt; omega, hE.size, hE.os, hE.tape, hE.output, fun b hb ho => ?_, fun b hb _ => hE.block b hb, hrel, fun i p hp => ?_, fun g hg' => ?_, fun g q hg' hq hdd => hE.block g (hl.glt hg' hq hdd)⟩⟩
  · obtain ⟨i, q, p, hi, hdd, hp, rfl⟩ := ho
    rcases hrow i q hi with ⟨j, x, hx, rfl, rfl⟩ | hi
    · obtain ⟨_, p0, hp0, _, hge⟩ := x3 j x hx
      have := newp j x p hx hp
      rw [hp0] at this
      injection this with this
      subst this
      omega
    · exact ⟨i, q, p, hi, hdd, (oldp i q p hi hdd hp).1, rfl⟩
  · by_cases hi : i < s.nx
    · rw [old i hi] at hp
      exact .inl hp
    · exact .inr (by omega)
  · exact setS_low fun x hx => by have := ids x.1 x.2 hx; omega
/-! ### States written down -/
noncomputable def hasF (f : F) : List (Nat × AV) → Bool
  | [] => true
  | x :: l => and (match f.get x.1 with
    | some v => eqN x.2 v
    | none => false) (hasF f l)
theorem hasF_mem {f : F} {l : List (Nat × AV)} (h : hasF f l = true) : ∀ x ∈ l, f.get x.1 = some x.2 := by
  induction l with
  | nil => intro x hx; cases hx
  | cons y l ih =>
    rw [hasF, Bool.and_eq_true] at h
    intro x hx
    rcases List.mem_cons.1 hx with rfl | hx
    · have h1 := h.1
      split at h1
      · rename_i v hv
        rw [hv, eqN_eq _ _ h1]
      · cases h1
    · exact ih h.2 x hx
noncomputable def setF : List (Nat × AV) → F
  | [] => T.full 9
  | x :: l => (setF l).set x.1 x.2
theorem setF_get : ∀ {l : List (Nat × AV)} {t : Nat} {v : AV}, (setF l).get t = some v → (t, v) ∈ l
  | [], t, v, h => by rw [setF, T.get_full] at h; cases h
  | x :: l, t, v, h => by
    rw [setF] at h
    rcases T.get_set h with ⟨rfl, rfl⟩ | ⟨_, h⟩
    · exact List.mem_cons_self
    · exact List.mem_cons_of_mem _ (setF_get h)
noncomputable def snapE (r : RC) (fl : List (Nat × AV)) (rows : List (Nat × Row)) (nx : Nat) : Bool := match r with
  | some (.norm, f, s) => and (hasF f fl) (and (hasR s rows) (Nat.beq s.nx nx))
  | _ => false
theorem snapE_some {r : RC} {fl : List (Nat × AV)} {rows : List (Nat × Row)} {nx : Nat} (h : snapE r fl rows nx = true) : ∃ f s, r = some (.norm, f, s) ∧ (∀ t v, (setF fl).get t = some v → f.get t = some v) ∧ (∀ i x, (setG rows).get i = some x → s.h.get i = some x) ∧ s.nx = nx := by
  unfold snapE at h
  split at h
  · rename_i f s
    rw [Bool.and_eq_true, Bool.and_eq_true] at h
    exact ⟨f, s, rfl, fun t v hv => hasF_mem h.1 _ (setF_get hv), fun i x hx => hasR_mem h.2.1 _ (setG_get hx), Nat.eq_of_beq_eq_true h.2.2⟩
  · cases h
theorem Rel.part {s2 : S} (h : Rel ρ s w) (hg : ∀ i x, s2.h.get i = some x → s.h.get i = some x) (hn : s2.nx = s.nx) : Rel ρ s2 w :=
  ⟨fun i r hi hd => h.row i r (hg i r hi) hd, fun i j r q p p' hi hdi hj hdj => h.inj i j r q p p' (hg i r hi) hdi (hg j q hj) hdj, fun i p hp => by rw [hn]; exact h.nx i p hp, h.gl, by rw [hn]; exact h.lo⟩
/-- **A state is written down, and gone on from.** What had been there at first (W) is as it was. -/
theorem snap_run (hP : PrOk P) {sm : Nat → List AV → S → R} (hsm : CallS P sm) {n N : Nat} {c : Code} {f : F} {fl : List (Nat × AV)} {rows : List (Nat × Row)} {nx : Nat} (h : snapE (run P sm n N c f s) fl rows nx = true) {a : Act} (hF : FR N ρ f a) (hR : Rel ρ s w) {Q : Exit → Act → World → Prop}
    (hQ : ∀ a' w' ρ', FR N ρ' (setF fl) a' → Goes ρ s w ρ' ⟨(match run P sm n N c f s with | some (_, _, s') => s'.h | none => s.h), nx⟩ w' → Rel ρ' ⟨setG rows, nx⟩ w' → Q .normal a' w') : c.wp P Q a w := by
  obtain ⟨f', s', hr, h1, h2, h3⟩ := snapE_some h
  refine (run_ok hP hsm n).1 N c f s .norm f' s' hr ρ a w hR hF _ fun a' w' ρ' g1 g2 => ?_
  refine hQ a' w' ρ' ⟨g1.size, g1.dfs, fun t v hv => g1.get t v (h1 t v hv)⟩ ?_ (g2.rel.part h2 h3.symm)
  rw [hr]
  have : (⟨s'.h, nx⟩ : S) = s' := by rw [← h3]
  simp only [this]
  exact g2
end
end Go.Ev
namespace Go.Ev
open Go Go.Fw

section
variable {P : Program} {w W : World} {s s' : S} {ρ ρ' : Rho}
/-! ### Piece by piece -/
/-- What was there (W) is as it was; of it package variables alone are known. -/
structure Safe (W : World) (ρ : Rho) (s : S) (w : World) : Prop where
  ext : Ext W w
  low : ∀ b, b < W.heap.size → Own ρ s b → ∃ g r, g < 1000 ∧ s.h.get g = some r ∧ r ≠ .dead ∧ b = g
theorem Safe.goes {w' : World} (h : Safe W ρ s w) (G : Goes ρ s w ρ' s' w') : Safe W ρ' s' w' := by
  refine ⟨⟨G.os.trans h.ext.os, G.tape.trans h.ext.tape, G.output.trans h.ext.output, Nat.le_trans h.ext.size G.size, fun b hb => ?_⟩, fun b hb ho => ?_⟩
  · have hb' : b < w.heap.size := Nat.lt_of_lt_of_le hb h.ext.size
    by_cases ho : Own ρ s b
    · obtain ⟨g, r, h1, h2, h3, rfl⟩ := h.low b hb ho
      exact (G.gk b r h1 h2 h3).trans (h.ext.block b hb)
    · exact (G.keep b hb' ho).trans (h.ext.block b hb)
  · obtain ⟨g, r, h1, h2, h3, rfl⟩ := h.low b hb (G.own b (Nat.lt_of_lt_of_le hb h.ext.size) ho)
    exact ⟨b, r, h1, by rw [G.gh b h1]; exact h2, h3, rfl⟩
theorem Safe.part {s2 : S} (h : Safe W ρ s w) (hR : Rel ρ s w) (hg : ∀ i x, s2.h.get i = some x → s.h.get i = some x) : Safe W ρ s2 w := by
  refine ⟨h.ext, fun b hb ho => ?_⟩
  obtain ⟨i, r, p, hi, hd, hp, rfl⟩ := ho
  obtain ⟨g, q, h1, h2, h3, h4⟩ := h.low p.b hb ⟨i, r, p, hg i r hi, hd, hp, rfl⟩
  obtain ⟨sz, hz⟩ := hR.gl g h1
  have := hR.inj i g r q p ⟨g, 0, sz⟩ (hg i r hi) hd h2 h3 hp hz h4
  subst this
  exact ⟨i, r, h1, hi, hd, h4⟩
theorem Safe.start (hR : Rel ρ s w) (hl : Low s) (hx : Ext W w) : Safe W ρ s w := by
  refine ⟨hx, fun b hb ho => ?_⟩
  obtain ⟨i, r, p, hi, hd, hp, rfl⟩ := ho
  have h1 := hl i r hi
  obtain ⟨sz, hz⟩ := hR.gl i h1
  rw [hp] at hz
  injection hz with hz
  subst hz
  exact ⟨i, r, h1, hi, hd, rfl⟩
/-- Codes, one behind the other. -/
noncomputable def runL (P : Program) (sm : Nat → List AV → S → R) (n N : Nat) : List Code → F → S → Option (F × S)
  | [], f, s => some (f, s)
  | c :: l, f, s => match run P sm n N c f s with
    | some (.norm, f, s) => runL P sm n N l f s
    | _ => none
theorem runL_wp (hP : PrOk P) {sm : Nat → List AV → S → R} (hsm : CallS P sm) {n N : Nat} {Q : Exit → Act → World → Prop} {rest : Code} : ∀ {cs : List Code} {f f' : F} {s s' : S}, runL P sm n N cs f s = some (f', s') → ∀ {ρ : Rho} {a : Act} {w : World}, FR N ρ f a → Rel ρ s w → (∀ a' w' ρ', FR N ρ' f' a' → Goes ρ s w ρ' s' w' → rest.wp P Q a' w') → (cs.foldr Code.seq rest).wp P Q a w
  | [], f, f', s, s', h, ρ, a, w, hF, hR, hQ => by
    simp only [runL, Option.some.injEq, Prod.mk.injEq] at h
    obtain ⟨rfl, rfl⟩ := h
    exact hQ a w ρ hF (Goes.refl hR)
  | c :: l, f, f', s, s', h, ρ, a, w, hF, hR, hQ => by
    rw [runL] at h
    split at h
    · rename_i f1 s1 hr
      refine wp_seq ((run_ok hP hsm n).1 N c f s .norm f1 s1 hr ρ a w hR hF _ fun a' w' ρ' g1 g2 => ?_)
      exact runL_wp hP hsm h g1 g2.rel fun a2 w2 ρ2 g3 g4 => hQ a2 w2 ρ2 g3 (g2.trans g4)
    · cases h
/-- What is written down of the end: some slots and rows that are these, the next number, and some slots as they are. -/
noncomputable def snapL (r : Option (F × S)) (fl : List (Nat × AV)) (rows : List (Nat × Row)) (nx : Nat) (ts : List Nat) : Bool × List (Option AV) := match r with
  | some (f, s) => (and (hasF f fl) (and (hasR s rows) (Nat.beq s.nx nx)), ts.map f.get)
  | none => (false, [])
theorem zip_get {g : Nat → Option AV} : ∀ {ts : List Nat} {vs : List AV}, ts.map g = vs.map some → ∀ {t : Nat} {v : AV}, (t, v) ∈ ts.zip vs → g t = some v
  | [], _, _, t, v, h => by simp at h
  | _ :: _, [], _, t, v, h => by simp at h
  | a :: ts, b :: vs, e, t, v, h => by
    rw [List.map_cons, List.map_cons] at e
    injection e with e1 e2
    rw [List.zip_cons_cons] at h
    rcases List.mem_cons.1 h with h | h
    · injection h with h1 h2
      subst h1 h2
      exact e1
    · exact zip_get e2 h
theorem setG_app {gl rows : List (Nat × Row)} {i : Nat} {x : Row} (h : (setG (gl ++ rows)).get i = some x) : (i, x) ∈ gl ∨ (i, x) ∈ rows := List.mem_append.1 (setG_get h)
theorem snapL_run (hP : PrOk P) {sm : Nat → List AV → S → R} (hsm : CallS P sm) {n N : Nat} {cs : List Code} {f : F} {fl : List (Nat × AV)} {gl rows : List (Nat × Row)} (hgl : ∀ x ∈ gl, x.1 < 1000 ∧ s.h.get x.1 = some x.2) {nx : Nat} {ts : List Nat} {vs : List AV} (h : snapL (runL P sm n N cs f s) fl rows nx ts = (true, vs.map some)) {a : Act} (hF : FR N ρ f a) (hR : Rel ρ s w) (hS : Safe W ρ s w) {Q : Exit → Act → World → Prop} {rest : Code}
    (hQ : ∀ a' w' ρ', FR N ρ' (setF (ts.zip vs ++ fl)) a' → Rel ρ' ⟨setG (gl ++ rows), nx⟩ w' → Safe W ρ' ⟨setG (gl ++ rows), nx⟩ w' → rest.wp P Q a' w') : (cs.foldr Code.seq rest).wp P Q a w := by
  unfold snapL at h
  split at h
  rotate_left
  · cases h
  rename_i f' s' hr
  simp only [Prod.mk.injEq] at h
  obtain ⟨h1, h2⟩ := h
  rw [Bool.and_eq_true, Bool.and_eq_true] at h1
  obtain ⟨k1, k2, k3⟩ := h1
  have k3 := Nat.eq_of_beq_eq_true k3
  have hrow : ∀ {ρ' : Rho} {w' : World}, Goes ρ s w ρ' s' w' → ∀ i x, (setG (gl ++ rows)).get i = some x → s'.h.get i = some x := fun g2 i x hx => by
    rcases setG_app hx with hx | hx
    · obtain ⟨e1, e2⟩ := hgl _ hx
      rw [g2.gh i e1]
      exact e2
    · exact hasR_mem k2 _ hx
  refine runL_wp hP hsm hr hF hR fun a' w' ρ' g1 g2 => hQ a' w' ρ' ⟨g1.size, g1.dfs, fun t v hv => g1.get t v ?_⟩ (g2.rel.part (s2 := ⟨setG (gl ++ rows), nx⟩) (hrow g2) k3.symm) ((hS.goes g2).part g2.rel (hrow g2))
  rcases List.mem_append.1 (setF_get hv) with hm | hm
  · exact zip_get h2 hm
  · exact hasF_mem k1 _ hm
/-- The rest of a function, from any such state. -/
theorem tail_safe (hP : PrOk P) {sm : Nat → List AV → S → R} (hsm : CallS P sm) {n N : Nat} {fn : Func} {c : Code} {f : F} (h : okE (endC P fn (run P sm n N c f s)) = true) {a : Act} (hF : FR N ρ f a) (hR : Rel ρ s w) (hS : Safe W ρ s w) :
    c.wp P (bodyPost P fn (fun e w' => e = .returned (.bool true) ∧ Ext W w')) a w := by
  obtain ⟨s', hs⟩ := okE_some h
  simp only [endC, Option.bind_eq_some_iff] at hs
  obtain ⟨⟨e, f1, s1⟩, hrun, hs⟩ := hs
  have fin : (resA P f1 s1 fn.results.toList).bind (fun l => some (wrapR l, s1)) = some (.bool true, s') → (∀ i, e ≠ .exit i) → c.wp P (bodyPost P fn (fun e w' => e = .returned (.bool true) ∧ Ext W w')) a w := fun hs hne => by
    simp only [Option.bind_eq_some_iff, Option.some.injEq, Prod.mk.injEq] at hs
    obtain ⟨l, hl', hw, rfl⟩ := hs
    refine (run_ok hP hsm n).1 N c f s e f1 s1 hrun ρ a w hR hF _ fun a' w' ρ' g1 g2 => ?_
    obtain ⟨v, g3, g4⟩ := results_run g1 g2.rel hl'
    rw [hw] at g4
    have hv : v = .bool true := g4
    subst hv
    have hxx : Ext W w' := (hS.goes g2).ext
    cases e with
    | norm => exact ⟨g1.dfs, _, g3, rfl, hxx⟩
    | ret => exact ⟨g1.dfs, _, g3, rfl, hxx⟩
    | exit i => exact absurd rfl (hne i)
  cases e with
  | exit i => cases hs
  | norm => exact fin hs (by intro i h; cases h)
  | ret => exact fin hs (by intro i h; cases h)
end
end Go.Ev
