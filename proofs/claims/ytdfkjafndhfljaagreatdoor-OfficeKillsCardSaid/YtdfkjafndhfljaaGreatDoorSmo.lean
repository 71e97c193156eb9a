/- What is proved: the summaries of library functions hold of this program: searches in strings, sync.Once, atomics, marks; strings.Index's numbers. -/
import Derived.Test.YtdfkjafndhfljaaGreatDoorGlb
import Derived.Test.YtdfkjafndhfljaaGreatDoorOnc2
import Derived.Shelf.Strings.Search2
set_option linter.unusedVariables false
set_option linter.unusedSimpArgs false
namespace Go.Proofs.YtdfkjafndhfljaaGreatDoor
open Go Go.RowKit Go.Fw Go.Ev Go.Shelf

def tX (k : Nat) : Nat := bif Nat.beq k 286 then 1 else bif Nat.beq k 404 then 2 else bif Nat.beq k 406 then 2 else bif Nat.beq k 407 then 3 else bif Nat.beq k 409 then 3 else bif Nat.beq k 373 then 4 else bif Nat.beq k 395 then 5 else bif Nat.beq k 405 then 6 else bif Nat.beq k 410 then 7 else 0
theorem tX_inv {k n : Nat} (h : tX k = n) (hn : n ≠ 0) : (k = 286 ∧ n = 1) ∨ (k = 404 ∧ n = 2) ∨ (k = 406 ∧ n = 2) ∨ (k = 407 ∧ n = 3) ∨ (k = 409 ∧ n = 3) ∨ (k = 373 ∧ n = 4) ∨ (k = 395 ∧ n = 5) ∨ (k = 405 ∧ n = 6) ∨ (k = 410 ∧ n = 7) := by
  unfold tX at h
  simp only [cbeq] at h
  split at h
  · omega
  split at h
  · omega
  split at h
  · omega
  split at h
  · omega
  split at h
  · omega
  split at h
  · omega
  split at h
  · omega
  split at h
  · omega
  split at h
  · omega
  · exact absurd h.symm hn
theorem exF {k : Nat} {g : Array Value → Sem Value} {fn : Func} (h1 : Tryz.prog.funcs[k]? = some fn) (h2 : (fn.name == "runtime.NumGoroutine") = false) (h3 : fn.body.isNone = true) (h4 : Extern.findNext fn = none) (h5 : Extern.find fn = some g) : ExF Tryz.prog k g := ⟨⟨fn, h1, h2, h3, h4, h5⟩⟩
theorem tabX : TabOk Tryz.prog tX := by
  refine ⟨fun k h => ?_, fun k h => ?_, fun k h => ?_, fun k h => ?_, fun k h => ?_, fun k h => ?_, fun k h => ?_⟩
  · obtain rfl : k = 286 := by have := tX_inv h (by decide); omega
    exact exF Tryz.func286 (by kernel_rfl) (by kernel_rfl) (by kernel_rfl) (by kernel_rfl)
  · have : k = 404 ∨ k = 406 := by have := tX_inv h (by decide); omega
    rcases this with rfl | rfl
    · exact ⟨.disable, exF Tryz.func404 (by kernel_rfl) (by kernel_rfl) (by kernel_rfl) (by kernel_rfl)⟩
    · exact ⟨.enable, exF Tryz.func406 (by kernel_rfl) (by kernel_rfl) (by kernel_rfl) (by kernel_rfl)⟩
  · have : k = 407 ∨ k = 409 := by have := tX_inv h (by decide); omega
    rcases this with rfl | rfl
    · exact ⟨.acquire, exF Tryz.func407 (by kernel_rfl) (by kernel_rfl) (by kernel_rfl) (by kernel_rfl)⟩
    · exact ⟨.releaseMerge, exF Tryz.func409 (by kernel_rfl) (by kernel_rfl) (by kernel_rfl) (by kernel_rfl)⟩
  · obtain rfl : k = 373 := by have := tX_inv h (by decide); omega
    exact exF Tryz.func373 (by kernel_rfl) (by kernel_rfl) (by kernel_rfl) (by kernel_rfl)
  · obtain rfl : k = 395 := by have := tX_inv h (by decide); omega
    exact exF Tryz.func395 (by kernel_rfl) (by kernel_rfl) (by kernel_rfl) (by kernel_rfl)
  · obtain rfl : k = 405 := by have := tX_inv h (by decide); omega
    exact exF Tryz.func405 (by kernel_rfl) (by kernel_rfl) (by kernel_rfl) (by kernel_rfl)
  · obtain rfl : k = 410 := by have := tX_inv h (by decide); omega
    exact exF Tryz.func410 (by kernel_rfl) (by kernel_rfl) (by kernel_rfl) (by kernel_rfl)
/-- The shelf's numbers. -/
def renO : Ren := ⟨fun k => bif Nat.beq k 217 then 126 else bif Nat.beq k 219 then 80 else bif Nat.beq k 224 then 129 else bif Nat.beq k 225 then 128 else bif Nat.beq k 266 then 211 else bif Nat.beq k 267 then 130 else bif Nat.beq k 314 then 212 else 0,
  fun k => bif Nat.beq k 3 then 3 else bif Nat.beq k 4 then 4 else bif Nat.beq k 5 then 5 else bif Nat.beq k 9 then 9 else bif Nat.beq k 46 then 201 else bif Nat.beq k 51 then 199 else bif Nat.beq k 146 then 296 else 0, fun k => bif Nat.beq k 1 then 0 else 0⟩
theorem lays219 : Lays.n219 Tryz.prog renO :=
  have t3 : Tryz.prog.underlying (renO.t 3) = some (.int .i64) := by kernel_rfl
  have t4 : Tryz.prog.underlying (renO.t 4) = some .bool := by kernel_rfl
  have t5 : Tryz.prog.underlying (renO.t 5) = some (.int .u8) := by kernel_rfl
  have t9 : Tryz.prog.underlying (renO.t 9) = some .string := by kernel_rfl
  have t46 : Tryz.prog.underlying (renO.t 46) = some (.int .u64) := by kernel_rfl
  have t51 : Tryz.prog.underlying (renO.t 51) = some (.int .u32) := by kernel_rfl
  have t146 : Tryz.prog.underlying (renO.t 146) = some (.tuple #[renO.t 51, renO.t 51]) := by kernel_rfl
  have zz : ∀ (t : Nat) (v : Value), (Tryz.prog.info? t).bind (·.zero) = some v → ∀ w, (zeroValue t).run Tryz.prog w = .ok v w := fun t v h w => by
    cases hi : Tryz.prog.info? t with
    | none => rw [hi] at h; cases h
    | some i =>
      rw [hi] at h
      have h : i.zero = some v := h
      simp [zeroValue, typeInfo, hi, h]
  { mixed := by kernel_rfl
    f217 := by kernel_rfl
    f219 := by kernel_rfl
    f224 := by kernel_rfl
    f225 := by kernel_rfl
    f266 := by kernel_rfl
    f267 := by kernel_rfl
    f314 := by kernel_rfl
    t3 := t3
    a3 := run_isAgg_plain t3 rfl
    z3 := Fw.run_sizeOf (by kernel_rfl)
    v3 := zz _ _ (by kernel_rfl)
    t4 := t4
    a4 := run_isAgg_plain t4 rfl
    z4 := Fw.run_sizeOf (by kernel_rfl)
    v4 := zz _ _ (by kernel_rfl)
    t5 := t5
    a5 := run_isAgg_plain t5 rfl
    z5 := Fw.run_sizeOf (by kernel_rfl)
    v5 := zz _ _ (by kernel_rfl)
    t9 := t9
    a9 := run_isAgg_plain t9 rfl
    z9 := Fw.run_sizeOf (by kernel_rfl)
    v9 := zz _ _ (by kernel_rfl)
    t46 := t46
    a46 := run_isAgg_plain t46 rfl
    z46 := Fw.run_sizeOf (by kernel_rfl)
    v46 := zz _ _ (by kernel_rfl)
    t51 := t51
    a51 := run_isAgg_plain t51 rfl
    z51 := Fw.run_sizeOf (by kernel_rfl)
    v51 := zz _ _ (by kernel_rfl)
    t146 := t146
    a146 := run_isAgg_plain t146 rfl
    z146 := Fw.run_sizeOf (by kernel_rfl)
    v146 := zz _ _ (by kernel_rfl)
    g1 := by kernel_rfl }
def tT (k : Nat) : Nat := bif Nat.beq k 80 then 3 else bif Nat.beq k 211 then 1 else bif Nat.beq k 459 then 2 else 0
theorem tT_inv {k n : Nat} (h : tT k = n) (hn : n ≠ 0) : (k = 80 ∧ n = 3) ∨ (k = 211 ∧ n = 1) ∨ (k = 459 ∧ n = 2) := by
  unfold tT at h
  simp only [cbeq] at h
  split at h
  · omega
  split at h
  · omega
  split at h
  · omega
  · exact absurd h.symm hn
theorem Tryz.okIndex : CallOk Tryz.prog 80 := ⟨_, Tryz.func80, by kernel_rfl, by kernel_rfl⟩
theorem tabT : TabT Tryz.prog 0 tT := by
  refine ⟨fun k h => ?_, fun k h => ?_, fun k h => ?_, by decide⟩
  · obtain rfl : k = 211 := by have := tT_inv h (by decide); omega
    exact exF Tryz.func211 (by kernel_rfl) (by kernel_rfl) (by kernel_rfl) (by kernel_rfl)
  · obtain rfl : k = 459 := by have := tT_inv h (by decide); omega
    exact exF Tryz.func459 (by kernel_rfl) (by kernel_rfl) (by kernel_rfl) (by kernel_rfl)
  · obtain rfl : k = 80 := by have := tT_inv h (by decide); omega
    exact ⟨Tryz.okIndex, fun s sub m w hs hm => Any.stringslite_Index lays219 s sub m w hs hm⟩
theorem Tryz.okDo : CallOk Tryz.prog 287 := ⟨_, Tryz.func287, by kernel_rfl, by kernel_rfl⟩
theorem Tryz.okBO : CallOk Tryz.prog 288 := ⟨_, Tryz.func288, by kernel_rfl, by kernel_rfl⟩
theorem doS : DoS Tryz.prog 287 288 := fun b off rp w h0 h1 f0 f1 R hcl hR => onc_do b off rp w h0 h1 f0 f1 hcl hR
/-- The library's functions. -/
noncomputable def smA : Nat → List AV → S → R := smOr (smX tX) (smT 0 tT)
theorem smA_ok : CallS Tryz.prog smA := smOr_ok (smX_ok tabX) (smT_ok tabT)
noncomputable def smL : Nat → List AV → S → R := smOr smA (smDo Tryz.prog 287 288 smA 100000)
theorem smL_ok : CallS Tryz.prog smL := smOr_ok smA_ok (smDo_ok prOk smA_ok doS Tryz.okDo Tryz.okBO 100000)
end Go.Proofs.YtdfkjafndhfljaaGreatDoor
