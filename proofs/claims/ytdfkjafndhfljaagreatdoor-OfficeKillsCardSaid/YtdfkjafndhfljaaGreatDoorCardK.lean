/- What is proved: the card of the law OfficeKills: it returns true at every input, and the input reads as it did, where the listed tables hold what the program's text lays there (tied fact by fact). No further condition. -/
import Derived.Test.YtdfkjafndhfljaaGreatDoorRows
import Derived.Test.YtdfkjafndhfljaaGreatDoorCards
import Derived.Test.YtdfkjafndhfljaaGreatDoorTieK
import Derived.Test.YtdfkjafndhfljaaGreatDoorZ1
import Derived.Test.YtdfkjafndhfljaaGreatDoorShp
import Derived.Test.YtdfkjafndhfljaaGreatDoorLawK
import Derived.Test.YtdfkjafndhfljaaGreatDoorJntK
import Derived.Test.YtdfkjafndhfljaaGreatDoorCfK
import Derived.SevenTiedAt
import Derived.Lay
import Derived.KernelRfl
set_option linter.unusedVariables false
set_option linter.constructorNameAsVariable false
namespace Go.Proofs.YtdfkjafndhfljaaGreatDoor
open Go Go.RowKit Go.Fw Go.ChangeShapes Go.WideShapes Go.ChangeAt

theorem officeKills_own : ownKnob Tryz.prog.godebug = none := by kernel_rfl
theorem officeKills_laidOut : laidOutB Tryz.prog = true := by kernel_rfl

set_option maxRecDepth 100000 in
theorem officeKills_lifted (os : Os) (started : os.Started) (H : Type) (enc : TypeId × Value → H) :
    ReturnsInHanded {} Tryz.checked os 4 .any (fun w args => (Rows.officeKillsSpec.pre enc Tryz.prog Tryz.f4 [] false w args ∧ laidMetH Tryz.prog laidL w) ∧ sizedMet enc Tryz.prog Tryz.f4 (OpenSpec.ofChange Rows.officeKillsSpec) false w args)
      (Rows.officeKillsSpec.post enc Tryz.prog Tryz.f4 false true false false) := by
  refine handed_shaped (C := Tryz.checked) (X := fun w _ => laidMetH Tryz.prog laidL w) (fun _ _ _ hh h => h.of_heap hh) officeKills_own started (by kernel_rfl) Tryz.func4
    (ChangeSpec.witness_shaped (enc := enc) (C := Tryz.checked) (os := os) (X := fun w _ => laidMetH Tryz.prog laidL w) false (World.laidAll Tryz.prog os laidL) #[.int .i64 0, .int .i64 0, .bool false] 8 (World.laidAll_os _ _ _)
      (World.shaped_of_ZipB (by kernel_rfl) (by kernel_rfl)) (by kernel_rfl) (by kernel_rfl) (by kernel_rfl)
      (by rw [MakeChecks.laidMetH_plain _ _ _ laid_handles]; exact laidMet_laidAll _ (by kernel_rfl) (by kernel_rfl))) ?_
  intro W base args ds gs before hsh hval0 hW hL
  obtain ⟨m, hm⟩ := max_of hsh
  have hval : ∀ (j : Nat) t v, Tryz.f4.params[j]? = some t → args[j]? = some v → Value.okWide Tryz.prog W .any base t v := hval0
  have hW' := hW
  obtain ⟨p, q, hA0, hV, rfl, hfz, hnd⟩ := hW
  have hA : DataW.TrodAll enc Tryz.prog W 0 (fun _ => true) true Tryz.f4.params.toList args.toList ds p := hA0
  rw [Tryz.params4] at hA hval
  obtain ⟨v0, vs0, d0, ds0, p0, q0, hargs, rfl, rfl, h0, rest0⟩ := trodAll_cons hA
  obtain ⟨v1, vs1, d1, ds1, p1, q1, rfl, rfl, rfl, h1, rest1⟩ := trodAll_cons rest0
  obtain ⟨v2, vs2, d2, ds2, p2, q2, rfl, rfl, rfl, h2, rest2⟩ := trodAll_cons rest1
  obtain ⟨rfl, rfl, rfl⟩ := trodAll_nil rest2
  obtain rfl : args = #[v0, v1, v2] := by cases args; simp_all
  obtain ⟨rfl, rfl⟩ := trodVars_none hV
  have k0 := h0
  have lt0 : ∀ x ∈ p0, x.block < W.heap.size := by obtain ⟨m, hm⟩ := k0; exact DataW.trod_lt m _ _ _ hm
  have k1 := h1
  have lt1 : ∀ x ∈ p1, x.block < W.heap.size := by obtain ⟨m, hm⟩ := k1; exact DataW.trod_lt m _ _ _ hm
  have k2 := h2
  have lt2 : ∀ x ∈ p2, x.block < W.heap.size := by obtain ⟨m, hm⟩ := k2; exact DataW.trod_lt m _ _ _ hm
  obtain ⟨l0, rfl, r0⟩ := open_i64 Tryz.underlying3 (hval 0 3 v0 rfl rfl)
  obtain ⟨l1, rfl, r1⟩ := open_i64 Tryz.underlying3 (hval 1 3 v1 rfl rfl)
  obtain ⟨c, rfl⟩ := open_boolW Tryz.underlying4 (hval 2 4 v2 rfl rfl)
  clear hA0 hval0
  refine (kills_true hL hm l0 l1 c).mono fun e W' ⟨he, bel⟩ => ?_
  subst he
  exact ⟨_, rfl, _, _, _, [], _, [], hW', trodAll_mk1 (shut_bool Tryz.underlying4 _), (trodAll_cons_mk (Below.trod officeKills_laidOut (by kernel_rfl) (of_decide_eq_true (by kernel_rfl)) k0 bel lt0) (trodAll_cons_mk (Below.trod officeKills_laidOut (by kernel_rfl) (of_decide_eq_true (by kernel_rfl)) k1 bel lt1) (trodAll_cons_mk (Below.trod officeKills_laidOut (by kernel_rfl) (of_decide_eq_true (by kernel_rfl)) k2 bel lt2) trodAll_mk0))), rfl, bel.frame _, fun h => by cases h⟩

theorem officeKills_over : Rows.officeKillsRow.holds Tryz.pinned (OpenSpec.ofChange Rows.officeKillsSpec) :=
  OpenClaim.holds_of_wide 4 Tryz.f4 rfl rfl rfl rfl rfl rfl rfl ⟨rfl, rfl, rfl, rfl, rfl⟩ rfl rfl rfl rfl rfl (by kernel_rfl) Tryz.func4 officeKills_closed
    (of_decide_eq_true (by kernel_rfl)) (by unfold Func.isWrapper; first | (rw [if_pos (by decide +kernel)]; kernel_rfl) | (rw [if_neg (by decide +kernel)]; exact ⟨rfl, rfl⟩))
    (fun os started H enc _ => officeKills_lifted os started H enc)

/-- THE TIED CARD. -/
theorem officeKills_card : Rows.OfficeKillsCardSaid :=
  Claim7.holds_tied_plain_at .later [] [.data, .data, .pinned, .data, .data, .data, .data, .data, .listed, .sentinel, .sentinel] true (true, "a708b97d8264859db57ee89335a7be16630356f32a05220e265c3816f8a91f49") true
    officeKills_over (fun _ h => by cases h) ck_wf (fun _ h => by cases h) officeKills_tie rfl ⟨rfl, rfl⟩ ck_main rfl
    (fun f fn hf hfn => by
      obtain rfl : f = 4 := Option.some.inj (ck_named.symm.trans hf) |>.symm
      obtain rfl : fn = Tryz.f4 := (Option.some.inj (Tryz.func4.symm.trans hfn)).symm
      exact ⟨ck_looks, fun j t ht => by
        rw [Tryz.params4] at ht
        have hm : t ∈ [3, 3, 4] := by simpa using Array.mem_of_getElem? ht
        exact (show Tryz.pinned.checked.prog.wantsStandIn t = false by simpa using List.all_eq_true.1 ck_stand t hm)⟩)
    ck_goes
#print axioms officeKills_card
end Go.Proofs.YtdfkjafndhfljaaGreatDoor
