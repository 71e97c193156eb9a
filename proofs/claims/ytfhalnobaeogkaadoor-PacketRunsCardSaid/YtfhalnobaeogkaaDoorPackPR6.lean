/- What is proved: lemmas and contracts, part 6 of what the theorem of YtfhalnobaeogkaaDoorPackPR leans on. No further condition. -/
import Derived.Test.YtfhalnobaeogkaaDoorProg
import Derived.Test.YtfhalnobaeogkaaDoorRows
import Derived.Below
import Derived.ChangeOld
import Derived.Deep.SlicePairs
import Derived.Deep.Slices
import Derived.Great.BuildSlice
import Derived.KernelRfl
import Derived.LaidMore
import Derived.Laws.Build
import Derived.Laws.BytesArg
import Derived.Laws.IdiomCopy
import Derived.Laws.StructEq
import Derived.Lib.ConvBytes
import Derived.Maps.AppendAt
import Derived.OpenShut
import Derived.ProofKit
import Derived.SevenTiedAt
import Derived.ShutString
import Derived.SizedLaws
import Derived.Stop.BytesEq
import Derived.Stop.Joined
import Derived.WalkKit
import Derived.Test.YtfhalnobaeogkaaDoorPackPR1
import Derived.Test.YtfhalnobaeogkaaDoorPackPR2
import Derived.Test.YtfhalnobaeogkaaDoorPackPR3
import Derived.Test.YtfhalnobaeogkaaDoorPackPR4
import Derived.Test.YtfhalnobaeogkaaDoorPackPR5
set_option linter.unusedVariables false
set_option linter.unusedSimpArgs false
namespace Go.Proofs.YtfhalnobaeogkaaDoor
open Go Go.RowKit Go.Fw
theorem Tryd.ok24 : CallOk Tryd.prog 24 := ⟨_, Tryd.func24, by kernel_rfl, by kernel_rfl⟩
theorem Tryd.ok58 : CallOk Tryd.prog 58 := ⟨_, Tryd.func58, by kernel_rfl, by kernel_rfl⟩
theorem PSh.cells {w00 w : World} {r : Nat} {q : QS} {X H : List Ent} (hX : PSh w00 r q X) (hS : St w00 w H) (hsub : ∀ e ∈ X, e ∈ H) : w.cell? ⟨r, 0, none⟩ = some (vW (UInt32.ofNat q.sq)) ∧ w.cell? ⟨r, 3, none⟩ = some (vI q.n) := by
 cases hX with
 | dead => exact ⟨cellIn hS (hsub _ List.mem_cons_self) rfl, cellIn hS (hsub _ List.mem_cons_self) rfl⟩
 | plain => exact ⟨cellIn hS (hsub _ List.mem_cons_self) rfl, cellIn hS (hsub _ List.mem_cons_self) rfl⟩
 | keyed => exact ⟨cellIn hS (hsub _ List.mem_cons_self) rfl, cellIn hS (hsub _ List.mem_cons_self) rfl⟩
theorem sub2 {L T X Y : List Ent} (h : ∀ e ∈ L, e ∈ T) : ∀ e ∈ L ++ Y, e ∈ X ++ (T ++ Y) := fun e he => by
 rcases List.mem_append.1 he with h1 | h1
 ·
  exact List.mem_append_right _ (List.mem_append_left _ (h e h1))
 ·
  exact List.mem_append_right _ (List.mem_append_right _ h1)
theorem sub3 {L T X Y Y2 : List Ent} (h : ∀ e ∈ L, e ∈ T) {e : Ent} (he : e ∈ (L ++ Y) ++ Y2) : e ∈ (X ++ (T ++ Y)) ++ Y2 := by
 rcases List.mem_append.1 he with h1 | h1
 ·
  exact List.mem_append_left _ (sub2 h e h1)
 ·
  exact List.mem_append_right _ h1
theorem perm_back {E : Ent} {X T Y Y2 : List Ent} : (E :: ((X ++ (T ++ Y)) ++ Y2)).Perm (X ++ (E :: (T ++ (Y ++ Y2)))) := by
 rw [List.append_assoc, List.append_assoc]
 exact List.perm_middle.symm
theorem left_val {q : QS} (h : q.dead = false) : leftQ q = (decide (0 < q.B.length) || q.hd.isSome) := by rw [leftQ, h]; rfl
theorem cnt_q {b n : Nat} {w0 : World} (h : w0.cell? ⟨b, 3, none⟩ = some (vI n)) :
  Calls Tryd.prog 24 #[.pointer (some ⟨b, 0, none⟩)] w0 fun e w' => e = .returned (vI n) ∧ Ext w0 w' := by
 refine calls_start 7 Tryd.func24 rfl Tryd.ntmps24 rfl fun a hF => ?_
 refine wK fun Kq1 hKq1 => ?_
 refine wR ?_
 refine wg hF rfl rfl rfl (gv_assign rfl (ev_const _ _)) fun a hF => ?_
 refine wN ?_
 refine tN (hKq1 _ _ ?_)
 refine wK fun Kq2 hKq2 => ?_
 refine wR ?_
 refine wg hF rfl rfl rfl (gv_move rfl (hF.t rfl)) fun a hF => ?_
 refine wg hF rfl rfl rfl (gv_nilCheck rfl (hF.t rfl)) fun a hF => ?_
 refine wg hF rfl rfl rfl (gv_field (r := 3) rfl u35 rfl rfl z3 (by decide) (hF.t rfl)) fun a hF => ?_
 refine wg hF rfl rfl rfl (gv_load rfl u3 rfl (hF.t rfl) h) fun a hF => ?_
 refine wg hF rfl rfl rfl (gv_assign rfl (hF.t rfl)) fun a hF => ?_
 refine wN ?_
 refine tN (hKq2 _ _ ?_)
 refine wp_ret ?_
 refine ret1 (fn := Tryd.f24) (t := 2) hF rfl rfl ?_
 exact ⟨rfl, Ext.refl _⟩
set_option maxHeartbeats 1000000 in
theorem next_law {w00 w : World} {r m : Nat} {q : QS} {X L T : List Ent} {kv iv mv bv hv : Value} (hG : Glob w00) (h0 : ∀ e ∈ L, e ∈ T) (hX : PSh w00 r q X) (hT : ∀ e ∈ T, e.nw = true) (hR0 : RdF w00 L q kv iv mv bv hv) (hS : St w00 w (X ++ (rdE m kv iv mv q.at_ q.sq q.n bv hv q.dead :: T))) (hbl : q.dead = false → q.B.length ≤ 100000 ∧ q.at_ ≤ 1000000000) (hsq : q.sq < 4294967295) (hn : q.n ≤ 4611686018427387904) :
  Calls Tryd.prog 26 #[.pointer (some ⟨r, 0, none⟩), .pointer (some ⟨m, 0, none⟩)] w fun e w' => e = .returned (.tuple #[.bool true, .bool (decide ((nextQ q).1.2 = 0))]) ∧ ∃ X' Y bv' hv', PSh w00 r (nextQ q).2 X' ∧ (∀ e ∈ Y, e.nw = true) ∧ RdF w00 (L ++ Y) (nextQ q).2 kv iv mv bv' hv' ∧ St w00 w' (X' ++ (rdE m kv iv mv (nextQ q).2.at_ (nextQ q).2.sq (nextQ q).2.n bv' hv' (nextQ q).2.dead :: (T ++ Y))) := by
 refine calls_start 83 Tryd.func26 rfl Tryd.ntmps26 rfl fun a hF => ?_
 refine wK fun Kq1 hKq1 => ?_
 refine wR ?_
 refine wg hF rfl rfl rfl (gv_assign rfl (ev_const _ _)) fun a hF => ?_
 refine wg hF rfl rfl rfl (gv_assign rfl (ev_const _ _)) fun a hF => ?_
 refine wN ?_
 refine tN (hKq1 _ _ ?_)
 refine wK fun Kq2 hKq2 => ?_
 refine wR ?_
 refine wg hF rfl rfl rfl (gv_move rfl (hF.t rfl)) fun a hF => ?_
 refine wpList_stp (stp_call hF (wanted_none rfl) rfl rfl Tryd.ok17 rfl (Evs.cons (hF.t rfl) Evs.nil) (pnext_g hG hX (nw_cons rfl hT) hS (fun h => (hbl h).1) hn) fun e w h => ?_)
 obtain ⟨v, X1, Y, rfl, hv1, hX1, hY, hS⟩ := h
 refine ⟨_, rfl, fun a hF => ?_⟩
 simp only [List.cons_append] at hS
 replace hS := hS.perm List.perm_middle
 refine wg hF rfl rfl rfl (gv_move rfl (hF.t rfl)) fun a hF => ?_
 refine wg hF rfl rfl rfl (gv_extract rfl (hF.t rfl) rfl) fun a hF => ?_
 refine wg hF rfl rfl rfl (gv_extract rfl (hF.t rfl) rfl) fun a hF => ?_
 refine wg hF rfl rfl rfl (gv_assign rfl (hF.t rfl)) fun a hF => ?_
 refine wg hF rfl rfl rfl (gv_assign rfl (hF.t rfl)) fun a hF => ?_
 refine wN ?_
 refine tN (hKq2 _ _ ?_)
 refine wK fun Kq3 hKq3 => ?_
 refine wR ?_
 refine wg hF rfl rfl rfl (gv_move rfl (hF.t rfl)) fun a hF => ?_
 refine wpList_stp (stp_call hF (wanted_none rfl) rfl rfl Tryd.ok58 rfl (Evs.cons (hF.t rfl) Evs.nil) (rnext_g (L := L ++ Y) (T := X1 ++ (T ++ Y)) (sub2 h0) (nw_app hX1.nw (nw_app hT hY)) (hR0.mono fun e he => List.mem_append_left _ he) hS hbl hsq hn) fun e w h => ?_)
 obtain ⟨v2, Y2, bv2, hv2, rfl, hY2, hS, hR1, hw2⟩ := h
 refine ⟨_, rfl, fun a hF => ?_⟩
 have hsp := nextQ_spec q
 obtain ⟨Q, hQ⟩ : ∃ Q, Q = nextQ q := ⟨_, rfl⟩
 rw [← hQ] at hF hS hX1 hR1 hv1 hw2 hsp ⊢
 obtain ⟨Ab, cb, rfl, _, _, _⟩ := (hR1.b w _ hS (nw_cons rfl (nw_app (nw_app hX1.nw (nw_app hT hY)) hY2)) (fun e he => List.mem_cons_of_mem _ (sub3 h0 he))).isB
 obtain ⟨Ah, nh, ch, rfl, hAh⟩ : ∃ A n c, hv2 = .slice A n c ∧ A.isSome = Q.2.hd.isSome := by
  obtain ⟨u, hu0, _, hh⟩ := hR1.h
  revert hh
  cases Q.2.hd with
  | none => exact fun h => ⟨_, _, _, h, rfl⟩
  | some hl =>
   intro ⟨h1, h2⟩
   obtain ⟨A, c, e1, _, _, h3⟩ := (h2 w _ hS (nw_cons rfl (nw_app (nw_app hX1.nw (nw_app hT hY)) hY2)) (fun e he => List.mem_cons_of_mem _ (sub3 h0 he))).isB
   obtain ⟨b, o, rfl, _⟩ := h3 (by rw [h1]; exact hu0)
   exact ⟨_, _, _, e1, rfl⟩
 refine wg hF rfl rfl rfl (gv_move rfl (hF.t rfl)) fun a hF => ?_
 refine wg hF rfl rfl rfl (gv_extract rfl (hF.t rfl) rfl) fun a hF => ?_
 refine wg hF rfl rfl rfl (gv_extract rfl (hF.t rfl) rfl) fun a hF => ?_
 refine wg hF rfl rfl rfl (gv_assign rfl (hF.t rfl)) fun a hF => ?_
 refine wg hF rfl rfl rfl (gv_assign rfl (hF.t rfl)) fun a hF => ?_
 refine wN ?_
 refine tN (hKq3 _ _ ?_)
 have hcase : (Q.1.2 = 0 ∧ Q.2.dead = false ∧ 0 < Q.2.B.length) ∨ (Q.1.2 = 0 ∧ Q.2.dead = false ∧ ¬ 0 < Q.2.B.length ∧ Q.2.hd.isSome = false) ∨ (Q.1.2 = 4 ∧ Q.2.dead = false ∧ 0 < Q.2.B.length) ∨ (Q.1.2 = 4 ∧ Q.2.dead = false ∧ ¬ 0 < Q.2.B.length ∧ Q.2.hd.isSome = false) ∨ (Q.1.2 = 4 ∧ Q.2.dead = false ∧ ¬ 0 < Q.2.B.length ∧ Q.2.hd.isSome = true) ∨ (Q.1.2 ≠ 0 ∧ Q.1.2 ≠ 4) := by
  by_cases hb : 0 < Q.2.B.length
  ·
   by_cases h0 : Q.1.2 = 0
   ·
    exact .inl ⟨h0, (hsp.ok h0).2.2.1, hb⟩
   ·
    by_cases h4 : Q.1.2 = 4
    ·
     exact .inr (.inr (.inl ⟨h4, hsp.wait h4, hb⟩))
    ·
     exact .inr (.inr (.inr (.inr (.inr ⟨h0, h4⟩))))
  ·
   by_cases h0 : Q.1.2 = 0
   ·
    exact .inr (.inl ⟨h0, (hsp.ok h0).2.2.1, hb, by rw [(hsp.ok h0).2.2.2]; rfl⟩)
   ·
    by_cases h4 : Q.1.2 = 4
    ·
     cases hh : Q.2.hd.isSome
     ·
      exact .inr (.inr (.inr (.inl ⟨h4, hsp.wait h4, hb, rfl⟩)))
     ·
      exact .inr (.inr (.inr (.inr (.inl ⟨h4, hsp.wait h4, hb, rfl⟩))))
    ·
     exact .inr (.inr (.inr (.inr (.inr ⟨h0, h4⟩))))
 rcases hcase with ⟨hc, hdd, hb0⟩ | ⟨hc, hdd, hb0, hhd⟩ | ⟨hc, hdd, hb0⟩ | ⟨hc, hdd, hb0, hhd⟩ | ⟨hc, hdd, hb0, hhd⟩ | ⟨hc, hc4⟩
 ·
  refine wK fun Kq4 hKq4 => ?_
  refine Fw.wp_region_draw (by kernel_rfl) fun w hx => ?_
  replace hS := hS.ext hx
  clear hx
  refine run_swalk _ 0 65 [14, 27, 44] [[23, 14], [42, 35, 27]] _ (by kernel_rfl) (by kernel_rfl) rfl hF.size ?_
  have hO := hS
  clear hS
  have hS := St.refl w
  refine sg hF rfl rfl rfl rfl (fun w hx => gv_move rfl (hF.t rfl)) fun a hF => ?_
  refine sg hF rfl rfl rfl rfl (fun w hx => gv_move rfl (hF.t rfl)) fun a hF => ?_
  refine sg hF rfl rfl rfl rfl (fun w hx => gv_eqlT rfl (hF.t rfl) (hF.t rfl) (rfl)) fun a hF => ?_
  refine sg hF rfl rfl rfl rfl (fun w hx => gv_move rfl (hF.t rfl)) fun a hF => ?_
  refine sw_gv hF rfl (wanted_of hF rfl rfl (rfl)) rfl rfl (fun w hx => gv_move rfl (hF.t rfl)) fun a hF => ?_
  refine sw_gv hF rfl (wanted_of hF rfl rfl (rfl)) rfl rfl (fun w hx => gv_convStr (l := Q.1.1) rfl u22 u5 u9 (hF.t rfl) (hv1 w _ (hO.ext hx) (nw_cons rfl (nw_app (nw_app hX1.nw (nw_app hT hY)) hY2)) (fun e he => List.mem_cons_of_mem _ (List.mem_append_left _ (List.mem_append_right _ (List.mem_append_right _ he)))))) fun a hF => ?_
  refine sw_gv hF rfl (wanted_of hF rfl rfl (rfl)) rfl rfl (fun w hx => gv_move rfl (hF.t rfl)) fun a hF => ?_
  refine sw_gv hF rfl (wanted_of hF rfl rfl (rfl)) rfl rfl (fun w hx => gv_convStr (l := Q.1.1) rfl u22 u5 u9 (hF.t rfl) (hw2 w _ (hO.ext hx) (nw_cons rfl (nw_app (nw_app hX1.nw (nw_app hT hY)) hY2)) (fun e he => List.mem_cons_of_mem _ (sub3 h0 he)))) fun a hF => ?_
  refine sw_gv hF rfl (wanted_of hF rfl rfl (rfl)) rfl rfl (fun w hx => gv_strEqlT rfl (hF.t rfl) (hF.t rfl) rfl) fun a hF => ?_
  refine sg hF rfl rfl rfl rfl (fun w hx => gv_pickT rfl (hF.t rfl) (hF.t rfl)) fun a hF => ?_
  refine sg hF rfl rfl rfl rfl (fun w hx => gv_move rfl (hF.t rfl)) fun a hF => ?_
  refine sw_gv hF rfl (wanted_of hF rfl rfl (rfl)) rfl rfl (fun w hx => gv_move rfl (hF.t rfl)) fun a hF => ?_
  refine sw_gv hF rfl (wanted_of hF rfl rfl (rfl)) rfl rfl (fun w hx => gv_nilCheck rfl (hF.t rfl)) fun a hF => ?_
  refine sw_gv hF rfl (wanted_of hF rfl rfl (rfl)) rfl rfl (fun w hx => gv_field (r := 0) rfl u47 rfl rfl z35 (by decide) (hF.t rfl)) fun a hF => ?_
  refine sw_eff rfl (stp_call hF (wanted_of hF rfl rfl (rfl)) rfl rfl Tryd.ok21 rfl (Evs.cons (hF.t rfl) Evs.nil) (num_ok (hX1.cells (hO.ext (hS.toExt nw_nil)) (fun e he => List.mem_cons_of_mem _ (List.mem_append_left _ (List.mem_append_left _ he)))).1) fun e w h => ?_)
  obtain ⟨rfl, hx⟩ := h
  refine ⟨_, rfl, fun a hF => ?_⟩
  replace hS := hS.ext hx
  clear hx
  refine ⟨hS.toExt nw_nil, ?_⟩
  refine sw_gv hF rfl (wanted_of hF rfl rfl (rfl)) rfl rfl (fun w hx => gv_move rfl (hF.t rfl)) fun a hF => ?_
  refine sw_gv hF rfl (wanted_of hF rfl rfl (rfl)) rfl rfl (fun w hx => gv_nilCheck rfl (hF.t rfl)) fun a hF => ?_
  refine sw_gv hF rfl (wanted_of hF rfl rfl (rfl)) rfl rfl (fun w hx => gv_field (r := 0) rfl u53 rfl rfl z50 (by decide) (hF.t rfl)) fun a hF => ?_
  refine sw_gv hF rfl (wanted_of hF rfl rfl (rfl)) rfl rfl (fun w hx => gv_field (r := 4) rfl u50 rfl rfl z3 (by decide) (hF.t rfl)) fun a hF => ?_
  refine sw_gv hF rfl (wanted_of hF rfl rfl (rfl)) rfl rfl (fun w hx => gv_load rfl u3 rfl (hF.t rfl) (cell_ix (j := 4) ((hO.ext hx).cell (k := 0) rfl (rfl)) (by omega))) fun a hF => ?_
  refine sw_gv hF rfl (wanted_of hF rfl rfl (rfl)) rfl rfl (fun w hx => gv_conv_i_w rfl u3 u32 (hF.t rfl)) fun a hF => ?_
  refine sw_gv hF rfl (wanted_of hF rfl rfl (rfl)) rfl rfl (fun w hx => gv_eqlT rfl (hF.t rfl) (hF.t rfl) (rfl)) fun a hF => ?_
  refine sg hF rfl rfl rfl rfl (fun w hx => gv_pickT rfl (hF.t rfl) (hF.t rfl)) fun a hF => ?_
  refine sg hF rfl rfl rfl rfl (fun w hx => gv_move rfl (hF.t rfl)) fun a hF => ?_
  refine sw_gv hF rfl (wanted_of hF rfl rfl (rfl)) rfl rfl (fun w hx => gv_move rfl (hF.t rfl)) fun a hF => ?_
  refine sw_gv hF rfl (wanted_of hF rfl rfl (rfl)) rfl rfl (fun w hx => gv_nilCheck rfl (hF.t rfl)) fun a hF => ?_
  refine sw_gv hF rfl (wanted_of hF rfl rfl (rfl)) rfl rfl (fun w hx => gv_field (r := 0) rfl u47 rfl rfl z35 (by decide) (hF.t rfl)) fun a hF => ?_
  refine sw_eff rfl (stp_call hF (wanted_of hF rfl rfl (rfl)) rfl rfl Tryd.ok24 rfl (Evs.cons (hF.t rfl) Evs.nil) (cnt_q (hX1.cells (hO.ext (hS.toExt nw_nil)) (fun e he => List.mem_cons_of_mem _ (List.mem_append_left _ (List.mem_append_left _ he)))).2) fun e w h => ?_)
  obtain ⟨rfl, hx⟩ := h
  refine ⟨_, rfl, fun a hF => ?_⟩
  replace hS := hS.ext hx
  clear hx
  refine ⟨hS.toExt nw_nil, ?_⟩
  refine sw_gv hF rfl (wanted_of hF rfl rfl (rfl)) rfl rfl (fun w hx => gv_move rfl (hF.t rfl)) fun a hF => ?_
  refine sw_gv hF rfl (wanted_of hF rfl rfl (rfl)) rfl rfl (fun w hx => gv_nilCheck rfl (hF.t rfl)) fun a hF => ?_
  refine sw_gv hF rfl (wanted_of hF rfl rfl (rfl)) rfl rfl (fun w hx => gv_field (r := 0) rfl u53 rfl rfl z50 (by decide) (hF.t rfl)) fun a hF => ?_
  refine sw_gv hF rfl (wanted_of hF rfl rfl (rfl)) rfl rfl (fun w hx => gv_field (r := 5) rfl u50 rfl rfl z3 (by decide) (hF.t rfl)) fun a hF => ?_
  refine sw_gv hF rfl (wanted_of hF rfl rfl (rfl)) rfl rfl (fun w hx => gv_load rfl u3 rfl (hF.t rfl) (cell_ix (j := 5) ((hO.ext hx).cell (k := 0) rfl (rfl)) (by omega))) fun a hF => ?_
  refine sw_gv hF rfl (wanted_of hF rfl rfl (rfl)) rfl rfl (fun w hx => gv_eqlT rfl (hF.t rfl) (hF.t rfl) (rfl)) fun a hF => ?_
  refine sg hF rfl rfl rfl rfl (fun w hx => gv_pickT rfl (hF.t rfl) (hF.t rfl)) fun a hF => ?_
  refine sg hF rfl rfl rfl rfl (fun w hx => gv_move rfl (hF.t rfl)) fun a hF => ?_
  refine sw_gv hF rfl (wanted_of hF rfl rfl (rfl)) rfl rfl (fun w hx => gv_move rfl (hF.t rfl)) fun a hF => ?_
  refine sw_gv hF rfl (wanted_of hF rfl rfl (rfl)) rfl rfl (fun w hx => gv_neqF rfl (hF.t rfl) (ev_const _ _) (by omega)) fun a hF => ?_
  refine sw_gv hF rfl (wanted_of hF rfl rfl (rfl)) rfl rfl (fun w hx => gv_move rfl (hF.t rfl)) fun a hF => ?_
  refine sw_skip hF rfl (unwanted_of hF rfl rfl (rfl) rfl) rfl rfl fun a hF => ?_
  refine sw_skip hF rfl (unwanted_of hF rfl rfl (rfl) rfl) rfl rfl fun a hF => ?_
  refine sw_gv hF rfl (wanted_of hF rfl rfl (rfl)) rfl rfl (fun w hx => gv_pickF rfl (hF.t rfl) (ev_const _ _)) fun a hF => ?_
  refine sw_gv hF rfl (wanted_of hF rfl rfl (rfl)) rfl rfl (fun w hx => gv_move rfl (hF.t rfl)) fun a hF => ?_
  refine sw_gv hF rfl (wanted_of hF rfl rfl (rfl)) rfl rfl (fun w hx => gv_move rfl (hF.t rfl)) fun a hF => ?_
  refine sw_eff rfl (stp_call hF (wanted_of hF rfl rfl (rfl)) rfl rfl Tryd.ok18 rfl (Evs.cons (hF.t rfl) Evs.nil) (pleft_g hX1 ((hO.ext (hS.toExt nw_nil)).perm perm_back)) fun e w h => ?_)
  obtain ⟨rfl, hx⟩ := h
  refine ⟨_, rfl, fun a hF => ?_⟩
  replace hS := hS.ext hx
  clear hx
  refine ⟨hS.toExt nw_nil, ?_⟩
  have hlv : leftQ Q.2 = true := by rw [left_val hdd, decide_eq_true hb0, Bool.true_or]
  rw [hlv] at hF
  refine sw_gv hF rfl (wanted_of hF rfl rfl (rfl)) rfl rfl (fun w hx => gv_move rfl (hF.t rfl)) fun a hF => ?_
  refine sw_gv hF rfl (wanted_of hF rfl rfl (rfl)) rfl rfl (fun w hx => gv_nilCheck rfl (hF.t rfl)) fun a hF => ?_
  refine sw_gv hF rfl (wanted_of hF rfl rfl (rfl)) rfl rfl (fun w hx => gv_field (r := 6) rfl u53 rfl rfl z22 (by decide) (hF.t rfl)) fun a hF => ?_
  refine sw_gv hF rfl (wanted_of hF rfl rfl (rfl)) rfl rfl (fun w hx => gv_load rfl u22 rfl (hF.t rfl) (cell_ix (j := 6) ((hO.ext hx).cell (k := 0) rfl (rfl)) (by omega))) fun a hF => ?_
  refine sw_gv hF rfl (wanted_of hF rfl rfl (rfl)) rfl rfl (fun w hx => gv_len rfl u22 (hF.t rfl)) fun a hF => ?_
  refine sw_gv hF rfl (wanted_of hF rfl rfl (rfl)) rfl rfl (fun w hx => gv_gtrT rfl (hF.t rfl) (ev_const _ _) (by omega)) fun a hF => ?_
  refine sw_gv hF rfl (wanted_of hF rfl rfl (rfl)) rfl rfl (fun w hx => gv_move rfl (hF.t rfl)) fun a hF => ?_
  refine sw_skip hF rfl (unwanted_of hF rfl rfl (rfl) rfl) rfl rfl fun a hF => ?_
  refine sw_skip hF rfl (unwanted_of hF rfl rfl (rfl) rfl) rfl rfl fun a hF => ?_
  refine sw_skip hF rfl (unwanted_of hF rfl rfl (rfl) rfl) rfl rfl fun a hF => ?_
  refine sw_skip hF rfl (unwanted_of hF rfl rfl (rfl) rfl) rfl rfl fun a hF => ?_
  refine sw_skip hF rfl (unwanted_of hF rfl rfl (rfl) rfl) rfl rfl fun a hF => ?_
  refine sw_gv hF rfl (wanted_of hF rfl rfl (rfl)) rfl rfl (fun w hx => gv_pickT rfl (hF.t rfl) (ev_const _ _)) fun a hF => ?_
  refine sw_gv hF rfl (wanted_of hF rfl rfl (rfl)) rfl rfl (fun w hx => gv_boolEql rfl u4 (hF.t rfl) (hF.t rfl)) fun a hF => ?_
  rw [decide_eq_true rfl] at hF
  refine sw_gv hF rfl (wanted_of hF rfl rfl (rfl)) rfl rfl (fun w hx => gv_pickF rfl (hF.t rfl) (hF.t rfl)) fun a hF => ?_
  refine sg hF rfl rfl rfl rfl (fun w hx => gv_pickT rfl (hF.t rfl) (hF.t rfl)) fun a hF => ?_
  refine sg hF rfl rfl rfl rfl (fun w hx => gv_move rfl (hF.t rfl)) fun a hF => ?_
  refine sg hF rfl rfl rfl rfl (fun w hx => gv_eqlT rfl (hF.t rfl) (ev_const _ _) (by omega)) fun a hF => ?_
  refine sg hF rfl rfl rfl rfl (fun w hx => gv_assign rfl (hF.t rfl)) fun a hF => ?_
  refine sg hF rfl rfl rfl rfl (fun w hx => gv_assign rfl (hF.t rfl)) fun a hF => ?_
  refine sw_nil ?_
  replace hS := hO.join hS nw_nil
  simp only [List.cons_append, List.nil_append] at hS
  clear hO
  refine run_done (by decide) ?_
  refine tN (hKq4 _ _ ?_)
  refine wp_ret ?_
  refine ret2 (fn := Tryd.f26) (t := 4) (u := 5) hF rfl rfl rfl ?_
  rw [← hQ]
  rw [List.append_assoc] at hR1
  exact ⟨by rw [decide_eq_true hc], X1, Y ++ Y2, _, _, hX1, nw_app hY hY2, hR1, hS.perm perm_back⟩
 ·
  refine wK fun Kq5 hKq5 => ?_
  refine Fw.wp_region_draw (by kernel_rfl) fun w hx => ?_
  replace hS := hS.ext hx
  clear hx
  refine run_swalk _ 0 65 [14, 27, 44] [[23, 14], [42, 35, 27]] _ (by kernel_rfl) (by kernel_rfl) rfl hF.size ?_
  have hO := hS
  clear hS
  have hS := St.refl w
  refine sg hF rfl rfl rfl rfl (fun w hx => gv_move rfl (hF.t rfl)) fun a hF => ?_
  refine sg hF rfl rfl rfl rfl (fun w hx => gv_move rfl (hF.t rfl)) fun a hF => ?_
  refine sg hF rfl rfl rfl rfl (fun w hx => gv_eqlT rfl (hF.t rfl) (hF.t rfl) (rfl)) fun a hF => ?_
  refine sg hF rfl rfl rfl rfl (fun w hx => gv_move rfl (hF.t rfl)) fun a hF => ?_
  refine sw_gv hF rfl (wanted_of hF rfl rfl (rfl)) rfl rfl (fun w hx => gv_move rfl (hF.t rfl)) fun a hF => ?_
  refine sw_gv hF rfl (wanted_of hF rfl rfl (rfl)) rfl rfl (fun w hx => gv_convStr (l := Q.1.1) rfl u22 u5 u9 (hF.t rfl) (hv1 w _ (hO.ext hx) (nw_cons rfl (nw_app (nw_app hX1.nw (nw_app hT hY)) hY2)) (fun e he => List.mem_cons_of_mem _ (List.mem_append_left _ (List.mem_append_right _ (List.mem_append_right _ he)))))) fun a hF => ?_
  refine sw_gv hF rfl (wanted_of hF rfl rfl (rfl)) rfl rfl (fun w hx => gv_move rfl (hF.t rfl)) fun a hF => ?_
  refine sw_gv hF rfl (wanted_of hF rfl rfl (rfl)) rfl rfl (fun w hx => gv_convStr (l := Q.1.1) rfl u22 u5 u9 (hF.t rfl) (hw2 w _ (hO.ext hx) (nw_cons rfl (nw_app (nw_app hX1.nw (nw_app hT hY)) hY2)) (fun e he => List.mem_cons_of_mem _ (sub3 h0 he)))) fun a hF => ?_
  refine sw_gv hF rfl (wanted_of hF rfl rfl (rfl)) rfl rfl (fun w hx => gv_strEqlT rfl (hF.t rfl) (hF.t rfl) rfl) fun a hF => ?_
  refine sg hF rfl rfl rfl rfl (fun w hx => gv_pickT rfl (hF.t rfl) (hF.t rfl)) fun a hF => ?_
  refine sg hF rfl rfl rfl rfl (fun w hx => gv_move rfl (hF.t rfl)) fun a hF => ?_
  refine sw_gv hF rfl (wanted_of hF rfl rfl (rfl)) rfl rfl (fun w hx => gv_move rfl (hF.t rfl)) fun a hF => ?_
  refine sw_gv hF rfl (wanted_of hF rfl rfl (rfl)) rfl rfl (fun w hx => gv_nilCheck rfl (hF.t rfl)) fun a hF => ?_
  refine sw_gv hF rfl (wanted_of hF rfl rfl (rfl)) rfl rfl (fun w hx => gv_field (r := 0) rfl u47 rfl rfl z35 (by decide) (hF.t rfl)) fun a hF => ?_
  refine sw_eff rfl (stp_call hF (wanted_of hF rfl rfl (rfl)) rfl rfl Tryd.ok21 rfl (Evs.cons (hF.t rfl) Evs.nil) (num_ok (hX1.cells (hO.ext (hS.toExt nw_nil)) (fun e he => List.mem_cons_of_mem _ (List.mem_append_left _ (List.mem_append_left _ he)))).1) fun e w h => ?_)
  obtain ⟨rfl, hx⟩ := h
  refine ⟨_, rfl, fun a hF => ?_⟩
  replace hS := hS.ext hx
  clear hx
  refine ⟨hS.toExt nw_nil, ?_⟩
  refine sw_gv hF rfl (wanted_of hF rfl rfl (rfl)) rfl rfl (fun w hx => gv_move rfl (hF.t rfl)) fun a hF => ?_
  refine sw_gv hF rfl (wanted_of hF rfl rfl (rfl)) rfl rfl (fun w hx => gv_nilCheck rfl (hF.t rfl)) fun a hF => ?_
  refine sw_gv hF rfl (wanted_of hF rfl rfl (rfl)) rfl rfl (fun w hx => gv_field (r := 0) rfl u53 rfl rfl z50 (by decide) (hF.t rfl)) fun a hF => ?_
  refine sw_gv hF rfl (wanted_of hF rfl rfl (rfl)) rfl rfl (fun w hx => gv_field (r := 4) rfl u50 rfl rfl z3 (by decide) (hF.t rfl)) fun a hF => ?_
  refine sw_gv hF rfl (wanted_of hF rfl rfl (rfl)) rfl rfl (fun w hx => gv_load rfl u3 rfl (hF.t rfl) (cell_ix (j := 4) ((hO.ext hx).cell (k := 0) rfl (rfl)) (by omega))) fun a hF => ?_
  refine sw_gv hF rfl (wanted_of hF rfl rfl (rfl)) rfl rfl (fun w hx => gv_conv_i_w rfl u3 u32 (hF.t rfl)) fun a hF => ?_
  refine sw_gv hF rfl (wanted_of hF rfl rfl (rfl)) rfl rfl (fun w hx => gv_eqlT rfl (hF.t rfl) (hF.t rfl) (rfl)) fun a hF => ?_
  refine sg hF rfl rfl rfl rfl (fun w hx => gv_pickT rfl (hF.t rfl) (hF.t rfl)) fun a hF => ?_
  refine sg hF rfl rfl rfl rfl (fun w hx => gv_move rfl (hF.t rfl)) fun a hF => ?_
  refine sw_gv hF rfl (wanted_of hF rfl rfl (rfl)) rfl rfl (fun w hx => gv_move rfl (hF.t rfl)) fun a hF => ?_
  refine sw_gv hF rfl (wanted_of hF rfl rfl (rfl)) rfl rfl (fun w hx => gv_nilCheck rfl (hF.t rfl)) fun a hF => ?_
  refine sw_gv hF rfl (wanted_of hF rfl rfl (rfl)) rfl rfl (fun w hx => gv_field (r := 0) rfl u47 rfl rfl z35 (by decide) (hF.t rfl)) fun a hF => ?_
  refine sw_eff rfl (stp_call hF (wanted_of hF rfl rfl (rfl)) rfl rfl Tryd.ok24 rfl (Evs.cons (hF.t rfl) Evs.nil) (cnt_q (hX1.cells (hO.ext (hS.toExt nw_nil)) (fun e he => List.mem_cons_of_mem _ (List.mem_append_left _ (List.mem_append_left _ he)))).2) fun e w h => ?_)
  obtain ⟨rfl, hx⟩ := h
  refine ⟨_, rfl, fun a hF => ?_⟩
  replace hS := hS.ext hx
  clear hx
  refine ⟨hS.toExt nw_nil, ?_⟩
  refine sw_gv hF rfl (wanted_of hF rfl rfl (rfl)) rfl rfl (fun w hx => gv_move rfl (hF.t rfl)) fun a hF => ?_
  refine sw_gv hF rfl (wanted_of hF rfl rfl (rfl)) rfl rfl (fun w hx => gv_nilCheck rfl (hF.t rfl)) fun a hF => ?_
  refine sw_gv hF rfl (wanted_of hF rfl rfl (rfl)) rfl rfl (fun w hx => gv_field (r := 0) rfl u53 rfl rfl z50 (by decide) (hF.t rfl)) fun a hF => ?_
  refine sw_gv hF rfl (wanted_of hF rfl rfl (rfl)) rfl rfl (fun w hx => gv_field (r := 5) rfl u50 rfl rfl z3 (by decide) (hF.t rfl)) fun a hF => ?_
  refine sw_gv hF rfl (wanted_of hF rfl rfl (rfl)) rfl rfl (fun w hx => gv_load rfl u3 rfl (hF.t rfl) (cell_ix (j := 5) ((hO.ext hx).cell (k := 0) rfl (rfl)) (by omega))) fun a hF => ?_
  refine sw_gv hF rfl (wanted_of hF rfl rfl (rfl)) rfl rfl (fun w hx => gv_eqlT rfl (hF.t rfl) (hF.t rfl) (rfl)) fun a hF => ?_
  refine sg hF rfl rfl rfl rfl (fun w hx => gv_pickT rfl (hF.t rfl) (hF.t rfl)) fun a hF => ?_
  refine sg hF rfl rfl rfl rfl (fun w hx => gv_move rfl (hF.t rfl)) fun a hF => ?_
  refine sw_gv hF rfl (wanted_of hF rfl rfl (rfl)) rfl rfl (fun w hx => gv_move rfl (hF.t rfl)) fun a hF => ?_
  refine sw_gv hF rfl (wanted_of hF rfl rfl (rfl)) rfl rfl (fun w hx => gv_neqF rfl (hF.t rfl) (ev_const _ _) (by omega)) fun a hF => ?_
  refine sw_gv hF rfl (wanted_of hF rfl rfl (rfl)) rfl rfl (fun w hx => gv_move rfl (hF.t rfl)) fun a hF => ?_
  refine sw_skip hF rfl (unwanted_of hF rfl rfl (rfl) rfl) rfl rfl fun a hF => ?_
  refine sw_skip hF rfl (unwanted_of hF rfl rfl (rfl) rfl) rfl rfl fun a hF => ?_
  refine sw_gv hF rfl (wanted_of hF rfl rfl (rfl)) rfl rfl (fun w hx => gv_pickF rfl (hF.t rfl) (ev_const _ _)) fun a hF => ?_
  refine sw_gv hF rfl (wanted_of hF rfl rfl (rfl)) rfl rfl (fun w hx => gv_move rfl (hF.t rfl)) fun a hF => ?_
  refine sw_gv hF rfl (wanted_of hF rfl rfl (rfl)) rfl rfl (fun w hx => gv_move rfl (hF.t rfl)) fun a hF => ?_
  refine sw_eff rfl (stp_call hF (wanted_of hF rfl rfl (rfl)) rfl rfl Tryd.ok18 rfl (Evs.cons (hF.t rfl) Evs.nil) (pleft_g hX1 ((hO.ext (hS.toExt nw_nil)).perm perm_back)) fun e w h => ?_)
  obtain ⟨rfl, hx⟩ := h
  refine ⟨_, rfl, fun a hF => ?_⟩
  replace hS := hS.ext hx
  clear hx
  refine ⟨hS.toExt nw_nil, ?_⟩
  have hlv : leftQ Q.2 = false := by rw [left_val hdd, decide_eq_false hb0, Bool.false_or, hhd]
  rw [hlv] at hF
  refine sw_gv hF rfl (wanted_of hF rfl rfl (rfl)) rfl rfl (fun w hx => gv_move rfl (hF.t rfl)) fun a hF => ?_
  refine sw_gv hF rfl (wanted_of hF rfl rfl (rfl)) rfl rfl (fun w hx => gv_nilCheck rfl (hF.t rfl)) fun a hF => ?_
  refine sw_gv hF rfl (wanted_of hF rfl rfl (rfl)) rfl rfl (fun w hx => gv_field (r := 6) rfl u53 rfl rfl z22 (by decide) (hF.t rfl)) fun a hF => ?_
  refine sw_gv hF rfl (wanted_of hF rfl rfl (rfl)) rfl rfl (fun w hx => gv_load rfl u22 rfl (hF.t rfl) (cell_ix (j := 6) ((hO.ext hx).cell (k := 0) rfl (rfl)) (by omega))) fun a hF => ?_
  refine sw_gv hF rfl (wanted_of hF rfl rfl (rfl)) rfl rfl (fun w hx => gv_len rfl u22 (hF.t rfl)) fun a hF => ?_
  refine sw_gv hF rfl (wanted_of hF rfl rfl (rfl)) rfl rfl (fun w hx => gv_gtrF rfl (hF.t rfl) (ev_const _ _) (by omega)) fun a hF => ?_
  refine sw_gv hF rfl (wanted_of hF rfl rfl (rfl)) rfl rfl (fun w hx => gv_move rfl (hF.t rfl)) fun a hF => ?_
  refine sw_gv hF rfl (wanted_of hF rfl rfl (rfl)) rfl rfl (fun w hx => gv_move rfl (hF.t rfl)) fun a hF => ?_
  refine sw_gv hF rfl (wanted_of hF rfl rfl (rfl)) rfl rfl (fun w hx => gv_nilCheck rfl (hF.t rfl)) fun a hF => ?_
  refine sw_gv hF rfl (wanted_of hF rfl rfl (rfl)) rfl rfl (fun w hx => gv_field (r := 7) rfl u53 rfl rfl z22 (by decide) (hF.t rfl)) fun a hF => ?_
  refine sw_gv hF rfl (wanted_of hF rfl rfl (rfl)) rfl rfl (fun w hx => gv_load rfl u22 rfl (hF.t rfl) (cell_ix (j := 7) ((hO.ext hx).cell (k := 0) rfl (rfl)) (by omega))) fun a hF => ?_
  refine sw_gv hF rfl (wanted_of hF rfl rfl (rfl)) rfl rfl (fun w hx => gv_neqNilS rfl u22 (hF.t rfl) (ev_const _ _)) fun a hF => ?_
  rw [hAh, hhd] at hF
  refine sw_gv hF rfl (wanted_of hF rfl rfl (rfl)) rfl rfl (fun w hx => gv_pickF rfl (hF.t rfl) (hF.t rfl)) fun a hF => ?_
  refine sw_gv hF rfl (wanted_of hF rfl rfl (rfl)) rfl rfl (fun w hx => gv_boolEql rfl u4 (hF.t rfl) (hF.t rfl)) fun a hF => ?_
  rw [decide_eq_true rfl] at hF
  refine sw_gv hF rfl (wanted_of hF rfl rfl (rfl)) rfl rfl (fun w hx => gv_pickF rfl (hF.t rfl) (hF.t rfl)) fun a hF => ?_
  refine sg hF rfl rfl rfl rfl (fun w hx => gv_pickT rfl (hF.t rfl) (hF.t rfl)) fun a hF => ?_
  refine sg hF rfl rfl rfl rfl (fun w hx => gv_move rfl (hF.t rfl)) fun a hF => ?_
  refine sg hF rfl rfl rfl rfl (fun w hx => gv_eqlT rfl (hF.t rfl) (ev_const _ _) (by omega)) fun a hF => ?_
  refine sg hF rfl rfl rfl rfl (fun w hx => gv_assign rfl (hF.t rfl)) fun a hF => ?_
  refine sg hF rfl rfl rfl rfl (fun w hx => gv_assign rfl (hF.t rfl)) fun a hF => ?_
  refine sw_nil ?_
  replace hS := hO.join hS nw_nil
  simp only [List.cons_append, List.nil_append] at hS
  clear hO
  refine run_done (by decide) ?_
  refine tN (hKq5 _ _ ?_)
  refine wp_ret ?_
  refine ret2 (fn := Tryd.f26) (t := 4) (u := 5) hF rfl rfl rfl ?_
  rw [← hQ]
  rw [List.append_assoc] at hR1
  exact ⟨by rw [decide_eq_true hc], X1, Y ++ Y2, _, _, hX1, nw_app hY hY2, hR1, hS.perm perm_back⟩
 ·
  refine wK fun Kq6 hKq6 => ?_
  refine Fw.wp_region_draw (by kernel_rfl) fun w hx => ?_
  replace hS := hS.ext hx
  clear hx
  refine run_swalk _ 0 65 [14, 27, 44] [[23, 14], [42, 35, 27]] _ (by kernel_rfl) (by kernel_rfl) rfl hF.size ?_
  have hO := hS
  clear hS
  have hS := St.refl w
  refine sg hF rfl rfl rfl rfl (fun w hx => gv_move rfl (hF.t rfl)) fun a hF => ?_
  refine sg hF rfl rfl rfl rfl (fun w hx => gv_move rfl (hF.t rfl)) fun a hF => ?_
  refine sg hF rfl rfl rfl rfl (fun w hx => gv_eqlT rfl (hF.t rfl) (hF.t rfl) (rfl)) fun a hF => ?_
  refine sg hF rfl rfl rfl rfl (fun w hx => gv_move rfl (hF.t rfl)) fun a hF => ?_
  refine sw_gv hF rfl (wanted_of hF rfl rfl (rfl)) rfl rfl (fun w hx => gv_move rfl (hF.t rfl)) fun a hF => ?_
  refine sw_gv hF rfl (wanted_of hF rfl rfl (rfl)) rfl rfl (fun w hx => gv_convStr (l := Q.1.1) rfl u22 u5 u9 (hF.t rfl) (hv1 w _ (hO.ext hx) (nw_cons rfl (nw_app (nw_app hX1.nw (nw_app hT hY)) hY2)) (fun e he => List.mem_cons_of_mem _ (List.mem_append_left _ (List.mem_append_right _ (List.mem_append_right _ he)))))) fun a hF => ?_
  refine sw_gv hF rfl (wanted_of hF rfl rfl (rfl)) rfl rfl (fun w hx => gv_move rfl (hF.t rfl)) fun a hF => ?_
  refine sw_gv hF rfl (wanted_of hF rfl rfl (rfl)) rfl rfl (fun w hx => gv_convStr (l := Q.1.1) rfl u22 u5 u9 (hF.t rfl) (hw2 w _ (hO.ext hx) (nw_cons rfl (nw_app (nw_app hX1.nw (nw_app hT hY)) hY2)) (fun e he => List.mem_cons_of_mem _ (sub3 h0 he)))) fun a hF => ?_
  refine sw_gv hF rfl (wanted_of hF rfl rfl (rfl)) rfl rfl (fun w hx => gv_strEqlT rfl (hF.t rfl) (hF.t rfl) rfl) fun a hF => ?_
  refine sg hF rfl rfl rfl rfl (fun w hx => gv_pickT rfl (hF.t rfl) (hF.t rfl)) fun a hF => ?_
  refine sg hF rfl rfl rfl rfl (fun w hx => gv_move rfl (hF.t rfl)) fun a hF => ?_
  refine sw_gv hF rfl (wanted_of hF rfl rfl (rfl)) rfl rfl (fun w hx => gv_move rfl (hF.t rfl)) fun a hF => ?_
  refine sw_gv hF rfl (wanted_of hF rfl rfl (rfl)) rfl rfl (fun w hx => gv_nilCheck rfl (hF.t rfl)) fun a hF => ?_
  refine sw_gv hF rfl (wanted_of hF rfl rfl (rfl)) rfl rfl (fun w hx => gv_field (r := 0) rfl u47 rfl rfl z35 (by decide) (hF.t rfl)) fun a hF => ?_
  refine sw_eff rfl (stp_call hF (wanted_of hF rfl rfl (rfl)) rfl rfl Tryd.ok21 rfl (Evs.cons (hF.t rfl) Evs.nil) (num_ok (hX1.cells (hO.ext (hS.toExt nw_nil)) (fun e he => List.mem_cons_of_mem _ (List.mem_append_left _ (List.mem_append_left _ he)))).1) fun e w h => ?_)
  obtain ⟨rfl, hx⟩ := h
  refine ⟨_, rfl, fun a hF => ?_⟩
  replace hS := hS.ext hx
  clear hx
  refine ⟨hS.toExt nw_nil, ?_⟩
  refine sw_gv hF rfl (wanted_of hF rfl rfl (rfl)) rfl rfl (fun w hx => gv_move rfl (hF.t rfl)) fun a hF => ?_
  refine sw_gv hF rfl (wanted_of hF rfl rfl (rfl)) rfl rfl (fun w hx => gv_nilCheck rfl (hF.t rfl)) fun a hF => ?_
  refine sw_gv hF rfl (wanted_of hF rfl rfl (rfl)) rfl rfl (fun w hx => gv_field (r := 0) rfl u53 rfl rfl z50 (by decide) (hF.t rfl)) fun a hF => ?_
  refine sw_gv hF rfl (wanted_of hF rfl rfl (rfl)) rfl rfl (fun w hx => gv_field (r := 4) rfl u50 rfl rfl z3 (by decide) (hF.t rfl)) fun a hF => ?_
  refine sw_gv hF rfl (wanted_of hF rfl rfl (rfl)) rfl rfl (fun w hx => gv_load rfl u3 rfl (hF.t rfl) (cell_ix (j := 4) ((hO.ext hx).cell (k := 0) rfl (rfl)) (by omega))) fun a hF => ?_
  refine sw_gv hF rfl (wanted_of hF rfl rfl (rfl)) rfl rfl (fun w hx => gv_conv_i_w rfl u3 u32 (hF.t rfl)) fun a hF => ?_
  refine sw_gv hF rfl (wanted_of hF rfl rfl (rfl)) rfl rfl (fun w hx => gv_eqlT rfl (hF.t rfl) (hF.t rfl) (rfl)) fun a hF => ?_
  refine sg hF rfl rfl rfl rfl (fun w hx => gv_pickT rfl (hF.t rfl) (hF.t rfl)) fun a hF => ?_
  refine sg hF rfl rfl rfl rfl (fun w hx => gv_move rfl (hF.t rfl)) fun a hF => ?_
  refine sw_gv hF rfl (wanted_of hF rfl rfl (rfl)) rfl rfl (fun w hx => gv_move rfl (hF.t rfl)) fun a hF => ?_
  refine sw_gv hF rfl (wanted_of hF rfl rfl (rfl)) rfl rfl (fun w hx => gv_nilCheck rfl (hF.t rfl)) fun a hF => ?_
  refine sw_gv hF rfl (wanted_of hF rfl rfl (rfl)) rfl rfl (fun w hx => gv_field (r := 0) rfl u47 rfl rfl z35 (by decide) (hF.t rfl)) fun a hF => ?_
  refine sw_eff rfl (stp_call hF (wanted_of hF rfl rfl (rfl)) rfl rfl Tryd.ok24 rfl (Evs.cons (hF.t rfl) Evs.nil) (cnt_q (hX1.cells (hO.ext (hS.toExt nw_nil)) (fun e he => List.mem_cons_of_mem _ (List.mem_append_left _ (List.mem_append_left _ he)))).2) fun e w h => ?_)
  obtain ⟨rfl, hx⟩ := h
  refine ⟨_, rfl, fun a hF => ?_⟩
  replace hS := hS.ext hx
  clear hx
  refine ⟨hS.toExt nw_nil, ?_⟩
  refine sw_gv hF rfl (wanted_of hF rfl rfl (rfl)) rfl rfl (fun w hx => gv_move rfl (hF.t rfl)) fun a hF => ?_
  refine sw_gv hF rfl (wanted_of hF rfl rfl (rfl)) rfl rfl (fun w hx => gv_nilCheck rfl (hF.t rfl)) fun a hF => ?_
  refine sw_gv hF rfl (wanted_of hF rfl rfl (rfl)) rfl rfl (fun w hx => gv_field (r := 0) rfl u53 rfl rfl z50 (by decide) (hF.t rfl)) fun a hF => ?_
  refine sw_gv hF rfl (wanted_of hF rfl rfl (rfl)) rfl rfl (fun w hx => gv_field (r := 5) rfl u50 rfl rfl z3 (by decide) (hF.t rfl)) fun a hF => ?_
  refine sw_gv hF rfl (wanted_of hF rfl rfl (rfl)) rfl rfl (fun w hx => gv_load rfl u3 rfl (hF.t rfl) (cell_ix (j := 5) ((hO.ext hx).cell (k := 0) rfl (rfl)) (by omega))) fun a hF => ?_
  refine sw_gv hF rfl (wanted_of hF rfl rfl (rfl)) rfl rfl (fun w hx => gv_eqlT rfl (hF.t rfl) (hF.t rfl) (rfl)) fun a hF => ?_
  refine sg hF rfl rfl rfl rfl (fun w hx => gv_pickT rfl (hF.t rfl) (hF.t rfl)) fun a hF => ?_
  refine sg hF rfl rfl rfl rfl (fun w hx => gv_move rfl (hF.t rfl)) fun a hF => ?_
  refine sw_gv hF rfl (wanted_of hF rfl rfl (rfl)) rfl rfl (fun w hx => gv_move rfl (hF.t rfl)) fun a hF => ?_
  refine sw_gv hF rfl (wanted_of hF rfl rfl (rfl)) rfl rfl (fun w hx => gv_neqT rfl (hF.t rfl) (ev_const _ _) (by omega)) fun a hF => ?_
  refine sw_gv hF rfl (wanted_of hF rfl rfl (rfl)) rfl rfl (fun w hx => gv_move rfl (hF.t rfl)) fun a hF => ?_
  refine sw_gv hF rfl (wanted_of hF rfl rfl (rfl)) rfl rfl (fun w hx => gv_move rfl (hF.t rfl)) fun a hF => ?_
  refine sw_gv hF rfl (wanted_of hF rfl rfl (rfl)) rfl rfl (fun w hx => gv_neqF rfl (hF.t rfl) (ev_const _ _) (by omega)) fun a hF => ?_
  refine sw_gv hF rfl (wanted_of hF rfl rfl (rfl)) rfl rfl (fun w hx => gv_pickT rfl (hF.t rfl) (hF.t rfl)) fun a hF => ?_
  refine sw_gv hF rfl (wanted_of hF rfl rfl (rfl)) rfl rfl (fun w hx => gv_move rfl (hF.t rfl)) fun a hF => ?_
  refine sw_gv hF rfl (wanted_of hF rfl rfl (rfl)) rfl rfl (fun w hx => gv_move rfl (hF.t rfl)) fun a hF => ?_
  refine sw_eff rfl (stp_call hF (wanted_of hF rfl rfl (rfl)) rfl rfl Tryd.ok18 rfl (Evs.cons (hF.t rfl) Evs.nil) (pleft_g hX1 ((hO.ext (hS.toExt nw_nil)).perm perm_back)) fun e w h => ?_)
  obtain ⟨rfl, hx⟩ := h
  refine ⟨_, rfl, fun a hF => ?_⟩
  replace hS := hS.ext hx
  clear hx
  refine ⟨hS.toExt nw_nil, ?_⟩
  have hlv : leftQ Q.2 = true := by rw [left_val hdd, decide_eq_true hb0, Bool.true_or]
  rw [hlv] at hF
  refine sw_gv hF rfl (wanted_of hF rfl rfl (rfl)) rfl rfl (fun w hx => gv_move rfl (hF.t rfl)) fun a hF => ?_
  refine sw_gv hF rfl (wanted_of hF rfl rfl (rfl)) rfl rfl (fun w hx => gv_nilCheck rfl (hF.t rfl)) fun a hF => ?_
  refine sw_gv hF rfl (wanted_of hF rfl rfl (rfl)) rfl rfl (fun w hx => gv_field (r := 6) rfl u53 rfl rfl z22 (by decide) (hF.t rfl)) fun a hF => ?_
  refine sw_gv hF rfl (wanted_of hF rfl rfl (rfl)) rfl rfl (fun w hx => gv_load rfl u22 rfl (hF.t rfl) (cell_ix (j := 6) ((hO.ext hx).cell (k := 0) rfl (rfl)) (by omega))) fun a hF => ?_
  refine sw_gv hF rfl (wanted_of hF rfl rfl (rfl)) rfl rfl (fun w hx => gv_len rfl u22 (hF.t rfl)) fun a hF => ?_
  refine sw_gv hF rfl (wanted_of hF rfl rfl (rfl)) rfl rfl (fun w hx => gv_gtrT rfl (hF.t rfl) (ev_const _ _) (by omega)) fun a hF => ?_
  refine sw_gv hF rfl (wanted_of hF rfl rfl (rfl)) rfl rfl (fun w hx => gv_move rfl (hF.t rfl)) fun a hF => ?_
  refine sw_skip hF rfl (unwanted_of hF rfl rfl (rfl) rfl) rfl rfl fun a hF => ?_
  refine sw_skip hF rfl (unwanted_of hF rfl rfl (rfl) rfl) rfl rfl fun a hF => ?_
  refine sw_skip hF rfl (unwanted_of hF rfl rfl (rfl) rfl) rfl rfl fun a hF => ?_
  refine sw_skip hF rfl (unwanted_of hF rfl rfl (rfl) rfl) rfl rfl fun a hF => ?_
  refine sw_skip hF rfl (unwanted_of hF rfl rfl (rfl) rfl) rfl rfl fun a hF => ?_
  refine sw_gv hF rfl (wanted_of hF rfl rfl (rfl)) rfl rfl (fun w hx => gv_pickT rfl (hF.t rfl) (ev_const _ _)) fun a hF => ?_
  refine sw_gv hF rfl (wanted_of hF rfl rfl (rfl)) rfl rfl (fun w hx => gv_boolEql rfl u4 (hF.t rfl) (hF.t rfl)) fun a hF => ?_
  rw [decide_eq_true rfl] at hF
  refine sw_gv hF rfl (wanted_of hF rfl rfl (rfl)) rfl rfl (fun w hx => gv_pickF rfl (hF.t rfl) (hF.t rfl)) fun a hF => ?_
  refine sg hF rfl rfl rfl rfl (fun w hx => gv_pickT rfl (hF.t rfl) (hF.t rfl)) fun a hF => ?_
  refine sg hF rfl rfl rfl rfl (fun w hx => gv_move rfl (hF.t rfl)) fun a hF => ?_
  refine sg hF rfl rfl rfl rfl (fun w hx => gv_eqlF rfl (hF.t rfl) (ev_const _ _) (by omega)) fun a hF => ?_
  refine sg hF rfl rfl rfl rfl (fun w hx => gv_assign rfl (hF.t rfl)) fun a hF => ?_
  refine sg hF rfl rfl rfl rfl (fun w hx => gv_assign rfl (hF.t rfl)) fun a hF => ?_
  refine sw_nil ?_
  replace hS := hO.join hS nw_nil
  simp only [List.cons_append, List.nil_append] at hS
  clear hO
  refine run_done (by decide) ?_
  refine tN (hKq6 _ _ ?_)
  refine wp_ret ?_
  refine ret2 (fn := Tryd.f26) (t := 4) (u := 5) hF rfl rfl rfl ?_
  rw [← hQ]
  rw [List.append_assoc] at hR1
  exact ⟨by rw [decide_eq_false (by omega)], X1, Y ++ Y2, _, _, hX1, nw_app hY hY2, hR1, hS.perm perm_back⟩
 ·
  refine wK fun Kq7 hKq7 => ?_
  refine Fw.wp_region_draw (by kernel_rfl) fun w hx => ?_
  replace hS := hS.ext hx
  clear hx
  refine run_swalk _ 0 65 [14, 27, 44] [[23, 14], [42, 35, 27]] _ (by kernel_rfl) (by kernel_rfl) rfl hF.size ?_
  have hO := hS
  clear hS
  have hS := St.refl w
  refine sg hF rfl rfl rfl rfl (fun w hx => gv_move rfl (hF.t rfl)) fun a hF => ?_
  refine sg hF rfl rfl rfl rfl (fun w hx => gv_move rfl (hF.t rfl)) fun a hF => ?_
  refine sg hF rfl rfl rfl rfl (fun w hx => gv_eqlT rfl (hF.t rfl) (hF.t rfl) (rfl)) fun a hF => ?_
  refine sg hF rfl rfl rfl rfl (fun w hx => gv_move rfl (hF.t rfl)) fun a hF => ?_
  refine sw_gv hF rfl (wanted_of hF rfl rfl (rfl)) rfl rfl (fun w hx => gv_move rfl (hF.t rfl)) fun a hF => ?_
  refine sw_gv hF rfl (wanted_of hF rfl rfl (rfl)) rfl rfl (fun w hx => gv_convStr (l := Q.1.1) rfl u22 u5 u9 (hF.t rfl) (hv1 w _ (hO.ext hx) (nw_cons rfl (nw_app (nw_app hX1.nw (nw_app hT hY)) hY2)) (fun e he => List.mem_cons_of_mem _ (List.mem_append_left _ (List.mem_append_right _ (List.mem_append_right _ he)))))) fun a hF => ?_
  refine sw_gv hF rfl (wanted_of hF rfl rfl (rfl)) rfl rfl (fun w hx => gv_move rfl (hF.t rfl)) fun a hF => ?_
  refine sw_gv hF rfl (wanted_of hF rfl rfl (rfl)) rfl rfl (fun w hx => gv_convStr (l := Q.1.1) rfl u22 u5 u9 (hF.t rfl) (hw2 w _ (hO.ext hx) (nw_cons rfl (nw_app (nw_app hX1.nw (nw_app hT hY)) hY2)) (fun e he => List.mem_cons_of_mem _ (sub3 h0 he)))) fun a hF => ?_
  refine sw_gv hF rfl (wanted_of hF rfl rfl (rfl)) rfl rfl (fun w hx => gv_strEqlT rfl (hF.t rfl) (hF.t rfl) rfl) fun a hF => ?_
  refine sg hF rfl rfl rfl rfl (fun w hx => gv_pickT rfl (hF.t rfl) (hF.t rfl)) fun a hF => ?_
  refine sg hF rfl rfl rfl rfl (fun w hx => gv_move rfl (hF.t rfl)) fun a hF => ?_
  refine sw_gv hF rfl (wanted_of hF rfl rfl (rfl)) rfl rfl (fun w hx => gv_move rfl (hF.t rfl)) fun a hF => ?_
  refine sw_gv hF rfl (wanted_of hF rfl rfl (rfl)) rfl rfl (fun w hx => gv_nilCheck rfl (hF.t rfl)) fun a hF => ?_
  refine sw_gv hF rfl (wanted_of hF rfl rfl (rfl)) rfl rfl (fun w hx => gv_field (r := 0) rfl u47 rfl rfl z35 (by decide) (hF.t rfl)) fun a hF => ?_
  refine sw_eff rfl (stp_call hF (wanted_of hF rfl rfl (rfl)) rfl rfl Tryd.ok21 rfl (Evs.cons (hF.t rfl) Evs.nil) (num_ok (hX1.cells (hO.ext (hS.toExt nw_nil)) (fun e he => List.mem_cons_of_mem _ (List.mem_append_left _ (List.mem_append_left _ he)))).1) fun e w h => ?_)
  obtain ⟨rfl, hx⟩ := h
  refine ⟨_, rfl, fun a hF => ?_⟩
  replace hS := hS.ext hx
  clear hx
  refine ⟨hS.toExt nw_nil, ?_⟩
  refine sw_gv hF rfl (wanted_of hF rfl rfl (rfl)) rfl rfl (fun w hx => gv_move rfl (hF.t rfl)) fun a hF => ?_
  refine sw_gv hF rfl (wanted_of hF rfl rfl (rfl)) rfl rfl (fun w hx => gv_nilCheck rfl (hF.t rfl)) fun a hF => ?_
  refine sw_gv hF rfl (wanted_of hF rfl rfl (rfl)) rfl rfl (fun w hx => gv_field (r := 0) rfl u53 rfl rfl z50 (by decide) (hF.t rfl)) fun a hF => ?_
  refine sw_gv hF rfl (wanted_of hF rfl rfl (rfl)) rfl rfl (fun w hx => gv_field (r := 4) rfl u50 rfl rfl z3 (by decide) (hF.t rfl)) fun a hF => ?_
  refine sw_gv hF rfl (wanted_of hF rfl rfl (rfl)) rfl rfl (fun w hx => gv_load rfl u3 rfl (hF.t rfl) (cell_ix (j := 4) ((hO.ext hx).cell (k := 0) rfl (rfl)) (by omega))) fun a hF => ?_
  refine sw_gv hF rfl (wanted_of hF rfl rfl (rfl)) rfl rfl (fun w hx => gv_conv_i_w rfl u3 u32 (hF.t rfl)) fun a hF => ?_
  refine sw_gv hF rfl (wanted_of hF rfl rfl (rfl)) rfl rfl (fun w hx => gv_eqlT rfl (hF.t rfl) (hF.t rfl) (rfl)) fun a hF => ?_
  refine sg hF rfl rfl rfl rfl (fun w hx => gv_pickT rfl (hF.t rfl) (hF.t rfl)) fun a hF => ?_
  refine sg hF rfl rfl rfl rfl (fun w hx => gv_move rfl (hF.t rfl)) fun a hF => ?_
  refine sw_gv hF rfl (wanted_of hF rfl rfl (rfl)) rfl rfl (fun w hx => gv_move rfl (hF.t rfl)) fun a hF => ?_
  refine sw_gv hF rfl (wanted_of hF rfl rfl (rfl)) rfl rfl (fun w hx => gv_nilCheck rfl (hF.t rfl)) fun a hF => ?_
  refine sw_gv hF rfl (wanted_of hF rfl rfl (rfl)) rfl rfl (fun w hx => gv_field (r := 0) rfl u47 rfl rfl z35 (by decide) (hF.t rfl)) fun a hF => ?_
  refine sw_eff rfl (stp_call hF (wanted_of hF rfl rfl (rfl)) rfl rfl Tryd.ok24 rfl (Evs.cons (hF.t rfl) Evs.nil) (cnt_q (hX1.cells (hO.ext (hS.toExt nw_nil)) (fun e he => List.mem_cons_of_mem _ (List.mem_append_left _ (List.mem_append_left _ he)))).2) fun e w h => ?_)
  obtain ⟨rfl, hx⟩ := h
  refine ⟨_, rfl, fun a hF => ?_⟩
  replace hS := hS.ext hx
  clear hx
  refine ⟨hS.toExt nw_nil, ?_⟩
  refine sw_gv hF rfl (wanted_of hF rfl rfl (rfl)) rfl rfl (fun w hx => gv_move rfl (hF.t rfl)) fun a hF => ?_
  refine sw_gv hF rfl (wanted_of hF rfl rfl (rfl)) rfl rfl (fun w hx => gv_nilCheck rfl (hF.t rfl)) fun a hF => ?_
  refine sw_gv hF rfl (wanted_of hF rfl rfl (rfl)) rfl rfl (fun w hx => gv_field (r := 0) rfl u53 rfl rfl z50 (by decide) (hF.t rfl)) fun a hF => ?_
  refine sw_gv hF rfl (wanted_of hF rfl rfl (rfl)) rfl rfl (fun w hx => gv_field (r := 5) rfl u50 rfl rfl z3 (by decide) (hF.t rfl)) fun a hF => ?_
  refine sw_gv hF rfl (wanted_of hF rfl rfl (rfl)) rfl rfl (fun w hx => gv_load rfl u3 rfl (hF.t rfl) (cell_ix (j := 5) ((hO.ext hx).cell (k := 0) rfl (rfl)) (by omega))) fun a hF => ?_
  refine sw_gv hF rfl (wanted_of hF rfl rfl (rfl)) rfl rfl (fun w hx => gv_eqlT rfl (hF.t rfl) (hF.t rfl) (rfl)) fun a hF => ?_
  refine sg hF rfl rfl rfl rfl (fun w hx => gv_pickT rfl (hF.t rfl) (hF.t rfl)) fun a hF => ?_
  refine sg hF rfl rfl rfl rfl (fun w hx => gv_move rfl (hF.t rfl)) fun a hF => ?_
  refine sw_gv hF rfl (wanted_of hF rfl rfl (rfl)) rfl rfl (fun w hx => gv_move rfl (hF.t rfl)) fun a hF => ?_
  refine sw_gv hF rfl (wanted_of hF rfl rfl (rfl)) rfl rfl (fun w hx => gv_neqT rfl (hF.t rfl) (ev_const _ _) (by omega)) fun a hF => ?_
  refine sw_gv hF rfl (wanted_of hF rfl rfl (rfl)) rfl rfl (fun w hx => gv_move rfl (hF.t rfl)) fun a hF => ?_
  refine sw_gv hF rfl (wanted_of hF rfl rfl (rfl)) rfl rfl (fun w hx => gv_move rfl (hF.t rfl)) fun a hF => ?_
  refine sw_gv hF rfl (wanted_of hF rfl rfl (rfl)) rfl rfl (fun w hx => gv_neqF rfl (hF.t rfl) (ev_const _ _) (by omega)) fun a hF => ?_
  refine sw_gv hF rfl (wanted_of hF rfl rfl (rfl)) rfl rfl (fun w hx => gv_pickT rfl (hF.t rfl) (hF.t rfl)) fun a hF => ?_
  refine sw_gv hF rfl (wanted_of hF rfl rfl (rfl)) rfl rfl (fun w hx => gv_move rfl (hF.t rfl)) fun a hF => ?_
  refine sw_gv hF rfl (wanted_of hF rfl rfl (rfl)) rfl rfl (fun w hx => gv_move rfl (hF.t rfl)) fun a hF => ?_
  refine sw_eff rfl (stp_call hF (wanted_of hF rfl rfl (rfl)) rfl rfl Tryd.ok18 rfl (Evs.cons (hF.t rfl) Evs.nil) (pleft_g hX1 ((hO.ext (hS.toExt nw_nil)).perm perm_back)) fun e w h => ?_)
  obtain ⟨rfl, hx⟩ := h
  refine ⟨_, rfl, fun a hF => ?_⟩
  replace hS := hS.ext hx
  clear hx
  refine ⟨hS.toExt nw_nil, ?_⟩
  have hlv : leftQ Q.2 = false := by rw [left_val hdd, decide_eq_false hb0, Bool.false_or, hhd]
  rw [hlv] at hF
  refine sw_gv hF rfl (wanted_of hF rfl rfl (rfl)) rfl rfl (fun w hx => gv_move rfl (hF.t rfl)) fun a hF => ?_
  refine sw_gv hF rfl (wanted_of hF rfl rfl (rfl)) rfl rfl (fun w hx => gv_nilCheck rfl (hF.t rfl)) fun a hF => ?_
  refine sw_gv hF rfl (wanted_of hF rfl rfl (rfl)) rfl rfl (fun w hx => gv_field (r := 6) rfl u53 rfl rfl z22 (by decide) (hF.t rfl)) fun a hF => ?_
  refine sw_gv hF rfl (wanted_of hF rfl rfl (rfl)) rfl rfl (fun w hx => gv_load rfl u22 rfl (hF.t rfl) (cell_ix (j := 6) ((hO.ext hx).cell (k := 0) rfl (rfl)) (by omega))) fun a hF => ?_
  refine sw_gv hF rfl (wanted_of hF rfl rfl (rfl)) rfl rfl (fun w hx => gv_len rfl u22 (hF.t rfl)) fun a hF => ?_
  refine sw_gv hF rfl (wanted_of hF rfl rfl (rfl)) rfl rfl (fun w hx => gv_gtrF rfl (hF.t rfl) (ev_const _ _) (by omega)) fun a hF => ?_
  refine sw_gv hF rfl (wanted_of hF rfl rfl (rfl)) rfl rfl (fun w hx => gv_move rfl (hF.t rfl)) fun a hF => ?_
  refine sw_gv hF rfl (wanted_of hF rfl rfl (rfl)) rfl rfl (fun w hx => gv_move rfl (hF.t rfl)) fun a hF => ?_
  refine sw_gv hF rfl (wanted_of hF rfl rfl (rfl)) rfl rfl (fun w hx => gv_nilCheck rfl (hF.t rfl)) fun a hF => ?_
  refine sw_gv hF rfl (wanted_of hF rfl rfl (rfl)) rfl rfl (fun w hx => gv_field (r := 7) rfl u53 rfl rfl z22 (by decide) (hF.t rfl)) fun a hF => ?_
  refine sw_gv hF rfl (wanted_of hF rfl rfl (rfl)) rfl rfl (fun w hx => gv_load rfl u22 rfl (hF.t rfl) (cell_ix (j := 7) ((hO.ext hx).cell (k := 0) rfl (rfl)) (by omega))) fun a hF => ?_
  refine sw_gv hF rfl (wanted_of hF rfl rfl (rfl)) rfl rfl (fun w hx => gv_neqNilS rfl u22 (hF.t rfl) (ev_const _ _)) fun a hF => ?_
  rw [hAh, hhd] at hF
  refine sw_gv hF rfl (wanted_of hF rfl rfl (rfl)) rfl rfl (fun w hx => gv_pickF rfl (hF.t rfl) (hF.t rfl)) fun a hF => ?_
  refine sw_gv hF rfl (wanted_of hF rfl rfl (rfl)) rfl rfl (fun w hx => gv_boolEql rfl u4 (hF.t rfl) (hF.t rfl)) fun a hF => ?_
  rw [decide_eq_true rfl] at hF
  refine sw_gv hF rfl (wanted_of hF rfl rfl (rfl)) rfl rfl (fun w hx => gv_pickF rfl (hF.t rfl) (hF.t rfl)) fun a hF => ?_
  refine sg hF rfl rfl rfl rfl (fun w hx => gv_pickT rfl (hF.t rfl) (hF.t rfl)) fun a hF => ?_
  refine sg hF rfl rfl rfl rfl (fun w hx => gv_move rfl (hF.t rfl)) fun a hF => ?_
  refine sg hF rfl rfl rfl rfl (fun w hx => gv_eqlF rfl (hF.t rfl) (ev_const _ _) (by omega)) fun a hF => ?_
  refine sg hF rfl rfl rfl rfl (fun w hx => gv_assign rfl (hF.t rfl)) fun a hF => ?_
  refine sg hF rfl rfl rfl rfl (fun w hx => gv_assign rfl (hF.t rfl)) fun a hF => ?_
  refine sw_nil ?_
  replace hS := hO.join hS nw_nil
  simp only [List.cons_append, List.nil_append] at hS
  clear hO
  refine run_done (by decide) ?_
  refine tN (hKq7 _ _ ?_)
  refine wp_ret ?_
  refine ret2 (fn := Tryd.f26) (t := 4) (u := 5) hF rfl rfl rfl ?_
  rw [← hQ]
  rw [List.append_assoc] at hR1
  exact ⟨by rw [decide_eq_false (by omega)], X1, Y ++ Y2, _, _, hX1, nw_app hY hY2, hR1, hS.perm perm_back⟩
 ·
  refine wK fun Kq8 hKq8 => ?_
  refine Fw.wp_region_draw (by kernel_rfl) fun w hx => ?_
  replace hS := hS.ext hx
  clear hx
  refine run_swalk _ 0 65 [14, 27, 44] [[23, 14], [42, 35, 27]] _ (by kernel_rfl) (by kernel_rfl) rfl hF.size ?_
  have hO := hS
  clear hS
  have hS := St.refl w
  refine sg hF rfl rfl rfl rfl (fun w hx => gv_move rfl (hF.t rfl)) fun a hF => ?_
  refine sg hF rfl rfl rfl rfl (fun w hx => gv_move rfl (hF.t rfl)) fun a hF => ?_
  refine sg hF rfl rfl rfl rfl (fun w hx => gv_eqlT rfl (hF.t rfl) (hF.t rfl) (rfl)) fun a hF => ?_
  refine sg hF rfl rfl rfl rfl (fun w hx => gv_move rfl (hF.t rfl)) fun a hF => ?_
  refine sw_gv hF rfl (wanted_of hF rfl rfl (rfl)) rfl rfl (fun w hx => gv_move rfl (hF.t rfl)) fun a hF => ?_
  refine sw_gv hF rfl (wanted_of hF rfl rfl (rfl)) rfl rfl (fun w hx => gv_convStr (l := Q.1.1) rfl u22 u5 u9 (hF.t rfl) (hv1 w _ (hO.ext hx) (nw_cons rfl (nw_app (nw_app hX1.nw (nw_app hT hY)) hY2)) (fun e he => List.mem_cons_of_mem _ (List.mem_append_left _ (List.mem_append_right _ (List.mem_append_right _ he)))))) fun a hF => ?_
  refine sw_gv hF rfl (wanted_of hF rfl rfl (rfl)) rfl rfl (fun w hx => gv_move rfl (hF.t rfl)) fun a hF => ?_
  refine sw_gv hF rfl (wanted_of hF rfl rfl (rfl)) rfl rfl (fun w hx => gv_convStr (l := Q.1.1) rfl u22 u5 u9 (hF.t rfl) (hw2 w _ (hO.ext hx) (nw_cons rfl (nw_app (nw_app hX1.nw (nw_app hT hY)) hY2)) (fun e he => List.mem_cons_of_mem _ (sub3 h0 he)))) fun a hF => ?_
  refine sw_gv hF rfl (wanted_of hF rfl rfl (rfl)) rfl rfl (fun w hx => gv_strEqlT rfl (hF.t rfl) (hF.t rfl) rfl) fun a hF => ?_
  refine sg hF rfl rfl rfl rfl (fun w hx => gv_pickT rfl (hF.t rfl) (hF.t rfl)) fun a hF => ?_
  refine sg hF rfl rfl rfl rfl (fun w hx => gv_move rfl (hF.t rfl)) fun a hF => ?_
  refine sw_gv hF rfl (wanted_of hF rfl rfl (rfl)) rfl rfl (fun w hx => gv_move rfl (hF.t rfl)) fun a hF => ?_
  refine sw_gv hF rfl (wanted_of hF rfl rfl (rfl)) rfl rfl (fun w hx => gv_nilCheck rfl (hF.t rfl)) fun a hF => ?_
  refine sw_gv hF rfl (wanted_of hF rfl rfl (rfl)) rfl rfl (fun w hx => gv_field (r := 0) rfl u47 rfl rfl z35 (by decide) (hF.t rfl)) fun a hF => ?_
  refine sw_eff rfl (stp_call hF (wanted_of hF rfl rfl (rfl)) rfl rfl Tryd.ok21 rfl (Evs.cons (hF.t rfl) Evs.nil) (num_ok (hX1.cells (hO.ext (hS.toExt nw_nil)) (fun e he => List.mem_cons_of_mem _ (List.mem_append_left _ (List.mem_append_left _ he)))).1) fun e w h => ?_)
  obtain ⟨rfl, hx⟩ := h
  refine ⟨_, rfl, fun a hF => ?_⟩
  replace hS := hS.ext hx
  clear hx
  refine ⟨hS.toExt nw_nil, ?_⟩
  refine sw_gv hF rfl (wanted_of hF rfl rfl (rfl)) rfl rfl (fun w hx => gv_move rfl (hF.t rfl)) fun a hF => ?_
  refine sw_gv hF rfl (wanted_of hF rfl rfl (rfl)) rfl rfl (fun w hx => gv_nilCheck rfl (hF.t rfl)) fun a hF => ?_
  refine sw_gv hF rfl (wanted_of hF rfl rfl (rfl)) rfl rfl (fun w hx => gv_field (r := 0) rfl u53 rfl rfl z50 (by decide) (hF.t rfl)) fun a hF => ?_
  refine sw_gv hF rfl (wanted_of hF rfl rfl (rfl)) rfl rfl (fun w hx => gv_field (r := 4) rfl u50 rfl rfl z3 (by decide) (hF.t rfl)) fun a hF => ?_
  refine sw_gv hF rfl (wanted_of hF rfl rfl (rfl)) rfl rfl (fun w hx => gv_load rfl u3 rfl (hF.t rfl) (cell_ix (j := 4) ((hO.ext hx).cell (k := 0) rfl (rfl)) (by omega))) fun a hF => ?_
  refine sw_gv hF rfl (wanted_of hF rfl rfl (rfl)) rfl rfl (fun w hx => gv_conv_i_w rfl u3 u32 (hF.t rfl)) fun a hF => ?_
  refine sw_gv hF rfl (wanted_of hF rfl rfl (rfl)) rfl rfl (fun w hx => gv_eqlT rfl (hF.t rfl) (hF.t rfl) (rfl)) fun a hF => ?_
  refine sg hF rfl rfl rfl rfl (fun w hx => gv_pickT rfl (hF.t rfl) (hF.t rfl)) fun a hF => ?_
  refine sg hF rfl rfl rfl rfl (fun w hx => gv_move rfl (hF.t rfl)) fun a hF => ?_
  refine sw_gv hF rfl (wanted_of hF rfl rfl (rfl)) rfl rfl (fun w hx => gv_move rfl (hF.t rfl)) fun a hF => ?_
  refine sw_gv hF rfl (wanted_of hF rfl rfl (rfl)) rfl rfl (fun w hx => gv_nilCheck rfl (hF.t rfl)) fun a hF => ?_
  refine sw_gv hF rfl (wanted_of hF rfl rfl (rfl)) rfl rfl (fun w hx => gv_field (r := 0) rfl u47 rfl rfl z35 (by decide) (hF.t rfl)) fun a hF => ?_
  refine sw_eff rfl (stp_call hF (wanted_of hF rfl rfl (rfl)) rfl rfl Tryd.ok24 rfl (Evs.cons (hF.t rfl) Evs.nil) (cnt_q (hX1.cells (hO.ext (hS.toExt nw_nil)) (fun e he => List.mem_cons_of_mem _ (List.mem_append_left _ (List.mem_append_left _ he)))).2) fun e w h => ?_)
  obtain ⟨rfl, hx⟩ := h
  refine ⟨_, rfl, fun a hF => ?_⟩
  replace hS := hS.ext hx
  clear hx
  refine ⟨hS.toExt nw_nil, ?_⟩
  refine sw_gv hF rfl (wanted_of hF rfl rfl (rfl)) rfl rfl (fun w hx => gv_move rfl (hF.t rfl)) fun a hF => ?_
  refine sw_gv hF rfl (wanted_of hF rfl rfl (rfl)) rfl rfl (fun w hx => gv_nilCheck rfl (hF.t rfl)) fun a hF => ?_
  refine sw_gv hF rfl (wanted_of hF rfl rfl (rfl)) rfl rfl (fun w hx => gv_field (r := 0) rfl u53 rfl rfl z50 (by decide) (hF.t rfl)) fun a hF => ?_
  refine sw_gv hF rfl (wanted_of hF rfl rfl (rfl)) rfl rfl (fun w hx => gv_field (r := 5) rfl u50 rfl rfl z3 (by decide) (hF.t rfl)) fun a hF => ?_
  refine sw_gv hF rfl (wanted_of hF rfl rfl (rfl)) rfl rfl (fun w hx => gv_load rfl u3 rfl (hF.t rfl) (cell_ix (j := 5) ((hO.ext hx).cell (k := 0) rfl (rfl)) (by omega))) fun a hF => ?_
  refine sw_gv hF rfl (wanted_of hF rfl rfl (rfl)) rfl rfl (fun w hx => gv_eqlT rfl (hF.t rfl) (hF.t rfl) (rfl)) fun a hF => ?_
  refine sg hF rfl rfl rfl rfl (fun w hx => gv_pickT rfl (hF.t rfl) (hF.t rfl)) fun a hF => ?_
  refine sg hF rfl rfl rfl rfl (fun w hx => gv_move rfl (hF.t rfl)) fun a hF => ?_
  refine sw_gv hF rfl (wanted_of hF rfl rfl (rfl)) rfl rfl (fun w hx => gv_move rfl (hF.t rfl)) fun a hF => ?_
  refine sw_gv hF rfl (wanted_of hF rfl rfl (rfl)) rfl rfl (fun w hx => gv_neqT rfl (hF.t rfl) (ev_const _ _) (by omega)) fun a hF => ?_
  refine sw_gv hF rfl (wanted_of hF rfl rfl (rfl)) rfl rfl (fun w hx => gv_move rfl (hF.t rfl)) fun a hF => ?_
  refine sw_gv hF rfl (wanted_of hF rfl rfl (rfl)) rfl rfl (fun w hx => gv_move rfl (hF.t rfl)) fun a hF => ?_
  refine sw_gv hF rfl (wanted_of hF rfl rfl (rfl)) rfl rfl (fun w hx => gv_neqF rfl (hF.t rfl) (ev_const _ _) (by omega)) fun a hF => ?_
  refine sw_gv hF rfl (wanted_of hF rfl rfl (rfl)) rfl rfl (fun w hx => gv_pickT rfl (hF.t rfl) (hF.t rfl)) fun a hF => ?_
  refine sw_gv hF rfl (wanted_of hF rfl rfl (rfl)) rfl rfl (fun w hx => gv_move rfl (hF.t rfl)) fun a hF => ?_
  refine sw_gv hF rfl (wanted_of hF rfl rfl (rfl)) rfl rfl (fun w hx => gv_move rfl (hF.t rfl)) fun a hF => ?_
  refine sw_eff rfl (stp_call hF (wanted_of hF rfl rfl (rfl)) rfl rfl Tryd.ok18 rfl (Evs.cons (hF.t rfl) Evs.nil) (pleft_g hX1 ((hO.ext (hS.toExt nw_nil)).perm perm_back)) fun e w h => ?_)
  obtain ⟨rfl, hx⟩ := h
  refine ⟨_, rfl, fun a hF => ?_⟩
  replace hS := hS.ext hx
  clear hx
  refine ⟨hS.toExt nw_nil, ?_⟩
  have hlv : leftQ Q.2 = true := by rw [left_val hdd, decide_eq_false hb0, Bool.false_or, hhd]
  rw [hlv] at hF
  refine sw_gv hF rfl (wanted_of hF rfl rfl (rfl)) rfl rfl (fun w hx => gv_move rfl (hF.t rfl)) fun a hF => ?_
  refine sw_gv hF rfl (wanted_of hF rfl rfl (rfl)) rfl rfl (fun w hx => gv_nilCheck rfl (hF.t rfl)) fun a hF => ?_
  refine sw_gv hF rfl (wanted_of hF rfl rfl (rfl)) rfl rfl (fun w hx => gv_field (r := 6) rfl u53 rfl rfl z22 (by decide) (hF.t rfl)) fun a hF => ?_
  refine sw_gv hF rfl (wanted_of hF rfl rfl (rfl)) rfl rfl (fun w hx => gv_load rfl u22 rfl (hF.t rfl) (cell_ix (j := 6) ((hO.ext hx).cell (k := 0) rfl (rfl)) (by omega))) fun a hF => ?_
  refine sw_gv hF rfl (wanted_of hF rfl rfl (rfl)) rfl rfl (fun w hx => gv_len rfl u22 (hF.t rfl)) fun a hF => ?_
  refine sw_gv hF rfl (wanted_of hF rfl rfl (rfl)) rfl rfl (fun w hx => gv_gtrF rfl (hF.t rfl) (ev_const _ _) (by omega)) fun a hF => ?_
  refine sw_gv hF rfl (wanted_of hF rfl rfl (rfl)) rfl rfl (fun w hx => gv_move rfl (hF.t rfl)) fun a hF => ?_
  refine sw_gv hF rfl (wanted_of hF rfl rfl (rfl)) rfl rfl (fun w hx => gv_move rfl (hF.t rfl)) fun a hF => ?_
  refine sw_gv hF rfl (wanted_of hF rfl rfl (rfl)) rfl rfl (fun w hx => gv_nilCheck rfl (hF.t rfl)) fun a hF => ?_
  refine sw_gv hF rfl (wanted_of hF rfl rfl (rfl)) rfl rfl (fun w hx => gv_field (r := 7) rfl u53 rfl rfl z22 (by decide) (hF.t rfl)) fun a hF => ?_
  refine sw_gv hF rfl (wanted_of hF rfl rfl (rfl)) rfl rfl (fun w hx => gv_load rfl u22 rfl (hF.t rfl) (cell_ix (j := 7) ((hO.ext hx).cell (k := 0) rfl (rfl)) (by omega))) fun a hF => ?_
  refine sw_gv hF rfl (wanted_of hF rfl rfl (rfl)) rfl rfl (fun w hx => gv_neqNilS rfl u22 (hF.t rfl) (ev_const _ _)) fun a hF => ?_
  rw [hAh, hhd] at hF
  refine sw_gv hF rfl (wanted_of hF rfl rfl (rfl)) rfl rfl (fun w hx => gv_pickF rfl (hF.t rfl) (hF.t rfl)) fun a hF => ?_
  refine sw_gv hF rfl (wanted_of hF rfl rfl (rfl)) rfl rfl (fun w hx => gv_boolEql rfl u4 (hF.t rfl) (hF.t rfl)) fun a hF => ?_
  rw [decide_eq_true rfl] at hF
  refine sw_gv hF rfl (wanted_of hF rfl rfl (rfl)) rfl rfl (fun w hx => gv_pickF rfl (hF.t rfl) (hF.t rfl)) fun a hF => ?_
  refine sg hF rfl rfl rfl rfl (fun w hx => gv_pickT rfl (hF.t rfl) (hF.t rfl)) fun a hF => ?_
  refine sg hF rfl rfl rfl rfl (fun w hx => gv_move rfl (hF.t rfl)) fun a hF => ?_
  refine sg hF rfl rfl rfl rfl (fun w hx => gv_eqlF rfl (hF.t rfl) (ev_const _ _) (by omega)) fun a hF => ?_
  refine sg hF rfl rfl rfl rfl (fun w hx => gv_assign rfl (hF.t rfl)) fun a hF => ?_
  refine sg hF rfl rfl rfl rfl (fun w hx => gv_assign rfl (hF.t rfl)) fun a hF => ?_
  refine sw_nil ?_
  replace hS := hO.join hS nw_nil
  simp only [List.cons_append, List.nil_append] at hS
  clear hO
  refine run_done (by decide) ?_
  refine tN (hKq8 _ _ ?_)
  refine wp_ret ?_
  refine ret2 (fn := Tryd.f26) (t := 4) (u := 5) hF rfl rfl rfl ?_
  rw [← hQ]
  rw [List.append_assoc] at hR1
  exact ⟨by rw [decide_eq_false (by omega)], X1, Y ++ Y2, _, _, hX1, nw_app hY hY2, hR1, hS.perm perm_back⟩
 ·
  refine wK fun Kq9 hKq9 => ?_
  refine Fw.wp_region_draw (by kernel_rfl) fun w hx => ?_
  replace hS := hS.ext hx
  clear hx
  refine run_swalk _ 0 65 [14, 27, 44] [[23, 14], [42, 35, 27]] _ (by kernel_rfl) (by kernel_rfl) rfl hF.size ?_
  have hO := hS
  clear hS
  have hS := St.refl w
  refine sg hF rfl rfl rfl rfl (fun w hx => gv_move rfl (hF.t rfl)) fun a hF => ?_
  refine sg hF rfl rfl rfl rfl (fun w hx => gv_move rfl (hF.t rfl)) fun a hF => ?_
  refine sg hF rfl rfl rfl rfl (fun w hx => gv_eqlT rfl (hF.t rfl) (hF.t rfl) (rfl)) fun a hF => ?_
  refine sg hF rfl rfl rfl rfl (fun w hx => gv_move rfl (hF.t rfl)) fun a hF => ?_
  refine sw_gv hF rfl (wanted_of hF rfl rfl (rfl)) rfl rfl (fun w hx => gv_move rfl (hF.t rfl)) fun a hF => ?_
  refine sw_gv hF rfl (wanted_of hF rfl rfl (rfl)) rfl rfl (fun w hx => gv_convStr (l := Q.1.1) rfl u22 u5 u9 (hF.t rfl) (hv1 w _ (hO.ext hx) (nw_cons rfl (nw_app (nw_app hX1.nw (nw_app hT hY)) hY2)) (fun e he => List.mem_cons_of_mem _ (List.mem_append_left _ (List.mem_append_right _ (List.mem_append_right _ he)))))) fun a hF => ?_
  refine sw_gv hF rfl (wanted_of hF rfl rfl (rfl)) rfl rfl (fun w hx => gv_move rfl (hF.t rfl)) fun a hF => ?_
  refine sw_gv hF rfl (wanted_of hF rfl rfl (rfl)) rfl rfl (fun w hx => gv_convStr (l := Q.1.1) rfl u22 u5 u9 (hF.t rfl) (hw2 w _ (hO.ext hx) (nw_cons rfl (nw_app (nw_app hX1.nw (nw_app hT hY)) hY2)) (fun e he => List.mem_cons_of_mem _ (sub3 h0 he)))) fun a hF => ?_
  refine sw_gv hF rfl (wanted_of hF rfl rfl (rfl)) rfl rfl (fun w hx => gv_strEqlT rfl (hF.t rfl) (hF.t rfl) rfl) fun a hF => ?_
  refine sg hF rfl rfl rfl rfl (fun w hx => gv_pickT rfl (hF.t rfl) (hF.t rfl)) fun a hF => ?_
  refine sg hF rfl rfl rfl rfl (fun w hx => gv_move rfl (hF.t rfl)) fun a hF => ?_
  refine sw_gv hF rfl (wanted_of hF rfl rfl (rfl)) rfl rfl (fun w hx => gv_move rfl (hF.t rfl)) fun a hF => ?_
  refine sw_gv hF rfl (wanted_of hF rfl rfl (rfl)) rfl rfl (fun w hx => gv_nilCheck rfl (hF.t rfl)) fun a hF => ?_
  refine sw_gv hF rfl (wanted_of hF rfl rfl (rfl)) rfl rfl (fun w hx => gv_field (r := 0) rfl u47 rfl rfl z35 (by decide) (hF.t rfl)) fun a hF => ?_
  refine sw_eff rfl (stp_call hF (wanted_of hF rfl rfl (rfl)) rfl rfl Tryd.ok21 rfl (Evs.cons (hF.t rfl) Evs.nil) (num_ok (hX1.cells (hO.ext (hS.toExt nw_nil)) (fun e he => List.mem_cons_of_mem _ (List.mem_append_left _ (List.mem_append_left _ he)))).1) fun e w h => ?_)
  obtain ⟨rfl, hx⟩ := h
  refine ⟨_, rfl, fun a hF => ?_⟩
  replace hS := hS.ext hx
  clear hx
  refine ⟨hS.toExt nw_nil, ?_⟩
  refine sw_gv hF rfl (wanted_of hF rfl rfl (rfl)) rfl rfl (fun w hx => gv_move rfl (hF.t rfl)) fun a hF => ?_
  refine sw_gv hF rfl (wanted_of hF rfl rfl (rfl)) rfl rfl (fun w hx => gv_nilCheck rfl (hF.t rfl)) fun a hF => ?_
  refine sw_gv hF rfl (wanted_of hF rfl rfl (rfl)) rfl rfl (fun w hx => gv_field (r := 0) rfl u53 rfl rfl z50 (by decide) (hF.t rfl)) fun a hF => ?_
  refine sw_gv hF rfl (wanted_of hF rfl rfl (rfl)) rfl rfl (fun w hx => gv_field (r := 4) rfl u50 rfl rfl z3 (by decide) (hF.t rfl)) fun a hF => ?_
  refine sw_gv hF rfl (wanted_of hF rfl rfl (rfl)) rfl rfl (fun w hx => gv_load rfl u3 rfl (hF.t rfl) (cell_ix (j := 4) ((hO.ext hx).cell (k := 0) rfl (rfl)) (by omega))) fun a hF => ?_
  refine sw_gv hF rfl (wanted_of hF rfl rfl (rfl)) rfl rfl (fun w hx => gv_conv_i_w rfl u3 u32 (hF.t rfl)) fun a hF => ?_
  refine sw_gv hF rfl (wanted_of hF rfl rfl (rfl)) rfl rfl (fun w hx => gv_eqlT rfl (hF.t rfl) (hF.t rfl) (rfl)) fun a hF => ?_
  refine sg hF rfl rfl rfl rfl (fun w hx => gv_pickT rfl (hF.t rfl) (hF.t rfl)) fun a hF => ?_
  refine sg hF rfl rfl rfl rfl (fun w hx => gv_move rfl (hF.t rfl)) fun a hF => ?_
  refine sw_gv hF rfl (wanted_of hF rfl rfl (rfl)) rfl rfl (fun w hx => gv_move rfl (hF.t rfl)) fun a hF => ?_
  refine sw_gv hF rfl (wanted_of hF rfl rfl (rfl)) rfl rfl (fun w hx => gv_nilCheck rfl (hF.t rfl)) fun a hF => ?_
  refine sw_gv hF rfl (wanted_of hF rfl rfl (rfl)) rfl rfl (fun w hx => gv_field (r := 0) rfl u47 rfl rfl z35 (by decide) (hF.t rfl)) fun a hF => ?_
  refine sw_eff rfl (stp_call hF (wanted_of hF rfl rfl (rfl)) rfl rfl Tryd.ok24 rfl (Evs.cons (hF.t rfl) Evs.nil) (cnt_q (hX1.cells (hO.ext (hS.toExt nw_nil)) (fun e he => List.mem_cons_of_mem _ (List.mem_append_left _ (List.mem_append_left _ he)))).2) fun e w h => ?_)
  obtain ⟨rfl, hx⟩ := h
  refine ⟨_, rfl, fun a hF => ?_⟩
  replace hS := hS.ext hx
  clear hx
  refine ⟨hS.toExt nw_nil, ?_⟩
  refine sw_gv hF rfl (wanted_of hF rfl rfl (rfl)) rfl rfl (fun w hx => gv_move rfl (hF.t rfl)) fun a hF => ?_
  refine sw_gv hF rfl (wanted_of hF rfl rfl (rfl)) rfl rfl (fun w hx => gv_nilCheck rfl (hF.t rfl)) fun a hF => ?_
  refine sw_gv hF rfl (wanted_of hF rfl rfl (rfl)) rfl rfl (fun w hx => gv_field (r := 0) rfl u53 rfl rfl z50 (by decide) (hF.t rfl)) fun a hF => ?_
  refine sw_gv hF rfl (wanted_of hF rfl rfl (rfl)) rfl rfl (fun w hx => gv_field (r := 5) rfl u50 rfl rfl z3 (by decide) (hF.t rfl)) fun a hF => ?_
  refine sw_gv hF rfl (wanted_of hF rfl rfl (rfl)) rfl rfl (fun w hx => gv_load rfl u3 rfl (hF.t rfl) (cell_ix (j := 5) ((hO.ext hx).cell (k := 0) rfl (rfl)) (by omega))) fun a hF => ?_
  refine sw_gv hF rfl (wanted_of hF rfl rfl (rfl)) rfl rfl (fun w hx => gv_eqlT rfl (hF.t rfl) (hF.t rfl) (rfl)) fun a hF => ?_
  refine sg hF rfl rfl rfl rfl (fun w hx => gv_pickT rfl (hF.t rfl) (hF.t rfl)) fun a hF => ?_
  refine sg hF rfl rfl rfl rfl (fun w hx => gv_move rfl (hF.t rfl)) fun a hF => ?_
  refine sw_gv hF rfl (wanted_of hF rfl rfl (rfl)) rfl rfl (fun w hx => gv_move rfl (hF.t rfl)) fun a hF => ?_
  refine sw_gv hF rfl (wanted_of hF rfl rfl (rfl)) rfl rfl (fun w hx => gv_neqT rfl (hF.t rfl) (ev_const _ _) (by omega)) fun a hF => ?_
  refine sw_gv hF rfl (wanted_of hF rfl rfl (rfl)) rfl rfl (fun w hx => gv_move rfl (hF.t rfl)) fun a hF => ?_
  refine sw_gv hF rfl (wanted_of hF rfl rfl (rfl)) rfl rfl (fun w hx => gv_move rfl (hF.t rfl)) fun a hF => ?_
  refine sw_gv hF rfl (wanted_of hF rfl rfl (rfl)) rfl rfl (fun w hx => gv_neqT rfl (hF.t rfl) (ev_const _ _) (by omega)) fun a hF => ?_
  refine sw_gv hF rfl (wanted_of hF rfl rfl (rfl)) rfl rfl (fun w hx => gv_pickT rfl (hF.t rfl) (hF.t rfl)) fun a hF => ?_
  refine sw_gv hF rfl (wanted_of hF rfl rfl (rfl)) rfl rfl (fun w hx => gv_move rfl (hF.t rfl)) fun a hF => ?_
  refine sw_skip hF rfl (unwanted_of hF rfl rfl (rfl) rfl) rfl rfl fun a hF => ?_
  refine sw_eff rfl (stp_skip hF (unwanted_of hF rfl rfl (rfl) rfl) rfl rfl fun a hF => ?_)
  refine ⟨hS.toExt nw_nil, ?_⟩
  refine sw_skip hF rfl (unwanted_of hF rfl rfl (rfl) rfl) rfl rfl fun a hF => ?_
  refine sw_skip hF rfl (unwanted_of hF rfl rfl (rfl) rfl) rfl rfl fun a hF => ?_
  refine sw_skip hF rfl (unwanted_of hF rfl rfl (rfl) rfl) rfl rfl fun a hF => ?_
  refine sw_skip hF rfl (unwanted_of hF rfl rfl (rfl) rfl) rfl rfl fun a hF => ?_
  refine sw_skip hF rfl (unwanted_of hF rfl rfl (rfl) rfl) rfl rfl fun a hF => ?_
  refine sw_skip hF rfl (unwanted_of hF rfl rfl (rfl) rfl) rfl rfl fun a hF => ?_
  refine sw_skip hF rfl (unwanted_of hF rfl rfl (rfl) rfl) rfl rfl fun a hF => ?_
  refine sw_skip hF rfl (unwanted_undef hF rfl rfl rfl) rfl rfl fun a hF => ?_
  refine sw_skip hF rfl (unwanted_undef hF rfl rfl rfl) rfl rfl fun a hF => ?_
  refine sw_skip hF rfl (unwanted_undef hF rfl rfl rfl) rfl rfl fun a hF => ?_
  refine sw_skip hF rfl (unwanted_undef hF rfl rfl rfl) rfl rfl fun a hF => ?_
  refine sw_skip hF rfl (unwanted_undef hF rfl rfl rfl) rfl rfl fun a hF => ?_
  refine sw_skip hF rfl (unwanted_of hF rfl rfl (rfl) rfl) rfl rfl fun a hF => ?_
  refine sw_skip hF rfl (unwanted_of hF rfl rfl (rfl) rfl) rfl rfl fun a hF => ?_
  refine sw_gv hF rfl (wanted_of hF rfl rfl (rfl)) rfl rfl (fun w hx => gv_pickT rfl (hF.t rfl) (ev_const _ _)) fun a hF => ?_
  refine sg hF rfl rfl rfl rfl (fun w hx => gv_pickT rfl (hF.t rfl) (hF.t rfl)) fun a hF => ?_
  refine sg hF rfl rfl rfl rfl (fun w hx => gv_move rfl (hF.t rfl)) fun a hF => ?_
  refine sg hF rfl rfl rfl rfl (fun w hx => gv_eqlF rfl (hF.t rfl) (ev_const _ _) (by omega)) fun a hF => ?_
  refine sg hF rfl rfl rfl rfl (fun w hx => gv_assign rfl (hF.t rfl)) fun a hF => ?_
  refine sg hF rfl rfl rfl rfl (fun w hx => gv_assign rfl (hF.t rfl)) fun a hF => ?_
  refine sw_nil ?_
  replace hS := hO.join hS nw_nil
  simp only [List.cons_append, List.nil_append] at hS
  clear hO
  refine run_done (by decide) ?_
  refine tN (hKq9 _ _ ?_)
  refine wp_ret ?_
  refine ret2 (fn := Tryd.f26) (t := 4) (u := 5) hF rfl rfl rfl ?_
  rw [← hQ]
  rw [List.append_assoc] at hR1
  exact ⟨by rw [decide_eq_false (by omega)], X1, Y ++ Y2, _, _, hX1, nw_app hY hY2, hR1, hS.perm perm_back⟩
end Go.Proofs.YtfhalnobaeogkaaDoor
set_option linter.unusedVariables false
set_option linter.unusedSimpArgs false
namespace Go.Proofs.YtfhalnobaeogkaaDoor
open Go Go.RowKit Go.Fw
def muQ (s : QS) : Nat := s.B.length + (if s.hd.isSome then 1 else 0)
theorem step4_B (t : QS) (P : List UInt8) : (step4 t P).2.B = t.B := by unfold step4; split <;> rfl
theorem step3_B (t : QS) (P : List UInt8) (r : Nat) : (step3 t P r).2.B.length ≤ t.B.length := by
 unfold step3
 split
 ·
  exact Nat.le_refl _
 ·
  rw [step4_B]
  show (t.B.drop _).length ≤ _
  rw [List.length_drop]
  exact Nat.sub_le _ _
theorem step2_B (t : QS) (hl : List UInt8) : (step2 t hl).2.B.length ≤ t.B.length := by
 unfold step2
 split
 ·
  exact Nat.le_refl _
 ·
  split
  ·
   exact Nat.le_refl _
  ·
   exact step3_B _ _ _
theorem nextQ_mu {s : QS} (h : (nextQ s).1.2 = 0) : muQ (nextQ s).2 < muQ s := by
 have hsp := (nextQ_spec s).ok h
 have hm : muQ (nextQ s).2 = (nextQ s).2.B.length := by
  unfold muQ
  rw [hsp.2.2.2]
  rfl
 rw [hm]
 obtain ⟨key, at_, sq, n, B, ho, dead⟩ := s
 cases dead with
 | true =>
  have e1 : nextQ ⟨key, at_, sq, n, B, ho, true⟩ = (([], 9), ⟨key, at_, sq, n, B, ho, true⟩) := by rw [nextQ, if_pos rfl]
  rw [e1] at h
  cases h
 | false =>
  cases ho with
  | some hl =>
   have e1 : nextQ ⟨key, at_, sq, n, B, some hl, false⟩ = step2 ⟨key, at_, sq, n, B, none, false⟩ hl := by rw [nextQ, if_neg Bool.false_ne_true]
   rw [e1]
   have := step2_B ⟨key, at_, sq, n, B, none, false⟩ hl
   show _ < B.length + 1
   exact Nat.lt_succ_of_le this
  | none =>
   by_cases hl : B.length < unitQ key
   ·
    have e1 : nextQ ⟨key, at_, sq, n, B, none, false⟩ = (([], 4), ⟨key, at_, sq, n, B, none, false⟩) := by
     rw [nextQ, if_neg Bool.false_ne_true]
     exact if_pos hl
    rw [e1] at h
    cases h
   ·
    have e1 : nextQ ⟨key, at_, sq, n, B, none, false⟩ = step2 ⟨key, advQ key at_ (unitQ key), sq, n, B.drop (unitQ key), none, false⟩ (turnQ key at_ (B.take (unitQ key))) := by
     rw [nextQ, if_neg Bool.false_ne_true]
     exact if_neg hl
    rw [e1]
    have h1 := step2_B ⟨key, advQ key at_ (unitQ key), sq, n, B.drop (unitQ key), none, false⟩ (turnQ key at_ (B.take (unitQ key)))
    have h2 : (B.drop (unitQ key)).length = B.length - unitQ key := List.length_drop
    have h3 : 8 ≤ unitQ key := by unfold unitQ; split <;> decide
    have h4 : (step2 ⟨key, advQ key at_ (unitQ key), sq, n, B.drop (unitQ key), none, false⟩ (turnQ key at_ (B.take (unitQ key)))).2.B.length ≤ B.length - unitQ key := by
     rw [← h2]; exact h1
    show _ < B.length + 0
    omega
theorem nextQ_mu_le (s : QS) : muQ (nextQ s).2 ≤ muQ s := by
 obtain ⟨key, at_, sq, n, B, ho, dead⟩ := s
 have m1 : ∀ t : QS, muQ t ≤ t.B.length + 1 := fun t => by unfold muQ; split <;> omega
 cases dead with
 | true =>
  have e1 : nextQ ⟨key, at_, sq, n, B, ho, true⟩ = (([], 9), ⟨key, at_, sq, n, B, ho, true⟩) := by rw [nextQ, if_pos rfl]
  rw [e1]
  exact Nat.le_refl _
 | false =>
  cases ho with
  | some hl =>
   have e1 : nextQ ⟨key, at_, sq, n, B, some hl, false⟩ = step2 ⟨key, at_, sq, n, B, none, false⟩ hl := by rw [nextQ, if_neg Bool.false_ne_true]
   rw [e1]
   have h1 := step2_B ⟨key, at_, sq, n, B, none, false⟩ hl
   exact Nat.le_trans (m1 _) (Nat.succ_le_succ h1)
  | none =>
   by_cases hl : B.length < unitQ key
   ·
    have e1 : nextQ ⟨key, at_, sq, n, B, none, false⟩ = (([], 4), ⟨key, at_, sq, n, B, none, false⟩) := by
     rw [nextQ, if_neg Bool.false_ne_true]
     exact if_pos hl
    rw [e1]
    exact Nat.le_refl _
   ·
    have e1 : nextQ ⟨key, at_, sq, n, B, none, false⟩ = step2 ⟨key, advQ key at_ (unitQ key), sq, n, B.drop (unitQ key), none, false⟩ (turnQ key at_ (B.take (unitQ key))) := by
     rw [nextQ, if_neg Bool.false_ne_true]
     exact if_neg hl
    rw [e1]
    have h1 := step2_B ⟨key, advQ key at_ (unitQ key), sq, n, B.drop (unitQ key), none, false⟩ (turnQ key at_ (B.take (unitQ key)))
    have h2 : (B.drop (unitQ key)).length = B.length - unitQ key := List.length_drop
    have h3 : 8 ≤ unitQ key := by unfold unitQ; split <;> decide
    have h4 : (step2 ⟨key, advQ key at_ (unitQ key), sq, n, B.drop (unitQ key), none, false⟩ (turnQ key at_ (B.take (unitQ key)))).2.B.length ≤ B.length - unitQ key := by
     rw [← h2]; exact h1
    refine Nat.le_trans (m1 _) ?_
    show _ ≤ B.length + 0
    omega
structure FedQ (q : QS) (F : Nat) : Prop where
 at_ : q.dead = false → q.at_ + q.B.length ≤ F
 sq : q.sq + muQ q ≤ F
 n : q.n ≤ q.sq
theorem FedQ.next {q : QS} {F : Nat} (h : FedQ q F) : FedQ (nextQ q).2 F := by
 have hsp := nextQ_spec q
 obtain ⟨h1, h2, h3⟩ := h
 by_cases h0 : (nextQ q).1.2 = 0
 ·
  obtain ⟨e1, e2, e3, _⟩ := hsp.ok h0
  have := nextQ_mu h0
  refine ⟨fun hd => Nat.le_trans (hsp.at_ hd) (h1 ?_), by rw [e1]; omega, by rw [e1, e2]; omega⟩
  cases hq : q.dead with
  | false => rfl
  | true =>
   have e9 : nextQ q = (([], 9), q) := by rw [nextQ, if_pos hq]
   rw [e9] at h0
   cases h0
 ·
  obtain ⟨e1, e2⟩ := hsp.no h0
  have := nextQ_mu_le q
  refine ⟨fun hd => Nat.le_trans (hsp.at_ hd) (h1 ?_), by rw [e1]; omega, by rw [e1, e2]; exact h3⟩
  cases hq : q.dead with
  | false => rfl
  | true =>
   have e9 : nextQ q = (([], 9), q) := by rw [nextQ, if_pos hq]
   rw [e9] at hd
   rw [hq] at hd
   cases hd
theorem FedQ.feed {q : QS} {F : Nat} (h : FedQ q F) (ml : List UInt8) : FedQ { q with B := q.B ++ ml } (F + ml.length) := by
 obtain ⟨h1, h2, h3⟩ := h
 refine ⟨fun hd => ?_, ?_, h3⟩
 ·
  have := h1 hd
  show q.at_ + (q.B ++ ml).length ≤ _
  rw [List.length_append]
  omega
 ·
  have e : muQ { q with B := q.B ++ ml } = muQ q + ml.length := by
   show (q.B ++ ml).length + (if q.hd.isSome then 1 else 0) = q.B.length + (if q.hd.isSome then 1 else 0) + ml.length
   rw [List.length_append]
   omega
  rw [e]
  show q.sq + _ ≤ _
  omega
theorem FedQ.take {q : QS} {F : Nat} (h : FedQ q F) (k : List UInt8 × List UInt8 × List UInt8) : FedQ { q with key := some k, at_ := 0, n := 0 } F := by
 obtain ⟨h1, h2, h3⟩ := h
 exact ⟨fun hd => by have := h1 hd; show 0 + q.B.length ≤ F; omega, h2, Nat.zero_le _⟩
theorem FedQ.mono {q : QS} {F G : Nat} (h : FedQ q F) (hg : F ≤ G) : FedQ q G := ⟨fun hd => Nat.le_trans (h.at_ hd) hg, Nat.le_trans h.sq hg, h.n⟩
end Go.Proofs.YtfhalnobaeogkaaDoor
set_option linter.unusedVariables false
set_option linter.unusedSimpArgs false
namespace Go.Proofs.YtfhalnobaeogkaaDoor
open Go Go.RowKit Go.Fw
structure WQ where
 key : Option (List UInt8 × List UInt8 × List UInt8)
 at_ : Nat
 sq : Nat
 n : Nat
def WQ.ht (q : WQ) : HT := ⟨UInt32.ofNat q.sq, q.n, q.key.map fun k => ⟨keys k.1, (stQ k.1 k.2.1 q.at_).1, (stQ k.1 k.2.1 q.at_).2, k.2.2⟩⟩
def pktW (q : WQ) (pl dl : List UInt8) : List UInt8 := match q.key with
 | none => pktF (UInt32.ofNat q.sq) pl dl 8
 | some k => turned k.1 k.2.1 q.at_ (pktF (UInt32.ofNat q.sq) pl dl 16) ++ codeF (UInt32.ofNat q.sq) k.2.2 (pktF (UInt32.ofNat q.sq) pl dl 16)
def stepW (q : WQ) (pl dl : List UInt8) : WQ := match q.key with
 | none => ⟨none, q.at_, q.sq + 1, q.n + 1⟩
 | some k => ⟨some k, q.at_ + (pktF (UInt32.ofNat q.sq) pl dl 16).length, q.sq + 1, q.n + 1⟩
def takeW (q : WQ) (c : UInt8) : WQ := ⟨some (kKey c, kIv c, kMac c), 0, q.sq, 0⟩
theorem u32_succ (n : Nat) : UInt32.ofNat n + 1 = UInt32.ofNat (n + 1) := by
 rw [UInt32.ofNat_add]; rfl
theorem pktG_W {q : WQ} {pl dl : List UInt8} (hk : ∀ k, q.key = some k → k.2.1.length = 16) : pktG q.ht pl dl = pktW q pl dl := by
 obtain ⟨key, at_, sq, n⟩ := q
 cases key with
 | none => rfl
 | some k =>
  show pktK (UInt32.ofNat sq) pl dl (keys k.1) (stQ k.1 k.2.1 at_).1 (stQ k.1 k.2.1 at_).2 k.2.2 = _
  have e1 : outT (keys k.1) ((stQ k.1 k.2.1 at_).1, (stQ k.1 k.2.1 at_).2) (pktF (UInt32.ofNat sq) pl dl 16) (pktF (UInt32.ofNat sq) pl dl 16).length = turned k.1 k.2.1 at_ (pktF (UInt32.ofNat sq) pl dl 16) := outT_turned (hk k rfl) at_ _
  rw [pktK, e1]
  rfl
theorem stepG_W {q : WQ} {pl dl : List UInt8} : stepG q.ht pl dl = (stepW q pl dl).ht := by
 obtain ⟨key, at_, sq, n⟩ := q
 cases key with
 | none => show HT.mk (UInt32.ofNat sq + 1) (n + 1) none = HT.mk (UInt32.ofNat (sq + 1)) (n + 1) none; rw [u32_succ]
 | some k =>
  have e2 : kst (keys k.1) ((stQ k.1 k.2.1 at_).1, (stQ k.1 k.2.1 at_).2) (pktF (UInt32.ofNat sq) pl dl 16).length = stQ k.1 k.2.1 (at_ + (pktF (UInt32.ofNat sq) pl dl 16).length) := kst_add _ _ _ _
  show HT.mk (UInt32.ofNat sq + 1) (n + 1) (some ⟨keys k.1, (kst (keys k.1) ((stQ k.1 k.2.1 at_).1, (stQ k.1 k.2.1 at_).2) (pktF (UInt32.ofNat sq) pl dl 16).length).1, (kst (keys k.1) ((stQ k.1 k.2.1 at_).1, (stQ k.1 k.2.1 at_).2) (pktF (UInt32.ofNat sq) pl dl 16).length).2, k.2.2⟩) = _
  rw [e2, u32_succ]
  rfl
theorem kst_zero (K : List UInt8) (s : List UInt8 × List UInt8) : kst K s 0 = s := by rw [kst]
theorem takeH_W {q : WQ} {c : UInt8} : takeH q.ht c = (takeW q c).ht := by
 simp only [takeH, takeW, WQ.ht, Option.map, stQ, kst_zero]
structure HlF (w00 : World) (L : List Ent) (q : WQ) (kv iv mv : Value) : Prop where
 key : match q.key with
  | none => ∃ kc, kv = .slice none 0 kc
  | some k => ∃ kb ko kc, kv = .slice (some ⟨kb, ko, none⟩) 16 kc ∧ SRd w00 L kv (k.1.map vB) ∧ SRd w00 L iv (k.2.1.map vB) ∧ SRd w00 L mv (k.2.2.map vB) ∧ k.1.length = 16 ∧ k.2.1.length = 16 ∧ k.2.2.length = 32
theorem HlF.mono {w00 : World} {L L' : List Ent} {q : WQ} {kv iv mv : Value} (h : HlF w00 L q kv iv mv) (hs : ∀ e ∈ L, e ∈ L') : HlF w00 L' q kv iv mv := by
 obtain ⟨h1⟩ := h
 refine ⟨?_⟩
 revert h1
 cases q.key with
 | none => exact id
 | some k => exact fun ⟨kb, ko, kc, a1, a2, a3, a4, a5⟩ => ⟨kb, ko, kc, a1, a2.mono hs, a3.mono hs, a4.mono hs, a5⟩
theorem HlF.step {w00 : World} {L : List Ent} {q : WQ} {kv iv mv : Value} (h : HlF w00 L q kv iv mv) (pl dl : List UInt8) : HlF w00 L (stepW q pl dl) kv iv mv := by
 obtain ⟨h1⟩ := h
 obtain ⟨key, at_, sq, n⟩ := q
 cases key with
 | none => exact ⟨h1⟩
 | some k => exact ⟨h1⟩
abbrev hlE (m : Nat) (kv iv mv : Value) (at_ sq n : Nat) : Ent := ⟨true, some m, blk 50 (kv :: iv :: mv :: vI at_ :: vI sq :: vI n :: [])⟩
theorem hwrite_g {w00 w : World} {h : Nat} {q : WQ} {L T : List Ent} {kv iv mv pv : Value} {pl dl : List UInt8} (h0 : ∀ e ∈ L, e ∈ T) (hT : ∀ e ∈ T, e.nw = true) (hq : HlF w00 L q kv iv mv) (hS : St w00 w (hlE h kv iv mv q.at_ q.sq q.n :: T)) (hPl : SRd w00 T pv (pl.map vB)) (h1 : 1 ≤ pl.length) (hpl : pl.length ≤ 2048) (hd : dl.length ≤ 274877906944) (hsq : q.sq < 4294967295) (hn : q.n ≤ 4611686018427387904) (hat : q.at_ ≤ 1073741824) :
  Calls Tryd.prog 23 #[.pointer (some ⟨h, 0, none⟩), pv, sV dl] w fun e w' => ∃ o op, e = .returned (ownV o (pktW q pl dl).length ((pktW q pl dl).length + op.length)) ∧ (o = none → pktW q pl dl = [] ∧ op = []) ∧ (pktW q pl dl).length + op.length ≤ 9223372036854775807 ∧ St w00 w' (rowE o (pktW q pl dl) op :: hlE h kv iv mv (stepW q pl dl).at_ (stepW q pl dl).sq (stepW q pl dl).n :: T) := by
 obtain ⟨key, at_, sq, n⟩ := q
 cases key with
 | none =>
  obtain ⟨kc, rfl⟩ := hq.key
  exact hwrite_nil (rest := []) (at_ := at_) (sq := sq) (n := n) (iv := iv) (mv := mv) (kc := kc) (pv := pv) (pl := pl) (dl := dl) hT hS hPl h1 hpl hd hsq hn
 | some k =>
  obtain ⟨kb, ko, kc, rfl, a1, a2, a3, l1, l2, l3⟩ := hq.key
  exact hwrite_key (rest := []) (at_ := at_) (sq := sq) (n := n) (iv := iv) (mv := mv) (kc := kc) (pv := pv) (pl := pl) (dl := dl) (kl := k.1) (il := k.2.1) (ml := k.2.2) hT hS hPl h1 hpl hd hsq hn (a1.mono h0) (a2.mono h0) (a3.mono h0) l1 l2 l3 hat
end Go.Proofs.YtfhalnobaeogkaaDoor
set_option linter.unusedVariables false
set_option linter.unusedSimpArgs false
namespace Go.Proofs.YtfhalnobaeogkaaDoor
open Go Go.RowKit Go.Fw
theorem RdF.feed {w00 : World} {L L' : List Ent} {q : QS} {kv iv mv bv hv bv' : Value} {ml : List UInt8} (h : RdF w00 L q kv iv mv bv hv) (hs : ∀ e ∈ L, e ∈ L') (hb : SRd w00 L' bv' ((q.B ++ ml).map vB)) : RdF w00 L' { q with B := q.B ++ ml } kv iv mv bv' hv := by
 obtain ⟨h1, _, h3⟩ := h.mono hs
 exact ⟨h1, hb, h3⟩
theorem RdF.take {w00 : World} {L : List Ent} {q : QS} {kv iv mv bv hv k2 k3 : Value} {kb ko kc : Nat} {kl il ml : List UInt8} (h : RdF w00 L q kv iv mv bv hv) (hq : leftQ q = false) (h1 : SRd w00 L (.slice (some ⟨kb, ko, none⟩) 16 kc) (kl.map vB)) (h2 : SRd w00 L k2 (il.map vB)) (h3 : SRd w00 L k3 (ml.map vB)) (l1 : kl.length = 16) (l2 : il.length = 16) (l3 : ml.length = 32) :
  RdF w00 L { q with key := some (kl, il, ml), at_ := 0, n := 0 } (.slice (some ⟨kb, ko, none⟩) 16 kc) k2 k3 bv hv := by
 obtain ⟨_, hb, u, hu, hd, hh⟩ := h
 refine ⟨⟨kb, ko, kc, rfl, h1, h2, h3, l1, l2, l3⟩, hb, ?_⟩
 obtain ⟨key, at_, sq, n, B, ho, dead⟩ := q
 cases dead with
 | true => exact ⟨u, hu, (fun h => by cases h), hh⟩
 | false =>
  rw [left_val rfl] at hq
  cases ho with
  | none => exact ⟨16, by decide, fun _ => rfl, hh⟩
  | some hl => simp at hq
theorem HlF.keyed {w00 : World} {L : List Ent} {k2 k3 : Value} {kb ko kc at_ sq n : Nat} {kl il ml : List UInt8} (h1 : SRd w00 L (.slice (some ⟨kb, ko, none⟩) 16 kc) (kl.map vB)) (h2 : SRd w00 L k2 (il.map vB)) (h3 : SRd w00 L k3 (ml.map vB)) (l1 : kl.length = 16) (l2 : il.length = 16) (l3 : ml.length = 32) : HlF w00 L ⟨some (kl, il, ml), at_, sq, n⟩ (.slice (some ⟨kb, ko, none⟩) 16 kc) k2 k3 :=
 ⟨⟨kb, ko, kc, rfl, h1, h2, h3, l1, l2, l3⟩⟩
end Go.Proofs.YtfhalnobaeogkaaDoor
set_option linter.unusedVariables false
set_option linter.unusedSimpArgs false
namespace Go.Proofs.YtfhalnobaeogkaaDoor
open Go Go.RowKit Go.Fw
theorem pktW_le {q : WQ} {pl dl : List UInt8} (h2 : pl.length ≤ 2048) : (pktW q pl dl).length ≤ pl.length + 64 := by
 have h8 := padn_le (n := pl.length) (u := 8)
 have h16 := padn_le (n := pl.length) (u := 16)
 unfold pktW
 split
 ·
  rw [pktF_len (by omega)]; omega
 ·
  rw [List.length_append, turned_len, pktF_len (by omega), codeF, macF_len]; omega
theorem pktW_pos {q : WQ} {pl dl : List UInt8} (h2 : pl.length ≤ 2048) : 0 < (pktW q pl dl).length := by
 have h8 := padn_le (n := pl.length) (u := 8)
 have h16 := padn_le (n := pl.length) (u := 16)
 unfold pktW
 split
 ·
  rw [pktF_len (by omega)]; omega
 ·
  rw [List.length_append, turned_len, pktF_len (by omega)]; omega
theorem wtake_bad {w00 w : World} {b : Nat} {h : HT} {X T : List Ent} {k1 k2 k3 : Value} {kl il ml : List UInt8} (hX : WShape w00 b h X) (hT : ∀ e ∈ T, e.nw = true) (hS : St w00 w (X ++ T)) (h1 : SRd w00 T k1 (kl.map vB)) (h2 : SRd w00 T k2 (il.map vB)) (h3 : SRd w00 T k3 (ml.map vB)) (l1 : kl.length = 16) (l2 : il.length = 16) (l3 : ml.length ≠ 32) :
  Calls Tryd.prog 19 #[.pointer (some ⟨b, 0, none⟩), .agg #[k1, k2, k3]] w fun e w' => e = .returned (.int .i64 2) ∧ St w00 w' (X ++ T) := by
 have hXn := hX.nw
 cases hX with
 | plain seq n => exact hand_bad (tt := 37) (rest := []) hT hS h1 h2 h3 l1 l2 l3
 | keyed seq n K C L ml1 s m mp okb B lv hK hC hml hm hL =>
  have hm1 : ∀ e ∈ T, e ∈ ([⟨true, some s, strm K C lv⟩, kbE okb B, macE m ml1 mp] ++ T : List Ent) := fun e he => List.mem_append_right _ he
  exact hand_bad (tt := 37) (rest := []) (T := [⟨true, some s, strm K C lv⟩, kbE okb B, macE m ml1 mp] ++ T) (nw_app (fun e he => hXn e (List.mem_cons_of_mem _ he)) hT) hS (h1.mono hm1) (h2.mono hm1) (h3.mono hm1) l1 l2 l3
theorem fed_le {cs : List CallE} {i : Nat} {x : CallE} (h : cs[i]? = some x) : 113 * lightN cs i + (x.bl.length + 64) ≤ 113 * lightN cs (i + 1) := by
 rw [lightN_succ h]
 have h1 : x.bl.length / 50 ≤ (x.bl.length + x.dr.length) / 50 := Nat.div_le_div_right (by omega)
 omega
end Go.Proofs.YtfhalnobaeogkaaDoor
set_option linter.unusedVariables false
set_option linter.unusedSimpArgs false
namespace Go.Proofs.YtfhalnobaeogkaaDoor
open Go Go.RowKit Go.Fw
structure LawS (w0 w : World) (xa xr m1 m2 : Nat) (p1 p2 : WQ) (q1 q2 : QS) (L : List Ent) : Prop where
 ex : ∃ X Z kv iv mv bv hv kv' iv' mv', WShape w0 xa p1.ht X ∧ PSh w0 xr q1 Z ∧ (∀ e ∈ L, e.nw = true) ∧ RdF w0 L q2 kv iv mv bv hv ∧ HlF w0 L p2 kv' iv' mv' ∧ St w0 w (Z ++ (rdE m2 kv iv mv q2.at_ q2.sq q2.n bv hv q2.dead :: (hlE m1 kv' iv' mv' p2.at_ p2.sq p2.n :: (X ++ L))))
theorem LawS.ext {w0 w w' : World} {xa xr m1 m2 : Nat} {p1 p2 : WQ} {q1 q2 : QS} {L : List Ent} (h : LawS w0 w xa xr m1 m2 p1 p2 q1 q2 L) (hx : Ext w w') : LawS w0 w' xa xr m1 m2 p1 p2 q1 q2 L := by
 obtain ⟨X, Z, kv, iv, mv, bv, hv, kv', iv', mv', h1, h2, h3, h4, h5, hS⟩ := h.ex
 exact ⟨X, Z, kv, iv, mv, bv, hv, kv', iv', mv', h1, h2, h3, h4, h5, hS.ext hx⟩
theorem permA {α : Type} (Z X L : List α) (a b : α) : (Z ++ (a :: (b :: (X ++ L)))).Perm (X ++ (Z ++ (a :: b :: L))) := by
 have e1 : Z ++ (a :: (b :: (X ++ L))) = (Z ++ [a, b]) ++ (X ++ L) := by simp
 have e2 : X ++ (Z ++ (a :: b :: L)) = X ++ ((Z ++ [a, b]) ++ L) := by simp
 rw [e1, e2]
 exact List.perm_append_comm_assoc _ _ _
theorem permB {α : Type} (Z X L : List α) (a b r : α) : (r :: (X ++ (Z ++ (a :: b :: L)))).Perm (Z ++ (a :: (b :: (X ++ (r :: L))))) := by
 refine List.Perm.trans ?_ (permA Z X (r :: L) a b).symm
 have e1 : X ++ (Z ++ (a :: b :: L)) = (X ++ Z ++ [a, b]) ++ L := by simp
 have e2 : X ++ (Z ++ (a :: b :: (r :: L))) = (X ++ Z ++ [a, b]) ++ r :: L := by simp
 rw [e1, e2]
 exact List.perm_middle.symm
theorem permC {α : Type} (Z X L : List α) (a b : α) : (Z ++ (a :: (b :: (X ++ L)))).Perm (b :: (Z ++ (a :: (X ++ L)))) := by
 have e1 : Z ++ (a :: (b :: (X ++ L))) = (Z ++ [a]) ++ b :: (X ++ L) := by simp
 have e2 : Z ++ (a :: (X ++ L)) = (Z ++ [a]) ++ (X ++ L) := by simp
 rw [e1, e2]
 exact List.perm_middle
theorem permD {α : Type} (Z X L : List α) (a b r : α) : (r :: b :: (Z ++ (a :: (X ++ L)))).Perm (Z ++ (a :: (b :: (X ++ (r :: L))))) := by
 refine List.Perm.trans ?_ (permC Z X (r :: L) a b).symm
 refine (List.Perm.swap b r _).trans (List.Perm.cons b ?_)
 have e1 : Z ++ (a :: (X ++ L)) = (Z ++ [a] ++ X) ++ L := by simp
 have e2 : Z ++ (a :: (X ++ (r :: L))) = (Z ++ [a] ++ X) ++ r :: L := by simp
 rw [e1, e2]
 exact List.perm_middle.symm
theorem law_next {w0 w : World} {xa xr m1 m2 : Nat} {p1 p2 : WQ} {q : QS} {L : List Ent} {F : Nat} (hG : Glob w0) (h : LawS w0 w xa xr m1 m2 p1 p2 q q L) (hf : FedQ q F) (hF : F ≤ 100000) :
  Calls Tryd.prog 26 #[.pointer (some ⟨xr, 0, none⟩), .pointer (some ⟨m2, 0, none⟩)] w fun e w' => e = .returned (.tuple #[.bool true, .bool (decide ((nextQ q).1.2 = 0))]) ∧ ∃ L', (∀ e ∈ L, e ∈ L') ∧ LawS w0 w' xa xr m1 m2 p1 p2 (nextQ q).2 (nextQ q).2 L' := by
 obtain ⟨X, Z, kv, iv, mv, bv, hv, kv', iv', mv', h1, h2, h3, h4, h5, hS⟩ := h.ex
 have hT : ∀ e ∈ (hlE m1 kv' iv' mv' p2.at_ p2.sq p2.n :: (X ++ L)), e.nw = true := nw_cons rfl (nw_app h1.nw h3)
 have hb := hf.at_
 have hs := hf.sq
 have hn := hf.n
 refine (next_law (L := L) hG (fun e he => List.mem_cons_of_mem _ (List.mem_append_right _ he)) h2 hT h4 hS (fun hd => by have := hb hd; omega) (by omega) (by omega)).mono fun e w' g => ?_
 obtain ⟨he, Z', Y, bv', hv', g1, g2, g3, g4⟩ := g
 refine ⟨he, L ++ Y, fun e he => List.mem_append_left _ he, X, Z', kv, iv, mv, bv', hv', kv', iv', mv', h1, g1, nw_app h3 g2, g3, h5.mono fun e he => List.mem_append_left _ he, ?_⟩
 have e1 : (hlE m1 kv' iv' mv' p2.at_ p2.sq p2.n :: (X ++ L)) ++ Y = hlE m1 kv' iv' mv' p2.at_ p2.sq p2.n :: (X ++ (L ++ Y)) := by rw [List.cons_append, List.append_assoc]
 rw [e1] at g4
 exact g4
theorem law_left {w0 w : World} {xa xr m1 m2 : Nat} {p1 p2 : WQ} {q1 q2 : QS} {L : List Ent} (h : LawS w0 w xa xr m1 m2 p1 p2 q1 q2 L) :
  Calls Tryd.prog 18 #[.pointer (some ⟨xr, 0, none⟩)] w fun e w' => e = .returned (.bool (leftQ q1)) ∧ LawS w0 w' xa xr m1 m2 p1 p2 q1 q2 L := by
 have h' := h
 obtain ⟨X, Z, kv, iv, mv, bv, hv, kv', iv', mv', h1, h2, h3, h4, h5, hS⟩ := h.ex
 exact (pleft_g h2 hS).mono fun e w' ⟨he, hx⟩ => ⟨he, h'.ext hx⟩
theorem law_feed {w0 w : World} {xa xr m1 m2 : Nat} {p1 p2 : WQ} {q1 q2 : QS} {L : List Ent} {bv : Value} {ml : List UInt8} (h : LawS w0 w xa xr m1 m2 p1 p2 q1 q2 L) (hb : SRd w0 L bv (ml.map vB)) (hp : 0 < ml.length) (hn : q1.dead = false → q1.B.length + ml.length ≤ 1099511627776) :
  Calls Tryd.prog 16 #[.pointer (some ⟨xr, 0, none⟩), bv] w fun e w' => e = .returned (.tuple #[]) ∧ LawS w0 w' xa xr m1 m2 p1 p2 { q1 with B := q1.B ++ ml } q2 L := by
 obtain ⟨X, Z, kv, iv, mv, bv0, hv, kv', iv', mv', h1, h2, h3, h4, h5, hS⟩ := h.ex
 exact (pfeed_g h2 (nw_cons rfl (nw_cons rfl (nw_app h1.nw h3))) hS (hb.mono fun e he => List.mem_cons_of_mem _ (List.mem_cons_of_mem _ (List.mem_append_right _ he))) hp hn).mono fun e w' ⟨he, Z', g1, g2⟩ => ⟨he, X, Z', kv, iv, mv, bv0, hv, kv', iv', mv', h1, g1, h3, h4, h5, g2⟩
theorem law_write {w0 w : World} {xa xr m1 m2 : Nat} {p1 p2 : WQ} {q1 q2 : QS} {L : List Ent} {pv : Value} {pl dl : List UInt8} (hG : Glob w0) (h : LawS w0 w xa xr m1 m2 p1 p2 q1 q2 L) (hi : ∀ k, p1.key = some k → k.2.1.length = 16) (hPl : SRd w0 L pv (pl.map vB)) (l1 : 1 ≤ pl.length) (l2 : pl.length ≤ 2048) (hd : dl.length ≤ 274877906944) (hn : p1.n ≤ 4611686018427387904) :
  Calls Tryd.prog 15 #[.pointer (some ⟨xa, 0, none⟩), pv, sV dl] w fun e w' => ∃ v L', e = .returned (.tuple #[v, .int .i64 0]) ∧ (∀ e ∈ L, e ∈ L') ∧ SRd w0 L' v ((pktW p1 pl dl).map vB) ∧ LawS w0 w' xa xr m1 m2 (stepW p1 pl dl) p2 q1 q2 L' := by
 obtain ⟨X, Z, kv, iv, mv, bv, hv, kv', iv', mv', h1, h2, h3, h4, h5, hS⟩ := h.ex
 refine (write_g hG h1 (nw_app h2.nw (nw_cons rfl (nw_cons rfl h3))) (hS.perm (permA Z X L _ _)) (hPl.mono fun e he => List.mem_append_right _ (List.mem_cons_of_mem _ (List.mem_cons_of_mem _ he))) l1 l2 hd hn).mono fun e w' g => ?_
 obtain ⟨v, X2, rfl, hX2, x, xp, rfl, xo, xc, hS⟩ := g
 rw [pktG_W hi] at xo xc hS ⊢
 rw [stepG_W] at hX2
 exact ⟨_, rowE x (pktW p1 pl dl) xp :: L, rfl, fun e he => List.mem_cons_of_mem _ he, own_rd List.mem_cons_self xo rfl xc, X2, Z, kv, iv, mv, bv, hv, kv', iv', mv', hX2, h2, nw_cons rfl h3, h4.mono fun e he => List.mem_cons_of_mem _ he, h5.mono fun e he => List.mem_cons_of_mem _ he, hS.perm (permB Z X2 L _ _ _)⟩
theorem law_hwrite {w0 w : World} {xa xr m1 m2 : Nat} {p1 p2 : WQ} {q1 q2 : QS} {L : List Ent} {pv : Value} {pl dl : List UInt8} (h : LawS w0 w xa xr m1 m2 p1 p2 q1 q2 L) (hPl : SRd w0 L pv (pl.map vB)) (l1 : 1 ≤ pl.length) (l2 : pl.length ≤ 2048) (hd : dl.length ≤ 274877906944) (hsq : p2.sq < 4294967295) (hn : p2.n ≤ 4611686018427387904) (hat : p2.at_ ≤ 1073741824) :
  Calls Tryd.prog 23 #[.pointer (some ⟨m1, 0, none⟩), pv, sV dl] w fun e w' => ∃ v L', e = .returned v ∧ (∀ e ∈ L, e ∈ L') ∧ SRd w0 L' v ((pktW p2 pl dl).map vB) ∧ LawS w0 w' xa xr m1 m2 p1 (stepW p2 pl dl) q1 q2 L' := by
 obtain ⟨X, Z, kv, iv, mv, bv, hv, kv', iv', mv', h1, h2, h3, h4, h5, hS⟩ := h.ex
 have hm : ∀ e ∈ L, e ∈ Z ++ (rdE m2 kv iv mv q2.at_ q2.sq q2.n bv hv q2.dead :: (X ++ L)) := fun e he => List.mem_append_right _ (List.mem_cons_of_mem _ (List.mem_append_right _ he))
 refine (hwrite_g hm (nw_app h2.nw (nw_cons rfl (nw_app h1.nw h3))) h5 (hS.perm (permC Z X L _ _)) (hPl.mono hm) l1 l2 hd hsq hn hat).mono fun e w' g => ?_
 obtain ⟨o, op, rfl, xo, xc, hS⟩ := g
 exact ⟨_, rowE o (pktW p2 pl dl) op :: L, rfl, fun e he => List.mem_cons_of_mem _ he, own_rd List.mem_cons_self xo rfl xc, X, Z, kv, iv, mv, bv, hv, kv', iv', mv', h1, h2, nw_cons rfl h3, h4.mono fun e he => List.mem_cons_of_mem _ he, (h5.mono fun e he => List.mem_cons_of_mem _ he).step pl dl, hS.perm (permD Z X L _ _ _)⟩
end Go.Proofs.YtfhalnobaeogkaaDoor
set_option linter.unusedVariables false
set_option linter.unusedSimpArgs false
namespace Go.Proofs.YtfhalnobaeogkaaDoor
open Go Go.RowKit Go.Fw
theorem law_take_w {w0 w : World} {xa xr m1 m2 kb : Nat} {c : UInt8} {p1 p2 : WQ} {q1 q2 : QS} {L : List Ent} (h : LawS w0 w xa xr m1 m2 p1 p2 q1 q2 L) (hk : ⟨true, some kb, blkB 5 (kbs c 64)⟩ ∈ L) :
  Calls Tryd.prog 19 #[.pointer (some ⟨xa, 0, none⟩), .agg (keyV kb)] w fun e w' => e = .returned (.int .i64 0) ∧ LawS w0 w' xa xr m1 m2 (takeW p1 c) p2 q1 q2 L := by
 obtain ⟨X, Z, kv, iv, mv, bv, hv, kv', iv', mv', h1, h2, h3, h4, h5, hS⟩ := h.ex
 refine (take_w h1 (nw_app h2.nw (nw_cons rfl (nw_cons rfl h3))) (hS.perm (permA Z X L _ _)) (List.mem_append_right _ (List.mem_cons_of_mem _ (List.mem_cons_of_mem _ hk)))).mono fun e w' g => ?_
 obtain ⟨he, X2, hX2, hS⟩ := g
 rw [takeH_W] at hX2
 exact ⟨he, X2, Z, kv, iv, mv, bv, hv, kv', iv', mv', hX2, h2, h3, h4, h5, hS.perm (permA Z X2 L _ _).symm⟩
theorem law_bad_w {w0 w : World} {xa xr m1 m2 : Nat} {k1 k2 k3 : Value} {kl il ml : List UInt8} {p1 p2 : WQ} {q1 q2 : QS} {L : List Ent} (h : LawS w0 w xa xr m1 m2 p1 p2 q1 q2 L) (a1 : SRd w0 L k1 (kl.map vB)) (a2 : SRd w0 L k2 (il.map vB)) (a3 : SRd w0 L k3 (ml.map vB)) (l1 : kl.length = 16) (l2 : il.length = 16) (l3 : ml.length ≠ 32) :
  Calls Tryd.prog 19 #[.pointer (some ⟨xa, 0, none⟩), .agg #[k1, k2, k3]] w fun e w' => e = .returned (.int .i64 2) ∧ LawS w0 w' xa xr m1 m2 p1 p2 q1 q2 L := by
 obtain ⟨X, Z, kv, iv, mv, bv, hv, kv', iv', mv', h1, h2, h3, h4, h5, hS⟩ := h.ex
 have hm : ∀ e ∈ L, e ∈ Z ++ (rdE m2 kv iv mv q2.at_ q2.sq q2.n bv hv q2.dead :: hlE m1 kv' iv' mv' p2.at_ p2.sq p2.n :: L) := fun e he => List.mem_append_right _ (List.mem_cons_of_mem _ (List.mem_cons_of_mem _ he))
 refine (wtake_bad h1 (nw_app h2.nw (nw_cons rfl (nw_cons rfl h3))) (hS.perm (permA Z X L _ _)) (a1.mono hm) (a2.mono hm) (a3.mono hm) l1 l2 l3).mono fun e w' g => ?_
 exact ⟨g.1, X, Z, kv, iv, mv, bv, hv, kv', iv', mv', h1, h2, h3, h4, h5, g.2.perm (permA Z X L _ _).symm⟩
theorem law_take_r {w0 w : World} {xa xr m1 m2 : Nat} {k1 k2 k3 : Value} {kl il ml : List UInt8} {p1 p2 : WQ} {q1 q2 : QS} {L : List Ent} (h : LawS w0 w xa xr m1 m2 p1 p2 q1 q2 L) (hq : leftQ q1 = false) (a1 : SRd w0 L k1 (kl.map vB)) (a2 : SRd w0 L k2 (il.map vB)) (a3 : SRd w0 L k3 (ml.map vB)) (l1 : kl.length = 16) (l2 : il.length = 16) (l3 : ml.length = 32) :
  Calls Tryd.prog 19 #[.pointer (some ⟨xr, 0, none⟩), .agg #[k1, k2, k3]] w fun e w' => e = .returned (.int .i64 0) ∧ LawS w0 w' xa xr m1 m2 p1 p2 { q1 with key := some (kl, il, ml), at_ := 0, n := 0 } q2 L := by
 obtain ⟨X, Z, kv, iv, mv, bv, hv, kv', iv', mv', h1, h2, h3, h4, h5, hS⟩ := h.ex
 have hm : ∀ e ∈ L, e ∈ (rdE m2 kv iv mv q2.at_ q2.sq q2.n bv hv q2.dead :: hlE m1 kv' iv' mv' p2.at_ p2.sq p2.n :: (X ++ L)) := fun e he => List.mem_cons_of_mem _ (List.mem_cons_of_mem _ (List.mem_append_right _ he))
 refine (ptake_g h2 (nw_cons rfl (nw_cons rfl (nw_app h1.nw h3))) hS hq (a1.mono hm) (a2.mono hm) (a3.mono hm) l1 l2 l3).mono fun e w' g => ?_
 obtain ⟨he, Z2, hZ2, hS⟩ := g
 exact ⟨he, X, Z2, kv, iv, mv, bv, hv, kv', iv', mv', h1, hZ2, h3, h4, h5, hS⟩
theorem law_bad_r {w0 w : World} {xa xr m1 m2 : Nat} {k1 k2 k3 : Value} {kl il ml : List UInt8} {p1 p2 : WQ} {q1 q2 : QS} {L : List Ent} (h : LawS w0 w xa xr m1 m2 p1 p2 q1 q2 L) (a1 : SRd w0 L k1 (kl.map vB)) (a2 : SRd w0 L k2 (il.map vB)) (a3 : SRd w0 L k3 (ml.map vB)) (l1 : kl.length = 16) (l2 : il.length = 16) (l3 : ml.length ≠ 32) :
  Calls Tryd.prog 19 #[.pointer (some ⟨xr, 0, none⟩), .agg #[k1, k2, k3]] w fun e w' => e = .returned (.int .i64 2) ∧ LawS w0 w' xa xr m1 m2 p1 p2 q1 q2 L := by
 obtain ⟨X, Z, kv, iv, mv, bv, hv, kv', iv', mv', h1, h2, h3, h4, h5, hS⟩ := h.ex
 have hm : ∀ e ∈ L, e ∈ (rdE m2 kv iv mv q2.at_ q2.sq q2.n bv hv q2.dead :: hlE m1 kv' iv' mv' p2.at_ p2.sq p2.n :: (X ++ L)) := fun e he => List.mem_cons_of_mem _ (List.mem_cons_of_mem _ (List.mem_append_right _ he))
 refine (ptake_bad h2 (nw_cons rfl (nw_cons rfl (nw_app h1.nw h3))) hS (a1.mono hm) (a2.mono hm) (a3.mono hm) l1 l2 l3).mono fun e w' g => ?_
 exact ⟨g.1, X, Z, kv, iv, mv, bv, hv, kv', iv', mv', h1, h2, h3, h4, h5, g.2⟩
theorem law_take_h {w0 w : World} {xa xr m1 m2 kb ko kc c2 c3 : Nat} {A2 A3 : Option Addr} {kl il ml : List UInt8} {p1 p2 : WQ} {q1 q2 : QS} {L : List Ent} (h : LawS w0 w xa xr m1 m2 p1 p2 q1 q2 L) (a1 : SRd w0 L (.slice (some ⟨kb, ko, none⟩) 16 kc) (kl.map vB)) (a2 : SRd w0 L (.slice A2 16 c2) (il.map vB)) (a3 : SRd w0 L (.slice A3 32 c3) (ml.map vB)) (l1 : kl.length = 16) (l2 : il.length = 16) (l3 : ml.length = 32) :
  Calls Tryd.prog 25 #[.pointer (some ⟨m1, 0, none⟩), .slice (some ⟨kb, ko, none⟩) 16 kc, .slice A2 16 c2, .slice A3 32 c3] w fun e w' => e = .returned (vI 0) ∧ LawS w0 w' xa xr m1 m2 p1 ⟨some (kl, il, ml), 0, p2.sq, 0⟩ q1 q2 L := by
 obtain ⟨X, Z, kv, iv, mv, bv, hv, kv', iv', mv', h1, h2, h3, h4, h5, hS⟩ := h.ex
 refine (htake_ok (rest := []) (hS.perm (permC Z X L _ _)) rfl).mono fun e w' g => ?_
 exact ⟨g.1, X, Z, kv, iv, mv, bv, hv, _, _, _, h1, h2, h3, h4, HlF.keyed a1 a2 a3 l1 l2 l3, g.2.perm (permC Z X L _ _).symm⟩
theorem law_take_rr {w0 w : World} {xa xr m1 m2 kb ko kc c2 c3 : Nat} {A2 A3 : Option Addr} {kl il ml : List UInt8} {p1 p2 : WQ} {q1 q2 : QS} {L : List Ent} (h : LawS w0 w xa xr m1 m2 p1 p2 q1 q2 L) (hq : leftQ q2 = false) (a1 : SRd w0 L (.slice (some ⟨kb, ko, none⟩) 16 kc) (kl.map vB)) (a2 : SRd w0 L (.slice A2 16 c2) (il.map vB)) (a3 : SRd w0 L (.slice A3 32 c3) (ml.map vB)) (l1 : kl.length = 16) (l2 : il.length = 16) (l3 : ml.length = 32) :
  Calls Tryd.prog 25 #[.pointer (some ⟨m2, 0, none⟩), .slice (some ⟨kb, ko, none⟩) 16 kc, .slice A2 16 c2, .slice A3 32 c3] w fun e w' => e = .returned (vI 0) ∧ LawS w0 w' xa xr m1 m2 p1 p2 q1 { q2 with key := some (kl, il, ml), at_ := 0, n := 0 } L := by
 obtain ⟨X, Z, kv, iv, mv, bv, hv, kv', iv', mv', h1, h2, h3, h4, h5, hS⟩ := h.ex
 refine (htake_ok (rest := [bv, hv, .bool q2.dead]) (hS.perm List.perm_middle) rfl).mono fun e w' g => ?_
 exact ⟨g.1, X, Z, _, _, _, bv, hv, kv', iv', mv', h1, h2, h3, h4.take hq a1 a2 a3 l1 l2 l3, h5, g.2.perm List.perm_middle.symm⟩
theorem law_bad_h {w0 w : World} {xa xr m1 m2 c1 c2 c3 m3 : Nat} {A1 A2 A3 : Option Addr} {p1 p2 : WQ} {q1 q2 : QS} {L : List Ent} (h : LawS w0 w xa xr m1 m2 p1 p2 q1 q2 L) (l3 : m3 ≠ 32) :
  Calls Tryd.prog 25 #[.pointer (some ⟨m1, 0, none⟩), .slice A1 16 c1, .slice A2 16 c2, .slice A3 m3 c3] w fun e w' => e = .returned (vI 2) ∧ LawS w0 w' xa xr m1 m2 p1 p2 q1 q2 L := by
 obtain ⟨X, Z, kv, iv, mv, bv, hv, kv', iv', mv', h1, h2, h3, h4, h5, hS⟩ := h.ex
 refine (htake_bad (rest := []) (hS.perm (permC Z X L _ _)) l3).mono fun e w' g => ?_
 exact ⟨g.1, X, Z, kv, iv, mv, bv, hv, kv', iv', mv', h1, h2, h3, h4, h5, g.2.perm (permC Z X L _ _).symm⟩
theorem law_bad_rr {w0 w : World} {xa xr m1 m2 c1 c2 c3 m3 : Nat} {A1 A2 A3 : Option Addr} {p1 p2 : WQ} {q1 q2 : QS} {L : List Ent} (h : LawS w0 w xa xr m1 m2 p1 p2 q1 q2 L) (l3 : m3 ≠ 32) :
  Calls Tryd.prog 25 #[.pointer (some ⟨m2, 0, none⟩), .slice A1 16 c1, .slice A2 16 c2, .slice A3 m3 c3] w fun e w' => e = .returned (vI 2) ∧ LawS w0 w' xa xr m1 m2 p1 p2 q1 q2 L := by
 obtain ⟨X, Z, kv, iv, mv, bv, hv, kv', iv', mv', h1, h2, h3, h4, h5, hS⟩ := h.ex
 refine (htake_bad (rest := [bv, hv, .bool q2.dead]) (hS.perm List.perm_middle) l3).mono fun e w' g => ?_
 exact ⟨g.1, X, Z, kv, iv, mv, bv, hv, kv', iv', mv', h1, h2, h3, h4, h5, g.2.perm List.perm_middle.symm⟩
theorem LawS.rd {w0 w : World} {xa xr m1 m2 : Nat} {p1 p2 : WQ} {q1 q2 : QS} {L : List Ent} (h : LawS w0 w xa xr m1 m2 p1 p2 q1 q2 L) {v : Value} {l : List Value} (hr : SRd w0 L v l) : Rd w v l := by
 obtain ⟨X, Z, kv, iv, mv, bv, hv, kv', iv', mv', h1, h2, h3, h4, h5, hS⟩ := h.ex
 exact hr w _ hS (nw_app h2.nw (nw_cons rfl (nw_cons rfl (nw_app h1.nw h3)))) (fun e he => List.mem_append_right _ (List.mem_cons_of_mem _ (List.mem_cons_of_mem _ (List.mem_append_right _ he))))
theorem LawS.num {w0 w : World} {xa xr m1 m2 : Nat} {p1 p2 : WQ} {q1 q2 : QS} {L : List Ent} (h : LawS w0 w xa xr m1 m2 p1 p2 q1 q2 L) : w.cell? ⟨xa, 0, none⟩ = some (vW (UInt32.ofNat p1.sq)) ∧ w.cell? ⟨xa, 3, none⟩ = some (vI p1.n) := by
 obtain ⟨X, Z, kv, iv, mv, bv, hv, kv', iv', mv', h1, h2, h3, h4, h5, hS⟩ := h.ex
 exact h1.cells hS (fun e he => List.mem_append_right _ (List.mem_cons_of_mem _ (List.mem_cons_of_mem _ (List.mem_append_left _ he))))
theorem LawS.hl {w0 w : World} {xa xr m1 m2 : Nat} {p1 p2 : WQ} {q1 q2 : QS} {L : List Ent} (h : LawS w0 w xa xr m1 m2 p1 p2 q1 q2 L) : w.cell? ⟨m1, 4, none⟩ = some (vI p2.sq) ∧ w.cell? ⟨m1, 5, none⟩ = some (vI p2.n) := by
 obtain ⟨X, Z, kv, iv, mv, bv, hv, kv', iv', mv', h1, h2, h3, h4, h5, hS⟩ := h.ex
 have hS' := hS.perm (permC Z X L _ _)
 exact ⟨hS'.cell (k := 0) (i := 4) rfl rfl, hS'.cell (k := 0) (i := 5) rfl rfl⟩
theorem LawS.at {w0 w : World} {xa xr m1 m2 b i : Nat} {t : TypeId} {cs : List Value} {v : Value} {nw : Bool} {p1 p2 : WQ} {q1 q2 : QS} {L : List Ent} (h : LawS w0 w xa xr m1 m2 p1 p2 q1 q2 L) (hm : ⟨nw, some b, blk t cs⟩ ∈ L) (hv : cs[i]? = some v) : w.cell? ⟨b, i, none⟩ = some v := by
 obtain ⟨X, Z, kv, iv, mv, bv, hv', kv', iv', mv', h1, h2, h3, h4, h5, hS⟩ := h.ex
 obtain ⟨k, hk⟩ := List.getElem?_of_mem (show _ ∈ (Z ++ (rdE m2 kv iv mv q2.at_ q2.sq q2.n bv hv' q2.dead :: (hlE m1 kv' iv' mv' p2.at_ p2.sq p2.n :: (X ++ L)))) from List.mem_append_right _ (List.mem_cons_of_mem _ (List.mem_cons_of_mem _ (List.mem_append_right _ hm))))
 exact hS.cell hk hv
theorem law_write_no {w0 w : World} {xa xr m1 m2 : Nat} {p1 p2 : WQ} {q1 q2 : QS} {L : List Ent} {pv dv : Value} {pl : List UInt8} (h : LawS w0 w xa xr m1 m2 p1 p2 q1 q2 L) (hPl : SRd w0 L pv (pl.map vB)) (hbad : pl.length = 0 ∨ 2048 < pl.length) :
  Calls Tryd.prog 15 #[.pointer (some ⟨xa, 0, none⟩), pv, dv] w fun e w' => e = .returned (.tuple #[.slice none 0 0, .int .i64 2]) ∧ LawS w0 w' xa xr m1 m2 p1 p2 q1 q2 L :=
 (write_len (h.rd hPl) hbad).mono fun e w' ⟨he, hx⟩ => ⟨he, h.ext hx⟩
theorem law_hwrite_no {w0 w : World} {xa xr m1 m2 : Nat} {p1 p2 : WQ} {q1 q2 : QS} {L : List Ent} {pv dv : Value} {pl : List UInt8} (h : LawS w0 w xa xr m1 m2 p1 p2 q1 q2 L) (hPl : SRd w0 L pv (pl.map vB)) (hbad : pl.length = 0 ∨ 2048 < pl.length) :
  Calls Tryd.prog 23 #[.pointer (some ⟨m1, 0, none⟩), pv, dv] w fun e w' => e = .returned (.slice none 0 0) ∧ LawS w0 w' xa xr m1 m2 p1 p2 q1 q2 L :=
 (hwrite_len (h.rd hPl) hbad).mono fun e w' ⟨he, hx⟩ => ⟨he, h.ext hx⟩
end Go.Proofs.YtfhalnobaeogkaaDoor
set_option linter.unusedVariables false
set_option linter.unusedSimpArgs false
namespace Go.Proofs.YtfhalnobaeogkaaDoor
open Go Go.RowKit Go.Fw
theorem Tryd.zv50 : (Tryd.prog.info? 50).map (·.zero) = some (some (Value.agg ([Value.slice none 0 0] ++ [Value.slice none 0 0] ++ [Value.slice none 0 0] ++ [Value.int .i64 0] ++ [Value.int .i64 0] ++ [Value.int .i64 0]).toArray)) := by kernel_rfl
theorem Tryd.zv53 : (Tryd.prog.info? 53).map (·.zero) = some (some (Value.agg (([Value.slice none 0 0] ++ [Value.slice none 0 0] ++ [Value.slice none 0 0] ++ [Value.int .i64 0] ++ [Value.int .i64 0] ++ [Value.int .i64 0]) ++ [Value.slice none 0 0] ++ [Value.slice none 0 0] ++ [Value.bool false]).toArray)) := by kernel_rfl
theorem LawS.openE {w0 w : World} {xa xr m1 m2 : Nat} {p1 p2 : WQ} {q1 q2 : QS} {L : List Ent} (h : LawS w0 w xa xr m1 m2 p1 p2 q1 q2 L) : ∃ HH, St w0 w HH ∧ (∀ e ∈ L, e ∈ HH) ∧ (∀ e ∈ HH, e.nw = true) ∧ ∀ (M : List Ent) w', (∀ e ∈ M, e.nw = true) → St w0 w' (M ++ HH) → LawS w0 w' xa xr m1 m2 p1 p2 q1 q2 (M ++ L) := by
 obtain ⟨X, Z, kv, iv, mv, bv, hv, kv', iv', mv', h1, h2, h3, h4, h5, hS⟩ := h.ex
 refine ⟨_, hS, fun e he => List.mem_append_right _ (List.mem_cons_of_mem _ (List.mem_cons_of_mem _ (List.mem_append_right _ he))), nw_app h2.nw (nw_cons rfl (nw_cons rfl (nw_app h1.nw h3))), fun M w' hM h6 => ?_⟩
 refine ⟨X, Z, kv, iv, mv, bv, hv, kv', iv', mv', h1, h2, nw_app hM h3, h4.mono fun e he => List.mem_append_right _ he, h5.mono fun e he => List.mem_append_right _ he, ?_⟩
 have e2 : ∀ B : List Ent, Z ++ (rdE m2 kv iv mv q2.at_ q2.sq q2.n bv hv q2.dead :: (hlE m1 kv' iv' mv' p2.at_ p2.sq p2.n :: (X ++ B))) = (Z ++ [rdE m2 kv iv mv q2.at_ q2.sq q2.n bv hv q2.dead, hlE m1 kv' iv' mv' p2.at_ p2.sq p2.n] ++ X) ++ B := fun B => by simp
 rw [e2] at h6 ⊢
 exact h6.perm (List.perm_append_comm_assoc _ _ _)
theorem LawS.openR {w0 w : World} {xa xr m1 m2 : Nat} {p1 p2 : WQ} {q1 q2 : QS} {L : List Ent} (h : LawS w0 w xa xr m1 m2 p1 p2 q1 q2 L) : ∃ kv iv mv bv hv HH, St w0 w (rdE m2 kv iv mv q2.at_ q2.sq q2.n bv hv q2.dead :: HH) ∧ (∀ e ∈ L, e ∈ HH) ∧ (∀ e ∈ HH, e.nw = true) ∧ SRd w0 L bv (q2.B.map vB) ∧
  ∀ (M : List Ent) w' bv' ml, (∀ e ∈ M, e.nw = true) → SRd w0 (M ++ L) bv' ((q2.B ++ ml).map vB) → St w0 w' (M ++ (rdE m2 kv iv mv q2.at_ q2.sq q2.n bv' hv q2.dead :: HH)) → LawS w0 w' xa xr m1 m2 p1 p2 q1 { q2 with B := q2.B ++ ml } (M ++ L) := by
 obtain ⟨X, Z, kv, iv, mv, bv, hv, kv', iv', mv', h1, h2, h3, h4, h5, hS⟩ := h.ex
 refine ⟨kv, iv, mv, bv, hv, _, hS.perm List.perm_middle, fun e he => List.mem_append_right _ (List.mem_cons_of_mem _ (List.mem_append_right _ he)), nw_app h2.nw (nw_cons rfl (nw_app h1.nw h3)), h4.b, fun M w' bv' ml hM hb h6 => ?_⟩
 refine ⟨X, Z, kv, iv, mv, bv', hv, kv', iv', mv', h1, h2, nw_app hM h3, h4.feed (fun e he => List.mem_append_right _ he) hb, h5.mono fun e he => List.mem_append_right _ he, ?_⟩
 show St w0 w' (Z ++ (rdE m2 kv iv mv q2.at_ q2.sq q2.n bv' hv q2.dead :: (hlE m1 kv' iv' mv' p2.at_ p2.sq p2.n :: (X ++ (M ++ L)))))
 have e2 : ∀ B : List Ent, Z ++ (rdE m2 kv iv mv q2.at_ q2.sq q2.n bv' hv q2.dead :: (hlE m1 kv' iv' mv' p2.at_ p2.sq p2.n :: (X ++ B))) = (Z ++ [rdE m2 kv iv mv q2.at_ q2.sq q2.n bv' hv q2.dead, hlE m1 kv' iv' mv' p2.at_ p2.sq p2.n] ++ X) ++ B := fun B => by simp
 have h7 := h6.perm (List.Perm.append_left M List.perm_middle.symm)
 rw [e2] at h7 ⊢
 exact h7.perm (List.perm_append_comm_assoc _ _ _)
theorem LawS.first {w0 w : World} {xa xr m1 m2 : Nat} (hS : St w0 w [rdE m2 (.slice none 0 0) (.slice none 0 0) (.slice none 0 0) 0 0 0 (.slice none 0 0) (.slice none 0 0) false, hlE m1 (.slice none 0 0) (.slice none 0 0) (.slice none 0 0) 0 0 0, rdrE xr 0 (.pointer none) (.slice none 0 0) 0 (.slice none 0 0) (.slice none 0 0) false, ⟨true, some xa, wrt 0 (.pointer none) (.slice none 0 0) 0⟩]) : LawS w0 w xa xr m1 m2 ⟨none, 0, 0, 0⟩ ⟨none, 0, 0, 0⟩ ⟨none, 0, 0, 0, [], none, false⟩ ⟨none, 0, 0, 0, [], none, false⟩ [] := by
 have hZ : PSh w0 xr ⟨none, 0, 0, 0, [], none, false⟩ [rdrE xr (UInt32.ofNat 0) (.pointer none) (.slice none 0 0) 0 (.slice none 0 0) (.slice none 0 0) false, gRow none [] [] [], gRow none [] [] []] := PSh.plain 0 0 0 [] none (.slice none 0 0) (.slice none 0 0) (.slice none 0 0) (gRow none [] [] []) none [] [] rfl ⟨by simp, .inr ⟨rfl, rfl, .inr rfl⟩⟩ rfl
 refine ⟨[⟨true, some xa, wrt 0 (.pointer none) (.slice none 0 0) 0⟩], _, .slice none 0 0, .slice none 0 0, .slice none 0 0, .slice none 0 0, .slice none 0 0, .slice none 0 0, .slice none 0 0, .slice none 0 0, WShape.plain 0 0, hZ, nw_nil, ⟨⟨0, rfl⟩, SRd.nil, 8, by decide, fun _ => rfl, rfl⟩, ⟨⟨0, rfl⟩⟩, ?_⟩
 have h := (hS.addNil (blk 5 (([] : List Value) ++ (([] : List UInt8).map vB ++ [])))).addNil (blk 5 (([] : List Value) ++ (([] : List UInt8).map vB ++ [])))
 exact h.move (k := 4) rfl
theorem LawS.toExt {w0 w : World} {xa xr m1 m2 : Nat} {p1 p2 : WQ} {q1 q2 : QS} {L : List Ent} (h : LawS w0 w xa xr m1 m2 p1 p2 q1 q2 L) : Ext w0 w := by
 obtain ⟨HH, hS, _, hn, _⟩ := h.openE
 exact hS.toExt hn
theorem St.atM {w0 w : World} {H : List Ent} (h : St w0 w H) {b i : Nat} {t : TypeId} {cs : List Value} {v : Value} {nw : Bool} (hm : ⟨nw, some b, blk t cs⟩ ∈ H) (hv : cs[i]? = some v) : w.cell? ⟨b, i, none⟩ = some v := by
 obtain ⟨k, hk⟩ := List.getElem?_of_mem hm
 exact h.cell hk hv
structure WB (p : WQ) (F i : Nat) : Prop where
 at_ : p.at_ ≤ F
 sq : p.sq ≤ i
 n : p.n ≤ p.sq
 key : ∀ k, p.key = some k → k.2.1.length = 16
theorem WB.mono {p : WQ} {F G i j : Nat} (h : WB p F i) (hg : F ≤ G) (hj : i ≤ j) : WB p G j := ⟨Nat.le_trans h.at_ hg, Nat.le_trans h.sq hj, h.n, h.key⟩
theorem WB.step {p : WQ} {F G i : Nat} (h : WB p F i) {pl dl : List UInt8} (h2 : pl.length ≤ 2048) (hg : F + (pl.length + 64) ≤ G) : WB (stepW p pl dl) G (i + 1) := by
 obtain ⟨key, at_, sq, n⟩ := p
 obtain ⟨h1, h3, h4, h5⟩ := h
 have h16 := padn_le (n := pl.length) (u := 16)
 have hl := pktF_len (seq := UInt32.ofNat sq) (pl := pl) (dl := dl) (u := 16) (by omega)
 simp only at h1 h3 h4
 cases key with
 | none =>
  have e : stepW ⟨none, at_, sq, n⟩ pl dl = ⟨none, at_, sq + 1, n + 1⟩ := rfl
  rw [e]
  exact ⟨by show at_ ≤ G; omega, by show sq + 1 ≤ i + 1; omega, by show n + 1 ≤ sq + 1; omega, h5⟩
 | some k =>
  have e : stepW ⟨some k, at_, sq, n⟩ pl dl = ⟨some k, at_ + (pktF (UInt32.ofNat sq) pl dl 16).length, sq + 1, n + 1⟩ := rfl
  rw [e, hl]
  exact ⟨by show at_ + (5 + pl.length + padn pl.length 16) ≤ G; omega, by show sq + 1 ≤ i + 1; omega, by show n + 1 ≤ sq + 1; omega, h5⟩
theorem WB.take {p : WQ} {F G i j : Nat} (h : WB p F i) (hj : i ≤ j) (c : UInt8) : WB (takeW p c) G j := by
 have l2 := kIv_len c
 have hs := Nat.le_trans h.sq hj
 unfold takeW
 generalize kKey c = a1 at *
 generalize kIv c = a2 at *
 generalize kMac c = a3 at *
 exact ⟨Nat.zero_le _, hs, Nat.zero_le _, fun k hk => by
  obtain rfl := Option.some.inj hk
  exact l2⟩
theorem build_hl (w : World) : (Instr.build 50 #[]).run Tryd.prog w = .ok (.agg #[.slice none 0 0, .slice none 0 0, .slice none 0 0, .int .i64 0, .int .i64 0, .int .i64 0]) w :=
 run_buildStr (pl := []) (places := #[(0, 1), (1, 1), (2, 1), (3, 1), (4, 1), (5, 1)]) u50 Tryd.zv50 rfl (fun w => by simp [Fw.run_sizeOf z22, Fw.run_sizeOf z3]) rfl
theorem build_rd (w : World) : (Instr.build 53 #[]).run Tryd.prog w = .ok (.agg #[.slice none 0 0, .slice none 0 0, .slice none 0 0, .int .i64 0, .int .i64 0, .int .i64 0, .slice none 0 0, .slice none 0 0, .bool false]) w :=
 run_buildStr (pl := []) (places := #[(0, 6), (6, 1), (7, 1), (8, 1)]) u53 Tryd.zv53 rfl (fun w => by simp [Fw.run_sizeOf z22, Fw.run_sizeOf z50, Fw.run_sizeOf z4]) rfl
theorem tmod_bd (n : Int) {M : Nat} (h : 0 < M) : -(M : Int) < n.tmod M ∧ n.tmod M < M := ⟨Int.lt_tmod_of_pos n (by omega), Int.tmod_lt_of_pos n (by omega)⟩
theorem tmod_nat (n : Int) {M : Nat} (h : 0 < M) : ∃ k : Nat, k < M ∧ (n.tmod M + (M : Nat)).tmod M = (k : Int) := by
 obtain ⟨h1, h2⟩ := tmod_bd n h
 have h3 := Int.tmod_lt_of_pos (n.tmod M + (M : Nat)) (show (0 : Int) < M by omega)
 have h4 : 0 ≤ (n.tmod M + (M : Nat)).tmod M := Int.tmod_nonneg _ (by omega)
 exact ⟨((n.tmod M + (M : Nat)).tmod M).toNat, by omega, by omega⟩
def flipL (W : List UInt8) (k : Nat) : List UInt8 := W.set (k / 8) (W.getD (k / 8) 0 ^^^ ((1 : UInt8) <<< UInt8.ofNat (k % 8)))
theorem flip_len (W : List UInt8) (k : Nat) : (flipL W k).length = W.length := List.length_set
theorem flip_row {W : List UInt8} {pad : List Value} {k : Nat} (h : k / 8 < W.length) : (W.map vB ++ pad).set (k / 8) (vB (W.getD (k / 8) 0 ^^^ ((1 : UInt8) <<< UInt8.ofNat (k % 8)))) = (flipL W k).map vB ++ pad := by
 rw [List.set_append_left _ _ (by simpa using h), flipL, List.map_set]
end Go.Proofs.YtfhalnobaeogkaaDoor
set_option linter.unusedVariables false
set_option linter.unusedSimpArgs false
namespace Go.Proofs.YtfhalnobaeogkaaDoor
open Go Go.RowKit Go.Fw
theorem Tryd.ok19 : CallOk Tryd.prog 19 := ⟨_, Tryd.func19, by kernel_rfl, by kernel_rfl⟩
theorem Tryd.ok20 : CallOk Tryd.prog 20 := ⟨_, Tryd.func20, by kernel_rfl, by kernel_rfl⟩
theorem Tryd.ok22 : CallOk Tryd.prog 22 := ⟨_, Tryd.func22, by kernel_rfl, by kernel_rfl⟩
theorem Tryd.ok23 : CallOk Tryd.prog 23 := ⟨_, Tryd.func23, by kernel_rfl, by kernel_rfl⟩
theorem Tryd.ok25 : CallOk Tryd.prog 25 := ⟨_, Tryd.func25, by kernel_rfl, by kernel_rfl⟩
theorem Tryd.ok26 : CallOk Tryd.prog 26 := ⟨_, Tryd.func26, by kernel_rfl, by kernel_rfl⟩
def zb (n : Int) : UInt8 := UInt8.ofNat (n % 256).toNat
theorem gv_conv_z_b {P : Program} {a : Act} {o : Oper} {w : World} {s d : TypeId} {x : Operand} {n : Int} (ho : o.op = .convert s d x) (hs : P.underlying s = some (.int .i64)) (hd : P.underlying d = some (.int .u8)) (hx : a.eval x = .int .i64 n) : Gv P o a w (vB (zb n)) := by
 have := gv_conv (w := w) ho hs hd hx
 have e : IntKind.u8.wrap n = ((zb n).toNat : Int) := by
  rw [zb, UInt8.toNat_ofNat']
  simp only [IntKind.wrap, IntKind.bits, IntKind.signed]
  simp
  omega
 rw [e] at this
 exact this
theorem a3_cut {w0 : World} {c : UInt8} {kb : Nat} (L : List Ent) (h : SRd w0 L (cutV (some ⟨kb, 0, none⟩) 64 64 32) ((kMac c).map vB)) : SRd w0 L (cutV (if (64 : Nat) = 32 then some (⟨kb, 0, none⟩ : Addr) else (some (⟨kb, 0, none⟩ : Addr)).map (·.add 32)) 32 32 1) (((kMac c).drop 1).map vB) := by
 have := SRd.cutLo (lo := 1) h (by decide)
 rwa [← List.map_drop] at this
theorem mac_short (c : UInt8) : ((kMac c).drop 1).length ≠ 32 := by rw [List.length_drop, kMac_len]; decide
set_option maxHeartbeats 4000000 in
theorem runs_true {v : Value} {cs : List CallE} {stp : Int} {w0 : World} (hG : Glob w0) (hv : CRd w0 v cs) (hsp : -9223372036854775808 ≤ stp ∧ stp ≤ 9223372036854775807) :
  Calls Tryd.prog 5 #[v, .int .i64 stp] w0 fun e w' => e = .returned (.bool true) ∧ Ext w0 w' := by
 obtain ⟨A1, c1, hv1, _⟩ := hv.is
 subst hv1
 have hlen := hv.len
 refine calls_start 213 Tryd.func5 rfl Tryd.ntmps5 rfl fun a hF => ?_
 have hS := St.refl w0
 refine wK fun Kq1 hKq1 => ?_
 refine wR ?_
 refine wg hF rfl rfl rfl (gv_assign rfl (ev_const _ _)) fun a hF => ?_
 refine wN ?_
 refine tN (hKq1 _ _ ?_)
 refine wK fun Kq2 hKq2 => ?_
 refine wK fun Kq3 hKq3 => ?_
 refine wR ?_
 refine wpList_stp (stp_call hF (wanted_none rfl) rfl rfl Tryd.ok14 rfl Evs.nil (fit_ok hG) fun e w h => ?_)
 obtain ⟨rfl, hx⟩ := h
 refine ⟨_, rfl, fun a hF => ?_⟩
 replace hS := hS.ext hx
 clear hx
 refine wg hF rfl rfl rfl (gv_not rfl (hF.t rfl)) fun a hF => ?_
 refine wN ?_
 refine tN (hKq3 _ _ ?_)
 refine wp_cond_false (hF.t rfl) ?_
 refine wp_skip ?_
 refine tN (hKq2 _ _ ?_)
 refine wK fun Kq4 hKq4 => ?_
 refine wK fun Kq5 hKq5 => ?_
 refine wR ?_
 refine wg hF rfl rfl rfl (gv_move rfl (hF.t rfl)) fun a hF => ?_
 refine wpList_stp (stp_call hF (wanted_none rfl) rfl rfl Tryd.ok22 rfl (Evs.cons (hF.t rfl) Evs.nil) (light_ok (hv.ext (hS.toExt nw_nil))) fun e w h => ?_)
 obtain ⟨rfl, hx⟩ := h
 refine ⟨_, rfl, fun a hF => ?_⟩
 replace hS := hS.ext hx
 clear hx
 refine wg hF rfl rfl rfl (gv_not rfl (hF.t rfl)) fun a hF => ?_
 rw [← decide_not] at hF
 refine wN ?_
 refine tN (hKq5 _ _ ?_)
 refine cond_dec (hF.t rfl) (fun h25 => ?_) (fun h25 => ?_)
 ·
  refine wK fun Kq6 hKq6 => ?_
  refine wR ?_
  refine wg hF rfl rfl rfl (gv_assign rfl (ev_const _ _)) fun a hF => ?_
  refine wN ?_
  refine tN (hKq6 _ _ ?_)
  refine wp_ret ?_
  refine then_ret ?_
  refine ret1 (fn := Tryd.f5) (t := 4) hF rfl rfl ?_
  exact ⟨rfl, hS.toExt nw_nil⟩
 ·
  have hlt : lightN cs cs.length ≤ 100 := by omega
  refine wp_skip ?_
  refine tN (hKq4 _ _ ?_)
  refine wK fun Kq7 hKq7 => ?_
  refine wR ?_
  refine wg hF rfl rfl rfl (gv_move rfl (hF.t rfl)) fun a hF => ?_
  refine wg hF rfl rfl rfl (gv_rem rfl (hF.t rfl) (ev_const _ _) (by omega)) fun a hF => ?_
  refine wg hF rfl rfl rfl (gv_add rfl (hF.t rfl) (ev_const _ _) (by have := Int.lt_tmod_of_pos stp (show (0 : Int) < 100 by decide); omega) (by have := Int.tmod_lt_of_pos stp (show (0 : Int) < 100 by decide); omega)) fun a hF => ?_
  refine wg hF rfl rfl rfl (gv_rem rfl (hF.t rfl) (ev_const _ _) (by omega)) fun a hF => ?_
  obtain ⟨s0, hs0, hse⟩ := tmod_nat stp (M := 100) (by decide)
  rw [show (stp.tmod 100 + 100).tmod 100 = (s0 : Int) from hse] at hF
  refine wg hF rfl rfl rfl (gv_nadd (n := 1) rfl (hF.t rfl) rfl (by omega)) fun a hF => ?_
  refine wg hF rfl rfl rfl (gv_assign rfl (hF.t rfl)) fun a hF => ?_
  obtain ⟨st, hst⟩ : ∃ st, st = s0 + 1 := ⟨_, rfl⟩
  rw [← hst] at hF
  refine wN ?_
  refine tN (hKq7 _ _ ?_)
  refine wK fun Kq8 hKq8 => ?_
  refine wR ?_
  refine wpList_stp (stp_alloc hF (wanted_none rfl) rfl rfl rfl Tryd.zv37 rfl hS fun xa a w hF hS => ?_)
  refine wN ?_
  refine tN (hKq8 _ _ ?_)
  refine wK fun Kq9 hKq9 => ?_
  refine wR ?_
  refine wpList_stp (stp_alloc hF (wanted_none rfl) rfl rfl rfl Tryd.zv47 rfl hS fun xr a w hF hS => ?_)
  refine wN ?_
  refine tN (hKq9 _ _ ?_)
  refine wK fun Kq10 hKq10 => ?_
  refine wR ?_
  refine wg hF rfl rfl rfl (gv_build rfl (EvP.map EvP.nil) (build_hl _)) fun a hF => ?_
  refine wpList_stp (stp_box hF (wanted_none rfl) rfl rfl rfl (hF.t rfl) rfl hS fun m1 a w hF hS => ?_)
  refine wg hF rfl rfl rfl (gv_build rfl (EvP.map EvP.nil) (build_rd _)) fun a hF => ?_
  refine wpList_stp (stp_box hF (wanted_none rfl) rfl rfl rfl (hF.t rfl) rfl hS fun m2 a w hF hS => ?_)
  refine wg hF rfl rfl rfl (gv_assign rfl (hF.t rfl)) fun a hF => ?_
  refine wg hF rfl rfl rfl (gv_assign rfl (hF.t rfl)) fun a hF => ?_
  refine wN ?_
  refine tN (hKq10 _ _ ?_)
  refine wK fun Kq11 hKq11 => ?_
  refine wK fun Kq12 hKq12 => ?_
  refine wR ?_
  refine wg hF rfl rfl rfl (gv_move rfl (hF.t rfl)) fun a hF => ?_
  refine wg hF rfl rfl rfl (gv_len rfl u44 (hF.t rfl)) fun a hF => ?_
  refine wg hF rfl rfl rfl (gv_move rfl (ev_const _ _)) fun a hF => ?_
  refine wN ?_
  refine tN (hKq12 _ _ ?_)
  refine wp_block ?_
  replace hS := LawS.first hS
  refine wp_loop_n (fun mm a w => ∃ (i : Nat) (p : WQ) (q : QS) (L : List Ent), i ≤ cs.length ∧ mm = cs.length - i ∧ FedQ q (113 * lightN cs i) ∧ WB p (113 * lightN cs i) i ∧ Fr 213 a [(1, vI st), (5, .pointer (some ⟨xa, 0, none⟩)), (6, .pointer (some ⟨xr, 0, none⟩)), (7, .pointer (some ⟨m1, 0, none⟩)), (8, .pointer (some ⟨m2, 0, none⟩)), (35, .slice A1 cs.length c1), (36, vI cs.length), (37, vI i)] ∧ LawS w0 w xa xr m1 m2 p p q q L) cs.length ⟨0, ⟨none, 0, 0, 0⟩, ⟨none, 0, 0, 0, [], none, false⟩, [], Nat.zero_le _, rfl, ⟨fun _ => Nat.zero_le _, Nat.le_refl _, Nat.le_refl _⟩, ⟨Nat.zero_le _, Nat.le_refl _, Nat.le_refl _, fun k hk => by cases hk⟩, hF.sub ⟨rfl, rfl, rfl, rfl, rfl, rfl, rfl, rfl, trivial⟩, hS⟩ ?_
  rintro mm a w ⟨i, p, q, L, hi, hmm, hq, hp, hF, hS⟩
  refine wK fun Kq13 hKq13 => ?_
  refine wR ?_
  refine wg hF rfl rfl rfl (gv_lss rfl (hF.t rfl) (hF.t rfl)) fun a hF => ?_
  refine wN ?_
  refine tN (hKq13 _ _ ?_)
  refine wK fun Kq14 hKq14 => ?_
  refine cond_dec (hF.t rfl) (fun h38 => ?_) (fun h38 => ?_)
  ·
   obtain ⟨b1, o1, ⟨kd, dv, bl, dr, nn⟩, hA1, hx1, hcell, hdv, hbl, hdr, hnn⟩ := hv.at (i := i) (by omega)
   obtain ⟨Ad, cd, hdv0, hd1, hd2, _⟩ := hdv.isB
   simp only at hdv0 hbl hdr hnn
   subst hdv0
   subst hA1
   have hsm := light_small hlt hx1
   simp only at hsm
   have hli := lightN_mono cs (show i + 1 ≤ cs.length by omega)
   have hlm := lightN_mono cs (show i ≤ i + 1 by omega)
   have hle := fed_le hx1
   simp only at hle
   have hil := light_len cs (i + 1) (by omega)
   refine wp_skip ?_
   refine tN (hKq14 _ _ ?_)
   refine wK fun Kq15 hKq15 => ?_
   refine wp_block ?_
   refine wK fun Kq16 hKq16 => ?_
   obtain ⟨HH, hS0, hLm, hnH, hmk⟩ := hS.openE
   replace hS := hS0
   clear hS0
   refine wR ?_
   refine wg hF rfl rfl rfl (gv_indexSl rfl u44 z55 (hF.t rfl) (hF.t rfl) (by omega)) fun a hF => ?_
   refine wg hF rfl rfl rfl (gv_loadAgg (vs := [.int .i64 kd, .slice Ad bl.length cd, sV dr, .int .i64 nn]) rfl u55 rfl (z55.trans (congrArg some (by rfl))) (hF.t rfl) (fun j u hu => cell_ext (hcell j u hu) (hS.toExt hnH))) fun a hF => ?_
   refine wpList_stp (stp_alloc hF (wanted_none rfl) rfl rfl rfl Tryd.zv55 rfl hS fun cx a w hF hS => ?_)
   refine wpList_stp (stp_storeAll hF (wanted_none rfl) rfl rfl (z55.trans (congrArg some (by rfl))) (hF.t rfl) (hF.t rfl) (cells_one (x := ⟨kd, .slice Ad bl.length cd, bl, dr, nn⟩) hdv) hS (k := 0) rfl (by rfl) fun w hS => ?_)
   refine wN ?_
   have hSt := hS
   clear hS
   obtain ⟨L1, hcx, hS⟩ : ∃ L1, (⟨true, some cx, blk 55 [.int .i64 kd, .slice Ad bl.length cd, sV dr, .int .i64 nn]⟩ : Ent) ∈ L1 ∧ LawS w0 w xa xr m1 m2 p p q q L1 := ⟨_, List.mem_cons_self, hmk [_] _ (nw_cons rfl nw_nil) hSt⟩
   clear hSt hmk hLm hnH
   refine tN (hKq16 _ _ ?_)
   refine wK fun Kq17 hKq17 => ?_
   refine wR ?_
   refine wg hF rfl rfl rfl (gv_field (r := 1) rfl u55 rfl rfl z22 (by decide) (hF.t rfl)) fun a hF => ?_
   refine wg hF rfl rfl rfl (gv_load rfl u22 rfl (hF.t rfl) (cell_ix (j := 1) (hS.at hcx rfl) (by omega))) fun a hF => ?_
   refine wg hF rfl rfl rfl (gv_assign rfl (hF.t rfl)) fun a hF => ?_
   refine wN ?_
   refine tN (hKq17 _ _ ?_)
   refine wp_cut (fun a w => ∃ (p : WQ) (q : QS) (L : List Ent) (v : Value) (l : List UInt8), l.length ≤ bl.length + 64 ∧ SRd w0 L v (l.map vB) ∧ FedQ q (113 * lightN cs i) ∧ WB p (113 * lightN cs (i + 1)) (i + 1) ∧ Fr 213 a [(1, vI st), (5, .pointer (some ⟨xa, 0, none⟩)), (6, .pointer (some ⟨xr, 0, none⟩)), (7, .pointer (some ⟨m1, 0, none⟩)), (8, .pointer (some ⟨m2, 0, none⟩)), (35, .slice (some ⟨b1, o1, none⟩) cs.length c1), (36, vI cs.length), (37, vI i), (11, v)] ∧ LawS w0 w xa xr m1 m2 p p q q L) ?_ ?_
   ·
    refine wK fun Kq18 hKq18 => ?_
    refine wR ?_
    refine wg hF rfl rfl rfl (gv_field (r := 0) rfl u55 rfl rfl z3 (by decide) (hF.t rfl)) fun a hF => ?_
    refine wg hF rfl rfl rfl (gv_load rfl u3 rfl (hF.t rfl) (cell_ix (j := 0) (hS.at hcx rfl) (by omega))) fun a hF => ?_
    refine wN ?_
    refine tN (hKq18 _ _ ?_)
    refine wp_block ?_
    refine wK fun Kq19 hKq19 => ?_
    have hkk : (kd = 0 ∧ 1 ≤ bl.length ∧ bl.length ≤ 2048) ∨ (kd = 0 ∧ (bl.length = 0 ∨ 2048 < bl.length)) ∨ (kd = 3 ∧ 1 ≤ bl.length ∧ bl.length ≤ 2048) ∨ (kd = 3 ∧ (bl.length = 0 ∨ 2048 < bl.length)) ∨ kd = 1 ∨ (kd ≠ 0 ∧ kd ≠ 3 ∧ kd ≠ 1) := by omega
    rcases hkk with ⟨rfl, g1, g2⟩ | ⟨rfl, gb⟩ | ⟨rfl, g1, g2⟩ | ⟨rfl, gb⟩ | rfl | ⟨k0, k3, k1⟩
    ·
     refine wK fun Kq20 hKq20 => ?_
     refine wR ?_
     refine wg hF rfl rfl rfl (gv_eqlT rfl (hF.t rfl) (ev_const _ _) (rfl)) fun a hF => ?_
     refine wg hF rfl rfl rfl (gv_assign rfl (hF.t rfl)) fun a hF => ?_
     refine wN ?_
     refine tN (hKq20 _ _ ?_)
     refine wp_cond_true (hF.t rfl) ?_
     refine wp_skip ?_
     refine tN (hKq19 _ _ ?_)
     refine wp_cond_true (hF.t rfl) ?_
     refine wK fun Kq21 hKq21 => ?_
     refine wR ?_
     refine wg hF rfl rfl rfl (gv_field (r := 1) rfl u55 rfl rfl z22 (by decide) (hF.t rfl)) fun a hF => ?_
     refine wg hF rfl rfl rfl (gv_load rfl u22 rfl (hF.t rfl) (cell_ix (j := 1) (hS.at hcx rfl) (by omega))) fun a hF => ?_
     refine wg hF rfl rfl rfl (gv_field (r := 2) rfl u55 rfl rfl z9 (by decide) (hF.t rfl)) fun a hF => ?_
     refine wg hF rfl rfl rfl (gv_load rfl u9 rfl (hF.t rfl) (cell_ix (j := 2) (hS.at hcx rfl) (by omega))) fun a hF => ?_
     refine wpList_stp (stp_call hF (wanted_none rfl) rfl rfl Tryd.ok15 rfl (Evs.cons (hF.t rfl) (Evs.cons (hF.t rfl) (Evs.cons (hF.t rfl) Evs.nil))) (law_write hG hS hp.key (SRd.old hdv) g1 g2 (by omega) (by have := hp.n; have := hp.sq; omega)) fun e w g => ?_)
     obtain ⟨v1, L2, rfl, hL2, hr1, hS⟩ := g
     refine ⟨_, rfl, fun a hF => ?_⟩
     replace hcx := hL2 _ hcx
     have hWp : 0 < (pktW p bl dr).length := pktW_pos g2
     have hWl := pktW_le (q := p) (dl := dr) g2
     obtain ⟨W, hW⟩ : ∃ W, W = pktW p bl dr := ⟨_, rfl⟩
     rw [← hW] at hr1 hWp hWl
     refine wg hF rfl rfl rfl (gv_move rfl (hF.t rfl)) fun a hF => ?_
     refine wg hF rfl rfl rfl (gv_extract rfl (hF.t rfl) rfl) fun a hF => ?_
     refine wg hF rfl rfl rfl (gv_extract rfl (hF.t rfl) rfl) fun a hF => ?_
     refine wg hF rfl rfl rfl (gv_assign rfl (hF.t rfl)) fun a hF => ?_
     refine wg hF rfl rfl rfl (gv_assign rfl (hF.t rfl)) fun a hF => ?_
     refine wN ?_
     refine tN (hKq21 _ _ ?_)
     refine wK fun Kq22 hKq22 => ?_
     refine wR ?_
     refine wg hF rfl rfl rfl (gv_move rfl (hF.t rfl)) fun a hF => ?_
     refine wg hF rfl rfl rfl (gv_field (r := 1) rfl u55 rfl rfl z22 (by decide) (hF.t rfl)) fun a hF => ?_
     refine wg hF rfl rfl rfl (gv_load rfl u22 rfl (hF.t rfl) (cell_ix (j := 1) (hS.at hcx rfl) (by omega))) fun a hF => ?_
     refine wg hF rfl rfl rfl (gv_field (r := 2) rfl u55 rfl rfl z9 (by decide) (hF.t rfl)) fun a hF => ?_
     refine wg hF rfl rfl rfl (gv_load rfl u9 rfl (hF.t rfl) (cell_ix (j := 2) (hS.at hcx rfl) (by omega))) fun a hF => ?_
     refine wpList_stp (stp_call hF (wanted_none rfl) rfl rfl Tryd.ok23 rfl (Evs.cons (hF.t rfl) (Evs.cons (hF.t rfl) (Evs.cons (hF.t rfl) Evs.nil))) (law_hwrite hS (SRd.old hdv) g1 g2 (by omega) (by have := hp.sq; omega) (by have := hp.n; have := hp.sq; omega) (by have := hp.at_; omega)) fun e w g => ?_)
     obtain ⟨v2, L3, rfl, hL3, hr2, hS⟩ := g
     refine ⟨_, rfl, fun a hF => ?_⟩
     replace hcx := hL3 _ hcx
     replace hr1 := hr1.mono hL3
     rw [← hW] at hr2
     obtain ⟨A2, c2, rfl, hc21, hc22, _⟩ := (hS.rd hr2).isB
     have hp2 : WB (stepW p bl dr) (113 * lightN cs (i + 1)) (i + 1) := hp.step g2 hle
     refine wg hF rfl rfl rfl (gv_assign rfl (hF.t rfl)) fun a hF => ?_
     refine wN ?_
     refine tN (hKq22 _ _ ?_)
     refine wK fun Kq23 hKq23 => ?_
     refine wK fun Kq24 hKq24 => ?_
     refine Fw.wp_region_draw (by kernel_rfl) fun w hx => ?_
     replace hS := hS.ext hx
     clear hx
     refine run_head0 (n := 32) _ hF (by kernel_rfl) rfl ?_
     refine dg hF rfl rfl rfl rfl (fun w hx => gv_move rfl (hF.t rfl)) fun a hF => ?_
     refine dg hF rfl rfl rfl rfl (fun w hx => gv_convStr (l := W) rfl u22 u5 u9 (hF.t rfl) ((hS.ext hx).rd hr1)) fun a hF => ?_
     refine dg hF rfl rfl rfl rfl (fun w hx => gv_move rfl (hF.t rfl)) fun a hF => ?_
     refine dg hF rfl rfl rfl rfl (fun w hx => gv_convStr (l := W) rfl u22 u5 u9 (hF.t rfl) ((hS.ext hx).rd hr2)) fun a hF => ?_
     refine dg hF rfl rfl rfl rfl (fun w hx => gv_strNeqF rfl (hF.t rfl) (hF.t rfl) rfl) fun a hF => ?_
     refine dg hF rfl rfl rfl rfl (fun w hx => gv_move rfl (hF.t rfl)) fun a hF => ?_
     refine dw_gv hF rfl (wanted_of hF rfl rfl (rfl)) rfl rfl (fun w hx => gv_move rfl (hF.t rfl)) fun a hF => ?_
     refine dw_gv hF rfl (wanted_of hF rfl rfl (rfl)) rfl rfl (fun w hx => gv_eqlT rfl (hF.t rfl) (ev_const _ _) (rfl)) fun a hF => ?_
     refine dw_gv hF rfl (wanted_of hF rfl rfl (rfl)) rfl rfl (fun w hx => gv_move rfl (hF.t rfl)) fun a hF => ?_
     refine dw_gv hF rfl (wanted_of hF rfl rfl (rfl)) rfl rfl (fun w hx => gv_len rfl u22 (hF.t rfl)) fun a hF => ?_
     refine dw_gv hF rfl (wanted_of hF rfl rfl (rfl)) rfl rfl (fun w hx => gv_gtrT rfl (hF.t rfl) (ev_const _ _) (by omega)) fun a hF => ?_
     refine dw_gv hF rfl (wanted_of hF rfl rfl (rfl)) rfl rfl (fun w hx => gv_boolNeq rfl u4 (hF.t rfl) (hF.t rfl)) fun a hF => ?_
     refine dg hF rfl rfl rfl rfl (fun w hx => gv_pickF rfl (hF.t rfl) (hF.t rfl)) fun a hF => ?_
     refine dg hF rfl rfl rfl rfl (fun w hx => gv_move rfl (hF.t rfl)) fun a hF => ?_
     refine dw_gv hF rfl (wanted_of hF rfl rfl (rfl)) rfl rfl (fun w hx => gv_field (r := 0) rfl u37 rfl rfl z35 (by decide) (hF.t rfl)) fun a hF => ?_
     refine dw_call hF rfl (wanted_of hF rfl rfl (rfl)) rfl rfl Tryd.ok24 rfl (Evs.cons (hF.t rfl) Evs.nil) (fun w hx => cnt_q ((hS.ext hx).num.2)) fun a hF => ?_
     refine dw_gv hF rfl (wanted_of hF rfl rfl (rfl)) rfl rfl (fun w hx => gv_move rfl (hF.t rfl)) fun a hF => ?_
     refine dw_gv hF rfl (wanted_of hF rfl rfl (rfl)) rfl rfl (fun w hx => gv_nilCheck rfl (hF.t rfl)) fun a hF => ?_
     refine dw_gv hF rfl (wanted_of hF rfl rfl (rfl)) rfl rfl (fun w hx => gv_field (r := 5) rfl u50 rfl rfl z3 (by decide) (hF.t rfl)) fun a hF => ?_
     refine dw_gv hF rfl (wanted_of hF rfl rfl (rfl)) rfl rfl (fun w hx => gv_load rfl u3 rfl (hF.t rfl) (cell_ix (j := 5) ((hS.ext hx).hl.2) (by omega))) fun a hF => ?_
     refine dw_gv hF rfl (wanted_of hF rfl rfl (rfl)) rfl rfl (fun w hx => gv_neqF rfl (hF.t rfl) (hF.t rfl) (fun h => h rfl)) fun a hF => ?_
     refine dg hF rfl rfl rfl rfl (fun w hx => gv_pickF rfl (hF.t rfl) (hF.t rfl)) fun a hF => ?_
     refine dg hF rfl rfl rfl rfl (fun w hx => gv_move rfl (hF.t rfl)) fun a hF => ?_
     refine dw_gv hF rfl (wanted_of hF rfl rfl (rfl)) rfl rfl (fun w hx => gv_field (r := 0) rfl u37 rfl rfl z35 (by decide) (hF.t rfl)) fun a hF => ?_
     refine dw_call hF rfl (wanted_of hF rfl rfl (rfl)) rfl rfl Tryd.ok21 rfl (Evs.cons (hF.t rfl) Evs.nil) (fun w hx => num_ok ((hS.ext hx).num.1)) fun a hF => ?_
     refine dw_gv hF rfl (wanted_of hF rfl rfl (rfl)) rfl rfl (fun w hx => gv_move rfl (hF.t rfl)) fun a hF => ?_
     refine dw_gv hF rfl (wanted_of hF rfl rfl (rfl)) rfl rfl (fun w hx => gv_nilCheck rfl (hF.t rfl)) fun a hF => ?_
     refine dw_gv hF rfl (wanted_of hF rfl rfl (rfl)) rfl rfl (fun w hx => gv_field (r := 4) rfl u50 rfl rfl z3 (by decide) (hF.t rfl)) fun a hF => ?_
     refine dw_gv hF rfl (wanted_of hF rfl rfl (rfl)) rfl rfl (fun w hx => gv_load rfl u3 rfl (hF.t rfl) (cell_ix (j := 4) ((hS.ext hx).hl.1) (by omega))) fun a hF => ?_
     refine dw_gv hF rfl (wanted_of hF rfl rfl (rfl)) rfl rfl (fun w hx => gv_conv_i_w rfl u3 u32 (hF.t rfl)) fun a hF => ?_
     refine dw_gv hF rfl (wanted_of hF rfl rfl (rfl)) rfl rfl (fun w hx => gv_neqF rfl (hF.t rfl) (hF.t rfl) (fun h => h rfl)) fun a hF => ?_
     refine dg hF rfl rfl rfl rfl (fun w hx => gv_pickF rfl (hF.t rfl) (hF.t rfl)) fun a hF => ?_
     refine dw_nil fun a w hA hx => ?_
     replace hF := hA _ hF
     replace hS := hS.ext hx
     clear hA hx
     refine run_done (by decide) ?_
     refine tN (hKq24 _ _ ?_)
     refine wp_cond_false (hF.t rfl) ?_
     refine wp_skip ?_
     refine tN (hKq23 _ _ ?_)
     refine wK fun Kq25 hKq25 => ?_
     refine wR ?_
     refine wg hF rfl rfl rfl (gv_field (r := 0) rfl u55 rfl rfl z3 (by decide) (hF.t rfl)) fun a hF => ?_
     refine wg hF rfl rfl rfl (gv_load rfl u3 rfl (hF.t rfl) (cell_ix (j := 0) (hS.at hcx rfl) (by omega))) fun a hF => ?_
     refine wg hF rfl rfl rfl (gv_eqlF rfl (hF.t rfl) (ev_const _ _) (by decide)) fun a hF => ?_
     refine wg hF rfl rfl rfl (gv_move rfl (hF.t rfl)) fun a hF => ?_
     refine wpList_stp (stp_skip hF (unwanted_of hF rfl rfl (rfl) rfl) rfl rfl fun a hF => ?_)
     refine wpList_stp (stp_skip hF (unwanted_of hF rfl rfl (rfl) rfl) rfl rfl fun a hF => ?_)
     refine wpList_stp (stp_skip hF (unwanted_of hF rfl rfl (rfl) rfl) rfl rfl fun a hF => ?_)
     refine wg hF rfl rfl rfl (gv_pickF rfl (hF.t rfl) (ev_const _ _)) fun a hF => ?_
     refine wN ?_
     refine tN (hKq25 _ _ ?_)
     refine wp_cond_false (hF.t rfl) ?_
     refine wp_skip ?_
     refine block_normal ?_
     refine then_normal ?_
     exact ⟨(stepW p bl dr), q, L3, _, W, hWl, hr2, hq, hp2, hF.sub ⟨rfl, rfl, rfl, rfl, rfl, rfl, rfl, rfl, rfl, trivial⟩, hS⟩
    ·
     refine wK fun Kq26 hKq26 => ?_
     refine wR ?_
     refine wg hF rfl rfl rfl (gv_eqlT rfl (hF.t rfl) (ev_const _ _) (rfl)) fun a hF => ?_
     refine wg hF rfl rfl rfl (gv_assign rfl (hF.t rfl)) fun a hF => ?_
     refine wN ?_
     refine tN (hKq26 _ _ ?_)
     refine wp_cond_true (hF.t rfl) ?_
     refine wp_skip ?_
     refine tN (hKq19 _ _ ?_)
     refine wp_cond_true (hF.t rfl) ?_
     refine wK fun Kq27 hKq27 => ?_
     refine wR ?_
     refine wg hF rfl rfl rfl (gv_field (r := 1) rfl u55 rfl rfl z22 (by decide) (hF.t rfl)) fun a hF => ?_
     refine wg hF rfl rfl rfl (gv_load rfl u22 rfl (hF.t rfl) (cell_ix (j := 1) (hS.at hcx rfl) (by omega))) fun a hF => ?_
     refine wg hF rfl rfl rfl (gv_field (r := 2) rfl u55 rfl rfl z9 (by decide) (hF.t rfl)) fun a hF => ?_
     refine wg hF rfl rfl rfl (gv_load rfl u9 rfl (hF.t rfl) (cell_ix (j := 2) (hS.at hcx rfl) (by omega))) fun a hF => ?_
     refine wpList_stp (stp_call hF (wanted_none rfl) rfl rfl Tryd.ok15 rfl (Evs.cons (hF.t rfl) (Evs.cons (hF.t rfl) (Evs.cons (hF.t rfl) Evs.nil))) (law_write_no hS (SRd.old hdv) gb) fun e w g => ?_)
     obtain ⟨rfl, hS⟩ := g
     refine ⟨_, rfl, fun a hF => ?_⟩
     refine wg hF rfl rfl rfl (gv_move rfl (hF.t rfl)) fun a hF => ?_
     refine wg hF rfl rfl rfl (gv_extract rfl (hF.t rfl) rfl) fun a hF => ?_
     refine wg hF rfl rfl rfl (gv_extract rfl (hF.t rfl) rfl) fun a hF => ?_
     refine wg hF rfl rfl rfl (gv_assign rfl (hF.t rfl)) fun a hF => ?_
     refine wg hF rfl rfl rfl (gv_assign rfl (hF.t rfl)) fun a hF => ?_
     refine wN ?_
     refine tN (hKq27 _ _ ?_)
     refine wK fun Kq28 hKq28 => ?_
     refine wR ?_
     refine wg hF rfl rfl rfl (gv_move rfl (hF.t rfl)) fun a hF => ?_
     refine wg hF rfl rfl rfl (gv_field (r := 1) rfl u55 rfl rfl z22 (by decide) (hF.t rfl)) fun a hF => ?_
     refine wg hF rfl rfl rfl (gv_load rfl u22 rfl (hF.t rfl) (cell_ix (j := 1) (hS.at hcx rfl) (by omega))) fun a hF => ?_
     refine wg hF rfl rfl rfl (gv_field (r := 2) rfl u55 rfl rfl z9 (by decide) (hF.t rfl)) fun a hF => ?_
     refine wg hF rfl rfl rfl (gv_load rfl u9 rfl (hF.t rfl) (cell_ix (j := 2) (hS.at hcx rfl) (by omega))) fun a hF => ?_
     refine wpList_stp (stp_call hF (wanted_none rfl) rfl rfl Tryd.ok23 rfl (Evs.cons (hF.t rfl) (Evs.cons (hF.t rfl) (Evs.cons (hF.t rfl) Evs.nil))) (law_hwrite_no hS (SRd.old hdv) gb) fun e w g => ?_)
     obtain ⟨rfl, hS⟩ := g
     refine ⟨_, rfl, fun a hF => ?_⟩
     refine wg hF rfl rfl rfl (gv_assign rfl (hF.t rfl)) fun a hF => ?_
     refine wN ?_
     refine tN (hKq28 _ _ ?_)
     refine wK fun Kq29 hKq29 => ?_
     refine wK fun Kq30 hKq30 => ?_
     refine Fw.wp_region_draw (by kernel_rfl) fun w hx => ?_
     replace hS := hS.ext hx
     clear hx
     refine run_head0 (n := 32) _ hF (by kernel_rfl) rfl ?_
     refine dg hF rfl rfl rfl rfl (fun w hx => gv_move rfl (hF.t rfl)) fun a hF => ?_
     refine dg hF rfl rfl rfl rfl (fun w hx => gv_convStr (l := []) rfl u22 u5 u9 (hF.t rfl) (Rd.nil _)) fun a hF => ?_
     refine dg hF rfl rfl rfl rfl (fun w hx => gv_move rfl (hF.t rfl)) fun a hF => ?_
     refine dg hF rfl rfl rfl rfl (fun w hx => gv_convStr (l := []) rfl u22 u5 u9 (hF.t rfl) (Rd.nil _)) fun a hF => ?_
     refine dg hF rfl rfl rfl rfl (fun w hx => gv_strNeqF rfl (hF.t rfl) (hF.t rfl) rfl) fun a hF => ?_
     refine dg hF rfl rfl rfl rfl (fun w hx => gv_move rfl (hF.t rfl)) fun a hF => ?_
     refine dw_gv hF rfl (wanted_of hF rfl rfl (rfl)) rfl rfl (fun w hx => gv_move rfl (hF.t rfl)) fun a hF => ?_
     refine dw_gv hF rfl (wanted_of hF rfl rfl (rfl)) rfl rfl (fun w hx => gv_eqlF rfl (hF.t rfl) (ev_const _ _) (by decide)) fun a hF => ?_
     refine dw_gv hF rfl (wanted_of hF rfl rfl (rfl)) rfl rfl (fun w hx => gv_move rfl (hF.t rfl)) fun a hF => ?_
     refine dw_gv hF rfl (wanted_of hF rfl rfl (rfl)) rfl rfl (fun w hx => gv_len rfl u22 (hF.t rfl)) fun a hF => ?_
     refine dw_gv hF rfl (wanted_of hF rfl rfl (rfl)) rfl rfl (fun w hx => gv_gtrF rfl (hF.t rfl) (ev_const _ _) (by decide)) fun a hF => ?_
     refine dw_gv hF rfl (wanted_of hF rfl rfl (rfl)) rfl rfl (fun w hx => gv_boolNeq rfl u4 (hF.t rfl) (hF.t rfl)) fun a hF => ?_
     refine dg hF rfl rfl rfl rfl (fun w hx => gv_pickF rfl (hF.t rfl) (hF.t rfl)) fun a hF => ?_
     refine dg hF rfl rfl rfl rfl (fun w hx => gv_move rfl (hF.t rfl)) fun a hF => ?_
     refine dw_gv hF rfl (wanted_of hF rfl rfl (rfl)) rfl rfl (fun w hx => gv_field (r := 0) rfl u37 rfl rfl z35 (by decide) (hF.t rfl)) fun a hF => ?_
     refine dw_call hF rfl (wanted_of hF rfl rfl (rfl)) rfl rfl Tryd.ok24 rfl (Evs.cons (hF.t rfl) Evs.nil) (fun w hx => cnt_q ((hS.ext hx).num.2)) fun a hF => ?_
     refine dw_gv hF rfl (wanted_of hF rfl rfl (rfl)) rfl rfl (fun w hx => gv_move rfl (hF.t rfl)) fun a hF => ?_
     refine dw_gv hF rfl (wanted_of hF rfl rfl (rfl)) rfl rfl (fun w hx => gv_nilCheck rfl (hF.t rfl)) fun a hF => ?_
     refine dw_gv hF rfl (wanted_of hF rfl rfl (rfl)) rfl rfl (fun w hx => gv_field (r := 5) rfl u50 rfl rfl z3 (by decide) (hF.t rfl)) fun a hF => ?_
     refine dw_gv hF rfl (wanted_of hF rfl rfl (rfl)) rfl rfl (fun w hx => gv_load rfl u3 rfl (hF.t rfl) (cell_ix (j := 5) ((hS.ext hx).hl.2) (by omega))) fun a hF => ?_
     refine dw_gv hF rfl (wanted_of hF rfl rfl (rfl)) rfl rfl (fun w hx => gv_neqF rfl (hF.t rfl) (hF.t rfl) (fun h => h rfl)) fun a hF => ?_
     refine dg hF rfl rfl rfl rfl (fun w hx => gv_pickF rfl (hF.t rfl) (hF.t rfl)) fun a hF => ?_
     refine dg hF rfl rfl rfl rfl (fun w hx => gv_move rfl (hF.t rfl)) fun a hF => ?_
     refine dw_gv hF rfl (wanted_of hF rfl rfl (rfl)) rfl rfl (fun w hx => gv_field (r := 0) rfl u37 rfl rfl z35 (by decide) (hF.t rfl)) fun a hF => ?_
     refine dw_call hF rfl (wanted_of hF rfl rfl (rfl)) rfl rfl Tryd.ok21 rfl (Evs.cons (hF.t rfl) Evs.nil) (fun w hx => num_ok ((hS.ext hx).num.1)) fun a hF => ?_
     refine dw_gv hF rfl (wanted_of hF rfl rfl (rfl)) rfl rfl (fun w hx => gv_move rfl (hF.t rfl)) fun a hF => ?_
     refine dw_gv hF rfl (wanted_of hF rfl rfl (rfl)) rfl rfl (fun w hx => gv_nilCheck rfl (hF.t rfl)) fun a hF => ?_
     refine dw_gv hF rfl (wanted_of hF rfl rfl (rfl)) rfl rfl (fun w hx => gv_field (r := 4) rfl u50 rfl rfl z3 (by decide) (hF.t rfl)) fun a hF => ?_
     refine dw_gv hF rfl (wanted_of hF rfl rfl (rfl)) rfl rfl (fun w hx => gv_load rfl u3 rfl (hF.t rfl) (cell_ix (j := 4) ((hS.ext hx).hl.1) (by omega))) fun a hF => ?_
     refine dw_gv hF rfl (wanted_of hF rfl rfl (rfl)) rfl rfl (fun w hx => gv_conv_i_w rfl u3 u32 (hF.t rfl)) fun a hF => ?_
     refine dw_gv hF rfl (wanted_of hF rfl rfl (rfl)) rfl rfl (fun w hx => gv_neqF rfl (hF.t rfl) (hF.t rfl) (fun h => h rfl)) fun a hF => ?_
     refine dg hF rfl rfl rfl rfl (fun w hx => gv_pickF rfl (hF.t rfl) (hF.t rfl)) fun a hF => ?_
     refine dw_nil fun a w hA hx => ?_
     replace hF := hA _ hF
     replace hS := hS.ext hx
     clear hA hx
     refine run_done (by decide) ?_
     refine tN (hKq30 _ _ ?_)
     refine wp_cond_false (hF.t rfl) ?_
     refine wp_skip ?_
     refine tN (hKq29 _ _ ?_)
     refine wK fun Kq31 hKq31 => ?_
     refine wR ?_
     refine wg hF rfl rfl rfl (gv_field (r := 0) rfl u55 rfl rfl z3 (by decide) (hF.t rfl)) fun a hF => ?_
     refine wg hF rfl rfl rfl (gv_load rfl u3 rfl (hF.t rfl) (cell_ix (j := 0) (hS.at hcx rfl) (by omega))) fun a hF => ?_
     refine wg hF rfl rfl rfl (gv_eqlF rfl (hF.t rfl) (ev_const _ _) (by decide)) fun a hF => ?_
     refine wg hF rfl rfl rfl (gv_move rfl (hF.t rfl)) fun a hF => ?_
     refine wpList_stp (stp_skip hF (unwanted_of hF rfl rfl (rfl) rfl) rfl rfl fun a hF => ?_)
     refine wpList_stp (stp_skip hF (unwanted_of hF rfl rfl (rfl) rfl) rfl rfl fun a hF => ?_)
     refine wpList_stp (stp_skip hF (unwanted_of hF rfl rfl (rfl) rfl) rfl rfl fun a hF => ?_)
     refine wg hF rfl rfl rfl (gv_pickF rfl (hF.t rfl) (ev_const _ _)) fun a hF => ?_
     refine wN ?_
     refine tN (hKq31 _ _ ?_)
     refine wp_cond_false (hF.t rfl) ?_
     refine wp_skip ?_
     refine block_normal ?_
     refine then_normal ?_
     exact ⟨p, q, L1, _, [], Nat.zero_le _, SRd.nil, hq, hp.mono (by omega) (by omega), hF.sub ⟨rfl, rfl, rfl, rfl, rfl, rfl, rfl, rfl, rfl, trivial⟩, hS⟩
    ·
     refine wK fun Kq32 hKq32 => ?_
     refine wR ?_
     refine wg hF rfl rfl rfl (gv_eqlF rfl (hF.t rfl) (ev_const _ _) (by decide)) fun a hF => ?_
     refine wg hF rfl rfl rfl (gv_assign rfl (hF.t rfl)) fun a hF => ?_
     refine wN ?_
     refine tN (hKq32 _ _ ?_)
     refine wp_cond_false (hF.t rfl) ?_
     ·
      refine wR ?_
      refine wg hF rfl rfl rfl (gv_eqlT rfl (hF.t rfl) (ev_const _ _) (rfl)) fun a hF => ?_
      refine wg hF rfl rfl rfl (gv_assign rfl (hF.t rfl)) fun a hF => ?_
      refine wN ?_
      refine tN (hKq19 _ _ ?_)
      refine wp_cond_true (hF.t rfl) ?_
      refine wK fun Kq33 hKq33 => ?_
      refine wR ?_
      refine wg hF rfl rfl rfl (gv_field (r := 1) rfl u55 rfl rfl z22 (by decide) (hF.t rfl)) fun a hF => ?_
      refine wg hF rfl rfl rfl (gv_load rfl u22 rfl (hF.t rfl) (cell_ix (j := 1) (hS.at hcx rfl) (by omega))) fun a hF => ?_
      refine wg hF rfl rfl rfl (gv_field (r := 2) rfl u55 rfl rfl z9 (by decide) (hF.t rfl)) fun a hF => ?_
      refine wg hF rfl rfl rfl (gv_load rfl u9 rfl (hF.t rfl) (cell_ix (j := 2) (hS.at hcx rfl) (by omega))) fun a hF => ?_
      refine wpList_stp (stp_call hF (wanted_none rfl) rfl rfl Tryd.ok15 rfl (Evs.cons (hF.t rfl) (Evs.cons (hF.t rfl) (Evs.cons (hF.t rfl) Evs.nil))) (law_write hG hS hp.key (SRd.old hdv) g1 g2 (by omega) (by have := hp.n; have := hp.sq; omega)) fun e w g => ?_)
      obtain ⟨v1, L2, rfl, hL2, hr1, hS⟩ := g
      refine ⟨_, rfl, fun a hF => ?_⟩
      replace hcx := hL2 _ hcx
      have hWp : 0 < (pktW p bl dr).length := pktW_pos g2
      have hWl := pktW_le (q := p) (dl := dr) g2
      obtain ⟨W, hW⟩ : ∃ W, W = pktW p bl dr := ⟨_, rfl⟩
      rw [← hW] at hr1 hWp hWl
      refine wg hF rfl rfl rfl (gv_move rfl (hF.t rfl)) fun a hF => ?_
      refine wg hF rfl rfl rfl (gv_extract rfl (hF.t rfl) rfl) fun a hF => ?_
      refine wg hF rfl rfl rfl (gv_extract rfl (hF.t rfl) rfl) fun a hF => ?_
      refine wg hF rfl rfl rfl (gv_assign rfl (hF.t rfl)) fun a hF => ?_
      refine wg hF rfl rfl rfl (gv_assign rfl (hF.t rfl)) fun a hF => ?_
      refine wN ?_
      refine tN (hKq33 _ _ ?_)
      refine wK fun Kq34 hKq34 => ?_
      refine wR ?_
      refine wg hF rfl rfl rfl (gv_move rfl (hF.t rfl)) fun a hF => ?_
      refine wg hF rfl rfl rfl (gv_field (r := 1) rfl u55 rfl rfl z22 (by decide) (hF.t rfl)) fun a hF => ?_
      refine wg hF rfl rfl rfl (gv_load rfl u22 rfl (hF.t rfl) (cell_ix (j := 1) (hS.at hcx rfl) (by omega))) fun a hF => ?_
      refine wg hF rfl rfl rfl (gv_field (r := 2) rfl u55 rfl rfl z9 (by decide) (hF.t rfl)) fun a hF => ?_
      refine wg hF rfl rfl rfl (gv_load rfl u9 rfl (hF.t rfl) (cell_ix (j := 2) (hS.at hcx rfl) (by omega))) fun a hF => ?_
      refine wpList_stp (stp_call hF (wanted_none rfl) rfl rfl Tryd.ok23 rfl (Evs.cons (hF.t rfl) (Evs.cons (hF.t rfl) (Evs.cons (hF.t rfl) Evs.nil))) (law_hwrite hS (SRd.old hdv) g1 g2 (by omega) (by have := hp.sq; omega) (by have := hp.n; have := hp.sq; omega) (by have := hp.at_; omega)) fun e w g => ?_)
      obtain ⟨v2, L3, rfl, hL3, hr2, hS⟩ := g
      refine ⟨_, rfl, fun a hF => ?_⟩
      replace hcx := hL3 _ hcx
      replace hr1 := hr1.mono hL3
      rw [← hW] at hr2
      obtain ⟨A2, c2, rfl, hc21, hc22, _⟩ := (hS.rd hr2).isB
      have hp2 : WB (stepW p bl dr) (113 * lightN cs (i + 1)) (i + 1) := hp.step g2 hle
      refine wg hF rfl rfl rfl (gv_assign rfl (hF.t rfl)) fun a hF => ?_
      refine wN ?_
      refine tN (hKq34 _ _ ?_)
      refine wK fun Kq35 hKq35 => ?_
      refine wK fun Kq36 hKq36 => ?_
      refine Fw.wp_region_draw (by kernel_rfl) fun w hx => ?_
      replace hS := hS.ext hx
      clear hx
      refine run_head0 (n := 32) _ hF (by kernel_rfl) rfl ?_
      refine dg hF rfl rfl rfl rfl (fun w hx => gv_move rfl (hF.t rfl)) fun a hF => ?_
      refine dg hF rfl rfl rfl rfl (fun w hx => gv_convStr (l := W) rfl u22 u5 u9 (hF.t rfl) ((hS.ext hx).rd hr1)) fun a hF => ?_
      refine dg hF rfl rfl rfl rfl (fun w hx => gv_move rfl (hF.t rfl)) fun a hF => ?_
      refine dg hF rfl rfl rfl rfl (fun w hx => gv_convStr (l := W) rfl u22 u5 u9 (hF.t rfl) ((hS.ext hx).rd hr2)) fun a hF => ?_
      refine dg hF rfl rfl rfl rfl (fun w hx => gv_strNeqF rfl (hF.t rfl) (hF.t rfl) rfl) fun a hF => ?_
      refine dg hF rfl rfl rfl rfl (fun w hx => gv_move rfl (hF.t rfl)) fun a hF => ?_
      refine dw_gv hF rfl (wanted_of hF rfl rfl (rfl)) rfl rfl (fun w hx => gv_move rfl (hF.t rfl)) fun a hF => ?_
      refine dw_gv hF rfl (wanted_of hF rfl rfl (rfl)) rfl rfl (fun w hx => gv_eqlT rfl (hF.t rfl) (ev_const _ _) (rfl)) fun a hF => ?_
      refine dw_gv hF rfl (wanted_of hF rfl rfl (rfl)) rfl rfl (fun w hx => gv_move rfl (hF.t rfl)) fun a hF => ?_
      refine dw_gv hF rfl (wanted_of hF rfl rfl (rfl)) rfl rfl (fun w hx => gv_len rfl u22 (hF.t rfl)) fun a hF => ?_
      refine dw_gv hF rfl (wanted_of hF rfl rfl (rfl)) rfl rfl (fun w hx => gv_gtrT rfl (hF.t rfl) (ev_const _ _) (by omega)) fun a hF => ?_
      refine dw_gv hF rfl (wanted_of hF rfl rfl (rfl)) rfl rfl (fun w hx => gv_boolNeq rfl u4 (hF.t rfl) (hF.t rfl)) fun a hF => ?_
      refine dg hF rfl rfl rfl rfl (fun w hx => gv_pickF rfl (hF.t rfl) (hF.t rfl)) fun a hF => ?_
      refine dg hF rfl rfl rfl rfl (fun w hx => gv_move rfl (hF.t rfl)) fun a hF => ?_
      refine dw_gv hF rfl (wanted_of hF rfl rfl (rfl)) rfl rfl (fun w hx => gv_field (r := 0) rfl u37 rfl rfl z35 (by decide) (hF.t rfl)) fun a hF => ?_
      refine dw_call hF rfl (wanted_of hF rfl rfl (rfl)) rfl rfl Tryd.ok24 rfl (Evs.cons (hF.t rfl) Evs.nil) (fun w hx => cnt_q ((hS.ext hx).num.2)) fun a hF => ?_
      refine dw_gv hF rfl (wanted_of hF rfl rfl (rfl)) rfl rfl (fun w hx => gv_move rfl (hF.t rfl)) fun a hF => ?_
      refine dw_gv hF rfl (wanted_of hF rfl rfl (rfl)) rfl rfl (fun w hx => gv_nilCheck rfl (hF.t rfl)) fun a hF => ?_
      refine dw_gv hF rfl (wanted_of hF rfl rfl (rfl)) rfl rfl (fun w hx => gv_field (r := 5) rfl u50 rfl rfl z3 (by decide) (hF.t rfl)) fun a hF => ?_
      refine dw_gv hF rfl (wanted_of hF rfl rfl (rfl)) rfl rfl (fun w hx => gv_load rfl u3 rfl (hF.t rfl) (cell_ix (j := 5) ((hS.ext hx).hl.2) (by omega))) fun a hF => ?_
      refine dw_gv hF rfl (wanted_of hF rfl rfl (rfl)) rfl rfl (fun w hx => gv_neqF rfl (hF.t rfl) (hF.t rfl) (fun h => h rfl)) fun a hF => ?_
      refine dg hF rfl rfl rfl rfl (fun w hx => gv_pickF rfl (hF.t rfl) (hF.t rfl)) fun a hF => ?_
      refine dg hF rfl rfl rfl rfl (fun w hx => gv_move rfl (hF.t rfl)) fun a hF => ?_
      refine dw_gv hF rfl (wanted_of hF rfl rfl (rfl)) rfl rfl (fun w hx => gv_field (r := 0) rfl u37 rfl rfl z35 (by decide) (hF.t rfl)) fun a hF => ?_
      refine dw_call hF rfl (wanted_of hF rfl rfl (rfl)) rfl rfl Tryd.ok21 rfl (Evs.cons (hF.t rfl) Evs.nil) (fun w hx => num_ok ((hS.ext hx).num.1)) fun a hF => ?_
      refine dw_gv hF rfl (wanted_of hF rfl rfl (rfl)) rfl rfl (fun w hx => gv_move rfl (hF.t rfl)) fun a hF => ?_
      refine dw_gv hF rfl (wanted_of hF rfl rfl (rfl)) rfl rfl (fun w hx => gv_nilCheck rfl (hF.t rfl)) fun a hF => ?_
      refine dw_gv hF rfl (wanted_of hF rfl rfl (rfl)) rfl rfl (fun w hx => gv_field (r := 4) rfl u50 rfl rfl z3 (by decide) (hF.t rfl)) fun a hF => ?_
      refine dw_gv hF rfl (wanted_of hF rfl rfl (rfl)) rfl rfl (fun w hx => gv_load rfl u3 rfl (hF.t rfl) (cell_ix (j := 4) ((hS.ext hx).hl.1) (by omega))) fun a hF => ?_
      refine dw_gv hF rfl (wanted_of hF rfl rfl (rfl)) rfl rfl (fun w hx => gv_conv_i_w rfl u3 u32 (hF.t rfl)) fun a hF => ?_
      refine dw_gv hF rfl (wanted_of hF rfl rfl (rfl)) rfl rfl (fun w hx => gv_neqF rfl (hF.t rfl) (hF.t rfl) (fun h => h rfl)) fun a hF => ?_
      refine dg hF rfl rfl rfl rfl (fun w hx => gv_pickF rfl (hF.t rfl) (hF.t rfl)) fun a hF => ?_
      refine dw_nil fun a w hA hx => ?_
      replace hF := hA _ hF
      replace hS := hS.ext hx
      clear hA hx
      refine run_done (by decide) ?_
      refine tN (hKq36 _ _ ?_)
      refine wp_cond_false (hF.t rfl) ?_
      refine wp_skip ?_
      refine tN (hKq35 _ _ ?_)
      refine wK fun Kq37 hKq37 => ?_
      refine wR ?_
      refine wg hF rfl rfl rfl (gv_field (r := 0) rfl u55 rfl rfl z3 (by decide) (hF.t rfl)) fun a hF => ?_
      refine wg hF rfl rfl rfl (gv_load rfl u3 rfl (hF.t rfl) (cell_ix (j := 0) (hS.at hcx rfl) (by omega))) fun a hF => ?_
      refine wg hF rfl rfl rfl (gv_eqlT rfl (hF.t rfl) (ev_const _ _) (rfl)) fun a hF => ?_
      refine wg hF rfl rfl rfl (gv_move rfl (hF.t rfl)) fun a hF => ?_
      refine wpList_stp (stp_gv hF (wanted_of hF rfl rfl (rfl)) rfl rfl (gv_move rfl (hF.t rfl)) fun a hF => ?_)
      refine wpList_stp (stp_gv hF (wanted_of hF rfl rfl (rfl)) rfl rfl (gv_len rfl u22 (hF.t rfl)) fun a hF => ?_)
      refine wpList_stp (stp_gv hF (wanted_of hF rfl rfl (rfl)) rfl rfl (gv_gtrT rfl (hF.t rfl) (ev_const _ _) (by omega)) fun a hF => ?_)
      refine wg hF rfl rfl rfl (gv_pickT rfl (hF.t rfl) (hF.t rfl)) fun a hF => ?_
      refine wN ?_
      refine tN (hKq37 _ _ ?_)
      refine wp_cond_true (hF.t rfl) ?_
      refine wK fun Kq38 hKq38 => ?_
      refine wR ?_
      refine wg hF rfl rfl rfl (gv_field (r := 3) rfl u55 rfl rfl z3 (by decide) (hF.t rfl)) fun a hF => ?_
      refine wg hF rfl rfl rfl (gv_load rfl u3 rfl (hF.t rfl) (cell_ix (j := 3) (hS.at hcx rfl) (by omega))) fun a hF => ?_
      refine wg hF rfl rfl rfl (gv_move rfl (hF.t rfl)) fun a hF => ?_
      refine wg hF rfl rfl rfl (gv_len rfl u22 (hF.t rfl)) fun a hF => ?_
      refine wg hF rfl rfl rfl (gv_nmul (m := 8) rfl rfl (hF.t rfl) (by omega)) fun a hF => ?_
      refine wg hF rfl rfl rfl (gv_rem rfl (hF.t rfl) (hF.t rfl) (by omega)) fun a hF => ?_
      have hbd := tmod_bd nn (M := 8 * W.length) (by omega)
      refine wg hF rfl rfl rfl (gv_move rfl (hF.t rfl)) fun a hF => ?_
      refine wg hF rfl rfl rfl (gv_len rfl u22 (hF.t rfl)) fun a hF => ?_
      refine wg hF rfl rfl rfl (gv_nmul (m := 8) rfl rfl (hF.t rfl) (by omega)) fun a hF => ?_
      refine wg hF rfl rfl rfl (gv_add rfl (hF.t rfl) (hF.t rfl) (by omega) (by omega)) fun a hF => ?_
      refine wg hF rfl rfl rfl (gv_move rfl (hF.t rfl)) fun a hF => ?_
      refine wg hF rfl rfl rfl (gv_len rfl u22 (hF.t rfl)) fun a hF => ?_
      refine wg hF rfl rfl rfl (gv_nmul (m := 8) rfl rfl (hF.t rfl) (by omega)) fun a hF => ?_
      refine wg hF rfl rfl rfl (gv_rem rfl (hF.t rfl) (hF.t rfl) (by omega)) fun a hF => ?_
      obtain ⟨kk, hkk, hke⟩ := tmod_nat nn (M := 8 * W.length) (by omega)
      rw [hke] at hF
      have h8 : kk / 8 < W.length := by omega
      refine wg hF rfl rfl rfl (gv_assign rfl (hF.t rfl)) fun a hF => ?_
      refine wN ?_
      refine tN (hKq38 _ _ ?_)
      refine wK fun Kq39 hKq39 => ?_
      obtain ⟨HH, hS0, hLm, hnH, hmk⟩ := hS.openE
      refine wR ?_
      refine wg hF rfl rfl rfl (gv_move rfl (hF.t rfl)) fun a hF => ?_
      refine wpList_stp (stp_appB (ml := W) (k := 0) (l := []) (pad := []) hF (wanted_none rfl) rfl rfl rfl u22 Tryd.ty5 rfl (ev_const _ _) (hF.t rfl) (hS0.addNil (blk 5 (([] : List UInt8).map vB ++ []))) rfl (fun _ => ⟨rfl, rfl⟩) (by simp) (hS.rd hr2) (by simp; omega) fun x xp a w hF xo xc hS => ?_)
      simp only [List.nil_append] at hF xo xc
      obtain ⟨xb, rfl⟩ := own_some xo hWp
      replace hS : St w0 w (⟨true, some xb, blk 5 (W.map vB ++ xp)⟩ :: HH) := hS
      refine wg hF rfl rfl rfl (gv_assign rfl (hF.t rfl)) fun a hF => ?_
      refine wN ?_
      refine tN (hKq39 _ _ ?_)
      refine Fw.wp_region_draw (by kernel_rfl) fun w hx => ?_
      replace hS := hS.ext hx
      clear hx
      refine run_head0 (n := 10) _ hF (by kernel_rfl) rfl ?_
      refine dg hF rfl rfl rfl rfl (fun w hx => gv_move rfl (hF.t rfl)) fun a hF => ?_
      refine dg hF rfl rfl rfl rfl (fun w hx => gv_move rfl (hF.t rfl)) fun a hF => ?_
      refine dg hF rfl rfl rfl rfl (fun w hx => gv_nquo (n := 8) rfl (hF.t rfl) rfl (by omega) (by omega)) fun a hF => ?_
      refine dg hF rfl rfl rfl rfl (fun w hx => gv_indexSl rfl u22 z5 (hF.t rfl) (hF.t rfl) (by omega)) fun a hF => ?_
      refine dg hF rfl rfl rfl rfl (fun w hx => gv_load rfl u5 rfl (hF.t rfl) (cell_ix (j := kk / 8) ((hS.ext hx).cell (k := 0) rfl (by rw [List.getElem?_append_left (by simpa using h8)]; exact map_at h8 0)) (by omega))) fun a hF => ?_
      refine dg hF rfl rfl rfl rfl (fun w hx => gv_move rfl (hF.t rfl)) fun a hF => ?_
      refine dg hF rfl rfl rfl rfl (fun w hx => gv_nrem (n := 8) rfl (hF.t rfl) rfl (by omega)) fun a hF => ?_
      refine dg hF rfl rfl rfl rfl (fun w hx => gv_b_shl (m := 1) rfl rfl (hF.t rfl) (by omega)) fun a hF => ?_
      refine dg hF rfl rfl rfl rfl (fun w hx => gv_b_xor rfl (hF.t rfl) (hF.t rfl)) fun a hF => ?_
      refine dg hF rfl rfl rfl rfl (fun w hx => gv_indexSl rfl u22 z5 (hF.t rfl) (hF.t rfl) (by omega)) fun a hF => ?_
      refine dw_nil fun a w hA hx => ?_
      replace hF := hA _ hF
      replace hS := hS.ext hx
      clear hA hx
      refine run_stp (by kernel_rfl) rfl (stp_storeAt (kk / 8) hF (wanted_none rfl) rfl rfl z5 (hF.t rfl) (by omega) (hF.t rfl) rfl hS (k := 0) rfl (by simp; omega) fun w hS => ?_)
      refine run_done (by decide) ?_
      replace hS : St w0 w (⟨true, some xb, blk 5 ((flipL W kk).map vB ++ xp)⟩ :: HH) := by rw [← flip_row h8]; exact hS
      obtain ⟨L4, hx4, hS⟩ : ∃ L4, (⟨true, some xb, blk 5 ((flipL W kk).map vB ++ xp)⟩ : Ent) ∈ L4 ∧ LawS w0 w xa xr m1 m2 (stepW p bl dr) (stepW p bl dr) q q L4 := ⟨_, List.mem_cons_self, hmk [_] _ (nw_cons rfl nw_nil) hS⟩
      rw [← flip_len W kk] at hF xc hWl
      refine block_normal ?_
      refine then_normal ?_
      exact ⟨(stepW p bl dr), q, L4, _, (flipL W kk), hWl, (own_rd (ob := some xb) hx4 (fun h => by cases h) rfl xc), hq, hp2, hF.sub ⟨rfl, rfl, rfl, rfl, rfl, rfl, rfl, rfl, rfl, trivial⟩, hS⟩
    ·
     refine wK fun Kq40 hKq40 => ?_
     refine wR ?_
     refine wg hF rfl rfl rfl (gv_eqlF rfl (hF.t rfl) (ev_const _ _) (by decide)) fun a hF => ?_
     refine wg hF rfl rfl rfl (gv_assign rfl (hF.t rfl)) fun a hF => ?_
     refine wN ?_
     refine tN (hKq40 _ _ ?_)
     refine wp_cond_false (hF.t rfl) ?_
     ·
      refine wR ?_
      refine wg hF rfl rfl rfl (gv_eqlT rfl (hF.t rfl) (ev_const _ _) (rfl)) fun a hF => ?_
      refine wg hF rfl rfl rfl (gv_assign rfl (hF.t rfl)) fun a hF => ?_
      refine wN ?_
      refine tN (hKq19 _ _ ?_)
      refine wp_cond_true (hF.t rfl) ?_
      refine wK fun Kq41 hKq41 => ?_
      refine wR ?_
      refine wg hF rfl rfl rfl (gv_field (r := 1) rfl u55 rfl rfl z22 (by decide) (hF.t rfl)) fun a hF => ?_
      refine wg hF rfl rfl rfl (gv_load rfl u22 rfl (hF.t rfl) (cell_ix (j := 1) (hS.at hcx rfl) (by omega))) fun a hF => ?_
      refine wg hF rfl rfl rfl (gv_field (r := 2) rfl u55 rfl rfl z9 (by decide) (hF.t rfl)) fun a hF => ?_
      refine wg hF rfl rfl rfl (gv_load rfl u9 rfl (hF.t rfl) (cell_ix (j := 2) (hS.at hcx rfl) (by omega))) fun a hF => ?_
      refine wpList_stp (stp_call hF (wanted_none rfl) rfl rfl Tryd.ok15 rfl (Evs.cons (hF.t rfl) (Evs.cons (hF.t rfl) (Evs.cons (hF.t rfl) Evs.nil))) (law_write_no hS (SRd.old hdv) gb) fun e w g => ?_)
      obtain ⟨rfl, hS⟩ := g
      refine ⟨_, rfl, fun a hF => ?_⟩
      refine wg hF rfl rfl rfl (gv_move rfl (hF.t rfl)) fun a hF => ?_
      refine wg hF rfl rfl rfl (gv_extract rfl (hF.t rfl) rfl) fun a hF => ?_
      refine wg hF rfl rfl rfl (gv_extract rfl (hF.t rfl) rfl) fun a hF => ?_
      refine wg hF rfl rfl rfl (gv_assign rfl (hF.t rfl)) fun a hF => ?_
      refine wg hF rfl rfl rfl (gv_assign rfl (hF.t rfl)) fun a hF => ?_
      refine wN ?_
      refine tN (hKq41 _ _ ?_)
      refine wK fun Kq42 hKq42 => ?_
      refine wR ?_
      refine wg hF rfl rfl rfl (gv_move rfl (hF.t rfl)) fun a hF => ?_
      refine wg hF rfl rfl rfl (gv_field (r := 1) rfl u55 rfl rfl z22 (by decide) (hF.t rfl)) fun a hF => ?_
      refine wg hF rfl rfl rfl (gv_load rfl u22 rfl (hF.t rfl) (cell_ix (j := 1) (hS.at hcx rfl) (by omega))) fun a hF => ?_
      refine wg hF rfl rfl rfl (gv_field (r := 2) rfl u55 rfl rfl z9 (by decide) (hF.t rfl)) fun a hF => ?_
      refine wg hF rfl rfl rfl (gv_load rfl u9 rfl (hF.t rfl) (cell_ix (j := 2) (hS.at hcx rfl) (by omega))) fun a hF => ?_
      refine wpList_stp (stp_call hF (wanted_none rfl) rfl rfl Tryd.ok23 rfl (Evs.cons (hF.t rfl) (Evs.cons (hF.t rfl) (Evs.cons (hF.t rfl) Evs.nil))) (law_hwrite_no hS (SRd.old hdv) gb) fun e w g => ?_)
      obtain ⟨rfl, hS⟩ := g
      refine ⟨_, rfl, fun a hF => ?_⟩
      refine wg hF rfl rfl rfl (gv_assign rfl (hF.t rfl)) fun a hF => ?_
      refine wN ?_
      refine tN (hKq42 _ _ ?_)
      refine wK fun Kq43 hKq43 => ?_
      refine wK fun Kq44 hKq44 => ?_
      refine Fw.wp_region_draw (by kernel_rfl) fun w hx => ?_
      replace hS := hS.ext hx
      clear hx
      refine run_head0 (n := 32) _ hF (by kernel_rfl) rfl ?_
      refine dg hF rfl rfl rfl rfl (fun w hx => gv_move rfl (hF.t rfl)) fun a hF => ?_
      refine dg hF rfl rfl rfl rfl (fun w hx => gv_convStr (l := []) rfl u22 u5 u9 (hF.t rfl) (Rd.nil _)) fun a hF => ?_
      refine dg hF rfl rfl rfl rfl (fun w hx => gv_move rfl (hF.t rfl)) fun a hF => ?_
      refine dg hF rfl rfl rfl rfl (fun w hx => gv_convStr (l := []) rfl u22 u5 u9 (hF.t rfl) (Rd.nil _)) fun a hF => ?_
      refine dg hF rfl rfl rfl rfl (fun w hx => gv_strNeqF rfl (hF.t rfl) (hF.t rfl) rfl) fun a hF => ?_
      refine dg hF rfl rfl rfl rfl (fun w hx => gv_move rfl (hF.t rfl)) fun a hF => ?_
      refine dw_gv hF rfl (wanted_of hF rfl rfl (rfl)) rfl rfl (fun w hx => gv_move rfl (hF.t rfl)) fun a hF => ?_
      refine dw_gv hF rfl (wanted_of hF rfl rfl (rfl)) rfl rfl (fun w hx => gv_eqlF rfl (hF.t rfl) (ev_const _ _) (by decide)) fun a hF => ?_
      refine dw_gv hF rfl (wanted_of hF rfl rfl (rfl)) rfl rfl (fun w hx => gv_move rfl (hF.t rfl)) fun a hF => ?_
      refine dw_gv hF rfl (wanted_of hF rfl rfl (rfl)) rfl rfl (fun w hx => gv_len rfl u22 (hF.t rfl)) fun a hF => ?_
      refine dw_gv hF rfl (wanted_of hF rfl rfl (rfl)) rfl rfl (fun w hx => gv_gtrF rfl (hF.t rfl) (ev_const _ _) (by decide)) fun a hF => ?_
      refine dw_gv hF rfl (wanted_of hF rfl rfl (rfl)) rfl rfl (fun w hx => gv_boolNeq rfl u4 (hF.t rfl) (hF.t rfl)) fun a hF => ?_
      refine dg hF rfl rfl rfl rfl (fun w hx => gv_pickF rfl (hF.t rfl) (hF.t rfl)) fun a hF => ?_
      refine dg hF rfl rfl rfl rfl (fun w hx => gv_move rfl (hF.t rfl)) fun a hF => ?_
      refine dw_gv hF rfl (wanted_of hF rfl rfl (rfl)) rfl rfl (fun w hx => gv_field (r := 0) rfl u37 rfl rfl z35 (by decide) (hF.t rfl)) fun a hF => ?_
      refine dw_call hF rfl (wanted_of hF rfl rfl (rfl)) rfl rfl Tryd.ok24 rfl (Evs.cons (hF.t rfl) Evs.nil) (fun w hx => cnt_q ((hS.ext hx).num.2)) fun a hF => ?_
      refine dw_gv hF rfl (wanted_of hF rfl rfl (rfl)) rfl rfl (fun w hx => gv_move rfl (hF.t rfl)) fun a hF => ?_
      refine dw_gv hF rfl (wanted_of hF rfl rfl (rfl)) rfl rfl (fun w hx => gv_nilCheck rfl (hF.t rfl)) fun a hF => ?_
      refine dw_gv hF rfl (wanted_of hF rfl rfl (rfl)) rfl rfl (fun w hx => gv_field (r := 5) rfl u50 rfl rfl z3 (by decide) (hF.t rfl)) fun a hF => ?_
      refine dw_gv hF rfl (wanted_of hF rfl rfl (rfl)) rfl rfl (fun w hx => gv_load rfl u3 rfl (hF.t rfl) (cell_ix (j := 5) ((hS.ext hx).hl.2) (by omega))) fun a hF => ?_
      refine dw_gv hF rfl (wanted_of hF rfl rfl (rfl)) rfl rfl (fun w hx => gv_neqF rfl (hF.t rfl) (hF.t rfl) (fun h => h rfl)) fun a hF => ?_
      refine dg hF rfl rfl rfl rfl (fun w hx => gv_pickF rfl (hF.t rfl) (hF.t rfl)) fun a hF => ?_
      refine dg hF rfl rfl rfl rfl (fun w hx => gv_move rfl (hF.t rfl)) fun a hF => ?_
      refine dw_gv hF rfl (wanted_of hF rfl rfl (rfl)) rfl rfl (fun w hx => gv_field (r := 0) rfl u37 rfl rfl z35 (by decide) (hF.t rfl)) fun a hF => ?_
      refine dw_call hF rfl (wanted_of hF rfl rfl (rfl)) rfl rfl Tryd.ok21 rfl (Evs.cons (hF.t rfl) Evs.nil) (fun w hx => num_ok ((hS.ext hx).num.1)) fun a hF => ?_
      refine dw_gv hF rfl (wanted_of hF rfl rfl (rfl)) rfl rfl (fun w hx => gv_move rfl (hF.t rfl)) fun a hF => ?_
      refine dw_gv hF rfl (wanted_of hF rfl rfl (rfl)) rfl rfl (fun w hx => gv_nilCheck rfl (hF.t rfl)) fun a hF => ?_
      refine dw_gv hF rfl (wanted_of hF rfl rfl (rfl)) rfl rfl (fun w hx => gv_field (r := 4) rfl u50 rfl rfl z3 (by decide) (hF.t rfl)) fun a hF => ?_
      refine dw_gv hF rfl (wanted_of hF rfl rfl (rfl)) rfl rfl (fun w hx => gv_load rfl u3 rfl (hF.t rfl) (cell_ix (j := 4) ((hS.ext hx).hl.1) (by omega))) fun a hF => ?_
      refine dw_gv hF rfl (wanted_of hF rfl rfl (rfl)) rfl rfl (fun w hx => gv_conv_i_w rfl u3 u32 (hF.t rfl)) fun a hF => ?_
      refine dw_gv hF rfl (wanted_of hF rfl rfl (rfl)) rfl rfl (fun w hx => gv_neqF rfl (hF.t rfl) (hF.t rfl) (fun h => h rfl)) fun a hF => ?_
      refine dg hF rfl rfl rfl rfl (fun w hx => gv_pickF rfl (hF.t rfl) (hF.t rfl)) fun a hF => ?_
      refine dw_nil fun a w hA hx => ?_
      replace hF := hA _ hF
      replace hS := hS.ext hx
      clear hA hx
      refine run_done (by decide) ?_
      refine tN (hKq44 _ _ ?_)
      refine wp_cond_false (hF.t rfl) ?_
      refine wp_skip ?_
      refine tN (hKq43 _ _ ?_)
      refine wK fun Kq45 hKq45 => ?_
      refine wR ?_
      refine wg hF rfl rfl rfl (gv_field (r := 0) rfl u55 rfl rfl z3 (by decide) (hF.t rfl)) fun a hF => ?_
      refine wg hF rfl rfl rfl (gv_load rfl u3 rfl (hF.t rfl) (cell_ix (j := 0) (hS.at hcx rfl) (by omega))) fun a hF => ?_
      refine wg hF rfl rfl rfl (gv_eqlT rfl (hF.t rfl) (ev_const _ _) (rfl)) fun a hF => ?_
      refine wg hF rfl rfl rfl (gv_move rfl (hF.t rfl)) fun a hF => ?_
      refine wpList_stp (stp_gv hF (wanted_of hF rfl rfl (rfl)) rfl rfl (gv_move rfl (hF.t rfl)) fun a hF => ?_)
      refine wpList_stp (stp_gv hF (wanted_of hF rfl rfl (rfl)) rfl rfl (gv_len rfl u22 (hF.t rfl)) fun a hF => ?_)
      refine wpList_stp (stp_gv hF (wanted_of hF rfl rfl (rfl)) rfl rfl (gv_gtrF rfl (hF.t rfl) (ev_const _ _) (by decide)) fun a hF => ?_)
      refine wg hF rfl rfl rfl (gv_pickT rfl (hF.t rfl) (hF.t rfl)) fun a hF => ?_
      refine wN ?_
      refine tN (hKq45 _ _ ?_)
      refine wp_cond_false (hF.t rfl) ?_
      refine wp_skip ?_
      refine block_normal ?_
      refine then_normal ?_
      exact ⟨p, q, L1, _, [], Nat.zero_le _, SRd.nil, hq, hp.mono (by omega) (by omega), hF.sub ⟨rfl, rfl, rfl, rfl, rfl, rfl, rfl, rfl, rfl, trivial⟩, hS⟩
    ·
     refine wK fun Kq46 hKq46 => ?_
     refine wR ?_
     refine wg hF rfl rfl rfl (gv_eqlF rfl (hF.t rfl) (ev_const _ _) (by decide)) fun a hF => ?_
     refine wg hF rfl rfl rfl (gv_assign rfl (hF.t rfl)) fun a hF => ?_
     refine wN ?_
     refine tN (hKq46 _ _ ?_)
     refine wp_cond_false (hF.t rfl) ?_
     refine wR ?_
     refine wg hF rfl rfl rfl (gv_eqlF rfl (hF.t rfl) (ev_const _ _) (by decide)) fun a hF => ?_
     refine wg hF rfl rfl rfl (gv_assign rfl (hF.t rfl)) fun a hF => ?_
     refine wN ?_
     refine tN (hKq19 _ _ ?_)
     refine wp_cond_false (hF.t rfl) ?_
     refine wK fun Kq47 hKq47 => ?_
     refine wR ?_
     refine wg hF rfl rfl rfl (gv_eqlT rfl (hF.t rfl) (ev_const _ _) (rfl)) fun a hF => ?_
     refine wg hF rfl rfl rfl (gv_assign rfl (hF.t rfl)) fun a hF => ?_
     refine wN ?_
     refine tN (hKq47 _ _ ?_)
     refine wp_cond_true (hF.t rfl) ?_
     refine wK fun Kq48 hKq48 => ?_
     by_cases hlq : leftQ q = true
     ·
      refine wK fun Kq49 hKq49 => ?_
      refine wR ?_
      refine wpList_stp (stp_call hF (wanted_none rfl) rfl rfl Tryd.ok18 rfl (Evs.cons (hF.t rfl) Evs.nil) (law_left hS) fun e w g => ?_)
      obtain ⟨rfl, hS⟩ := g
      refine ⟨_, rfl, fun a hF => ?_⟩
      rw [hlq] at hF
      refine wN ?_
      refine tN (hKq49 _ _ ?_)
      refine wp_cond_true (hF.t rfl) ?_
      refine wp_exit ?_
      refine then_exit ?_
      refine block_exit_ne (by decide) ?_
      refine then_exit ?_
      refine block_exit ?_
      refine tN (hKq15 _ _ ?_)
      refine wR ?_
      refine wg hF rfl rfl rfl (gv_nadd (n := 1) rfl (hF.t rfl) rfl (by omega)) fun a hF => ?_
      refine wg hF rfl rfl rfl (gv_move rfl (hF.t rfl)) fun a hF => ?_
      refine wN ?_
      refine then_normal ?_
      exact ⟨mm - 1, by omega, i + 1, p, q, L1, by omega, by omega, hq.mono (by omega), hp.mono (by omega) (by omega), hF.sub ⟨rfl, rfl, rfl, rfl, rfl, rfl, rfl, rfl, trivial⟩, hS⟩
     ·
      have hlq' : leftQ q = false := by simpa using hlq
      refine wK fun Kq50 hKq50 => ?_
      refine wR ?_
      refine wpList_stp (stp_call hF (wanted_none rfl) rfl rfl Tryd.ok18 rfl (Evs.cons (hF.t rfl) Evs.nil) (law_left hS) fun e w g => ?_)
      obtain ⟨rfl, hS⟩ := g
      refine ⟨_, rfl, fun a hF => ?_⟩
      rw [hlq'] at hF
      refine wN ?_
      refine tN (hKq50 _ _ ?_)
      refine wp_cond_false (hF.t rfl) ?_
      refine wp_skip ?_
      refine tN (hKq48 _ _ ?_)
      refine wK fun Kq51 hKq51 => ?_
      obtain ⟨HH, hS0, hLm, hnH, hmk⟩ := hS.openE
      replace hS := hS0
      clear hS0
      refine wR ?_
      refine wg hF rfl rfl rfl (gv_field (r := 3) rfl u55 rfl rfl z3 (by decide) (hF.t rfl)) fun a hF => ?_
      refine wg hF rfl rfl rfl (gv_load rfl u3 rfl (hF.t rfl) (cell_ix (j := 3) (St.atM hS (hLm _ hcx) rfl) (by omega))) fun a hF => ?_
      refine wg hF rfl rfl rfl (gv_conv_z_b rfl u3 u5 (hF.t rfl)) fun a hF => ?_
      refine wpList_stp (stp_call hF (wanted_none rfl) rfl rfl Tryd.ok20 rfl (Evs.cons (hF.t rfl) Evs.nil) (keys_ok (c := zb nn)) fun e w h => ?_)
      obtain ⟨kb, rfl, hN⟩ := h
      refine ⟨_, rfl, fun a hF => ?_⟩
      replace hS := hS.join hN (nw_cons rfl nw_nil)
      simp only [List.cons_append, List.nil_append] at hS
      clear hN
      refine wpList_stp (stp_alloc hF (wanted_none rfl) rfl rfl rfl Tryd.zv40 rfl hS fun kx a w hF hS => ?_)
      refine wpList_stp (stp_storeAll hF (wanted_none rfl) rfl rfl (z40.trans (congrArg some (by rfl))) (hF.t rfl) (hF.t rfl) (fun u hu => by simp [keyV] at hu; rcases hu with rfl | rfl | rfl <;> rfl) hS (k := 0) rfl (by rfl) fun w hS => ?_)
      refine wN ?_
      refine tN (hKq51 _ _ ?_)
      refine wK fun Kq52 hKq52 => ?_
      by_cases h7 : nn.tmod 7 = 6
      ·
       refine wK fun Kq53 hKq53 => ?_
       refine wR ?_
       refine wg hF rfl rfl rfl (gv_field (r := 3) rfl u55 rfl rfl z3 (by decide) (hF.t rfl)) fun a hF => ?_
       refine wg hF rfl rfl rfl (gv_load rfl u3 rfl (hF.t rfl) (cell_ix (j := 3) (St.atM hS (List.mem_cons_of_mem _ (List.mem_cons_of_mem _ (hLm _ hcx))) rfl) (by omega))) fun a hF => ?_
       refine wg hF rfl rfl rfl (gv_rem rfl (hF.t rfl) (ev_const _ _) (by decide)) fun a hF => ?_
       refine wg hF rfl rfl rfl (gv_eqlT rfl (hF.t rfl) (ev_const _ _) (h7)) fun a hF => ?_
       refine wN ?_
       refine tN (hKq53 _ _ ?_)
       refine wp_cond_true (hF.t rfl) ?_
       refine wR ?_
       refine wg hF rfl rfl rfl (gv_field (r := 2) rfl u40 rfl rfl z22 (by decide) (hF.t rfl)) fun a hF => ?_
       refine wg hF rfl rfl rfl (gv_load rfl u22 rfl (hF.t rfl) (cell_ix (j := 2) (hS.cell (k := 0) rfl (rfl)) (by omega))) fun a hF => ?_
       refine wg hF rfl rfl rfl (gv_sliceLo (lo := 1) rfl u22 z5 (hF.t rfl) rfl (by omega)) fun a hF => ?_
       refine wg hF rfl rfl rfl (gv_field (r := 2) rfl u40 rfl rfl z22 (by decide) (hF.t rfl)) fun a hF => ?_
       refine wpList_stp (stp_storeAt (2) hF (wanted_none rfl) rfl rfl z22 (hF.t rfl) (by omega) (hF.t rfl) rfl hS (k := 0) rfl (Nat.le_of_ble_eq_true rfl) fun w hS => ?_)
       refine wN ?_
       refine tN (hKq52 _ _ ?_)
       refine wK fun Kq54 hKq54 => ?_
       replace hS : St w0 w (⟨true, some kx, blk 40 [.slice (some ⟨kb, 0, none⟩) 16 64, cut3V (some ⟨kb, 0, none⟩) 16 32 64, (cutV (if (64 : Nat) = 32 then some (⟨kb, 0, none⟩ : Addr) else (some (⟨kb, 0, none⟩ : Addr)).map (·.add 32)) 32 32 1)]⟩ :: ⟨true, some kb, blkB 5 (kbs (zb nn) 64)⟩ :: HH) := hS
       obtain ⟨L2, hkx, hkb, hcx2, hS⟩ : ∃ L2, (⟨true, some kx, blk 40 [.slice (some ⟨kb, 0, none⟩) 16 64, cut3V (some ⟨kb, 0, none⟩) 16 32 64, (cutV (if (64 : Nat) = 32 then some (⟨kb, 0, none⟩ : Addr) else (some (⟨kb, 0, none⟩ : Addr)).map (·.add 32)) 32 32 1)]⟩ : Ent) ∈ L2 ∧ (⟨true, some kb, blkB 5 (kbs (zb nn) 64)⟩ : Ent) ∈ L2 ∧ (⟨true, some cx, blk 55 [.int .i64 1, .slice Ad bl.length cd, sV dr, .int .i64 nn]⟩ : Ent) ∈ L2 ∧ LawS w0 w xa xr m1 m2 p p q q L2 := ⟨_, List.mem_cons_self, List.mem_cons_of_mem _ List.mem_cons_self, List.mem_cons_of_mem _ (List.mem_cons_of_mem _ hcx), hmk [_, _] _ (nw_cons rfl (nw_cons rfl nw_nil)) hS⟩
       obtain ⟨a1, a2, a3⟩ := key_srd (w0 := w0) hkb
       replace a3 := a3_cut L2 a3
       refine Fw.wp_region_draw (by kernel_rfl) fun w hx => ?_
       replace hS := hS.ext hx
       clear hx
       refine run_swalkI ⟨fun w => ∀ (j : Nat) (u : Value), ([.slice (some ⟨kb, 0, none⟩) 16 64, cut3V (some ⟨kb, 0, none⟩) 16 32 64, (cutV (if (64 : Nat) = 32 then some (⟨kb, 0, none⟩ : Addr) else (some (⟨kb, 0, none⟩ : Addr)).map (·.add 32)) 32 32 1)])[j]? = some u → w.cell? ⟨kx, j, none⟩ = some u, w, (fun j u hu => hS.at hkx hu)⟩ _ 0 13 [2, 10] [[2]] _ ((fun j u hu => hS.at hkx hu)) (by kernel_rfl) (by kernel_rfl) rfl hF.size ?_
       refine sg hF rfl rfl rfl rfl (fun w hx => gv_field (r := 0) rfl u37 rfl rfl z35 (by decide) (hF.t rfl)) fun a hF => ?_
       refine sg hF rfl rfl rfl rfl (fun w hx => gv_loadAgg (vs := [.slice (some ⟨kb, 0, none⟩) 16 64, cut3V (some ⟨kb, 0, none⟩) 16 32 64, (cutV (if (64 : Nat) = 32 then some (⟨kb, 0, none⟩ : Addr) else (some (⟨kb, 0, none⟩ : Addr)).map (·.add 32)) 32 32 1)]) rfl u40 rfl (z40.trans (congrArg some (by rfl))) (hF.t rfl) (fun j u hu => by rw [Nat.zero_add]; exact hx j u hu)) fun a hF => ?_
       refine sw_eff rfl (stp_call hF (wanted_none rfl) rfl rfl Tryd.ok19 rfl (Evs.cons (hF.t rfl) (Evs.cons (hF.t rfl) Evs.nil)) (law_bad_w hS a1 a2 a3 (kKey_len _) (kIv_len _) (mac_short _)) fun e w g => ?_)
       obtain ⟨rfl, hS⟩ := g
       refine ⟨_, rfl, fun a hF => ?_⟩
       refine ⟨(fun j u hu => hS.at hkx hu), ?_⟩
       refine sg hF rfl rfl rfl rfl (fun w hx => gv_move rfl (hF.t rfl)) fun a hF => ?_
       refine sg hF rfl rfl rfl rfl (fun w hx => gv_field (r := 0) rfl u40 rfl rfl z22 (by decide) (hF.t rfl)) fun a hF => ?_
       refine sg hF rfl rfl rfl rfl (fun w hx => gv_load rfl u22 rfl (hF.t rfl) (cell_ix (j := 0) (hx 0 _ rfl) (by omega))) fun a hF => ?_
       refine sg hF rfl rfl rfl rfl (fun w hx => gv_field (r := 1) rfl u40 rfl rfl z22 (by decide) (hF.t rfl)) fun a hF => ?_
       refine sg hF rfl rfl rfl rfl (fun w hx => gv_load rfl u22 rfl (hF.t rfl) (cell_ix (j := 1) (hx 1 _ rfl) (by omega))) fun a hF => ?_
       refine sg hF rfl rfl rfl rfl (fun w hx => gv_field (r := 2) rfl u40 rfl rfl z22 (by decide) (hF.t rfl)) fun a hF => ?_
       refine sg hF rfl rfl rfl rfl (fun w hx => gv_load rfl u22 rfl (hF.t rfl) (cell_ix (j := 2) (hx 2 _ rfl) (by omega))) fun a hF => ?_
       refine sw_eff rfl (stp_call hF (wanted_none rfl) rfl rfl Tryd.ok25 rfl (Evs.cons (hF.t rfl) (Evs.cons (hF.t rfl) (Evs.cons (hF.t rfl) (Evs.cons (hF.t rfl) Evs.nil)))) (law_bad_h hS (by decide)) fun e w g => ?_)
       obtain ⟨rfl, hS⟩ := g
       refine ⟨_, rfl, fun a hF => ?_⟩
       refine ⟨(fun j u hu => hS.at hkx hu), ?_⟩
       refine sg hF rfl rfl rfl rfl (fun w hx => gv_assign rfl (hF.t rfl)) fun a hF => ?_
       refine sg hF rfl rfl rfl rfl (fun w hx => gv_assign rfl (hF.t rfl)) fun a hF => ?_
       refine sw_nil ?_
       refine run_done (by decide) ?_
       refine tN (hKq54 _ _ ?_)
       refine wK fun Kq55 hKq55 => ?_
       refine wK fun Kq56 hKq56 => ?_
       refine Fw.wp_region_draw (by kernel_rfl) fun w hx => ?_
       replace hS := hS.ext hx
       clear hx
       refine run_swalkI ⟨fun w => ∀ (j : Nat) (u : Value), ([.slice (some ⟨kb, 0, none⟩) 16 64, cut3V (some ⟨kb, 0, none⟩) 16 32 64, (cutV (if (64 : Nat) = 32 then some (⟨kb, 0, none⟩ : Addr) else (some (⟨kb, 0, none⟩ : Addr)).map (·.add 32)) 32 32 1)])[j]? = some u → w.cell? ⟨kx, j, none⟩ = some u, w, (fun j u hu => hS.at hkx hu)⟩ _ 0 24 [6, 20] [[10, 6]] _ ((fun j u hu => hS.at hkx hu)) (by kernel_rfl) (by kernel_rfl) rfl hF.size ?_
       refine sg hF rfl rfl rfl rfl (fun w hx => gv_move rfl (hF.t rfl)) fun a hF => ?_
       refine sg hF rfl rfl rfl rfl (fun w hx => gv_move rfl (hF.t rfl)) fun a hF => ?_
       refine sg hF rfl rfl rfl rfl (fun w hx => gv_neqF rfl (hF.t rfl) (hF.t rfl) (fun h => h rfl)) fun a hF => ?_
       refine sg hF rfl rfl rfl rfl (fun w hx => gv_move rfl (hF.t rfl)) fun a hF => ?_
       refine sw_gv hF rfl (wanted_of hF rfl rfl (rfl)) rfl rfl (fun w hx => gv_field (r := 0) rfl u47 rfl rfl z35 (by decide) (hF.t rfl)) fun a hF => ?_
       refine sw_gv hF rfl (wanted_of hF rfl rfl (rfl)) rfl rfl (fun w hx => gv_loadAgg (vs := [.slice (some ⟨kb, 0, none⟩) 16 64, cut3V (some ⟨kb, 0, none⟩) 16 32 64, (cutV (if (64 : Nat) = 32 then some (⟨kb, 0, none⟩ : Addr) else (some (⟨kb, 0, none⟩ : Addr)).map (·.add 32)) 32 32 1)]) rfl u40 rfl (z40.trans (congrArg some (by rfl))) (hF.t rfl) (fun j u hu => by rw [Nat.zero_add]; exact hx j u hu)) fun a hF => ?_
       refine sw_eff rfl (stp_call hF (wanted_of hF rfl rfl (rfl)) rfl rfl Tryd.ok19 rfl (Evs.cons (hF.t rfl) (Evs.cons (hF.t rfl) Evs.nil)) (law_bad_r hS a1 a2 a3 (kKey_len _) (kIv_len _) (mac_short _)) fun e w g => ?_)
       obtain ⟨rfl, hS⟩ := g
       refine ⟨_, rfl, fun a hF => ?_⟩
       refine ⟨(fun j u hu => hS.at hkx hu), ?_⟩
       refine sw_gv hF rfl (wanted_of hF rfl rfl (rfl)) rfl rfl (fun w hx => gv_move rfl (hF.t rfl)) fun a hF => ?_
       refine sw_gv hF rfl (wanted_of hF rfl rfl (rfl)) rfl rfl (fun w hx => gv_neqF rfl (hF.t rfl) (hF.t rfl) (fun h => h rfl)) fun a hF => ?_
       refine sg hF rfl rfl rfl rfl (fun w hx => gv_pickF rfl (hF.t rfl) (hF.t rfl)) fun a hF => ?_
       refine sg hF rfl rfl rfl rfl (fun w hx => gv_move rfl (hF.t rfl)) fun a hF => ?_
       refine sw_gv hF rfl (wanted_of hF rfl rfl (rfl)) rfl rfl (fun w hx => gv_move rfl (hF.t rfl)) fun a hF => ?_
       refine sw_gv hF rfl (wanted_of hF rfl rfl (rfl)) rfl rfl (fun w hx => gv_nilCheck rfl (hF.t rfl)) fun a hF => ?_
       refine sw_gv hF rfl (wanted_of hF rfl rfl (rfl)) rfl rfl (fun w hx => gv_field (r := 0) rfl u53 rfl rfl z50 (by decide) (hF.t rfl)) fun a hF => ?_
       refine sw_gv hF rfl (wanted_of hF rfl rfl (rfl)) rfl rfl (fun w hx => gv_field (r := 0) rfl u40 rfl rfl z22 (by decide) (hF.t rfl)) fun a hF => ?_
       refine sw_gv hF rfl (wanted_of hF rfl rfl (rfl)) rfl rfl (fun w hx => gv_load rfl u22 rfl (hF.t rfl) (cell_ix (j := 0) (hx 0 _ rfl) (by omega))) fun a hF => ?_
       refine sw_gv hF rfl (wanted_of hF rfl rfl (rfl)) rfl rfl (fun w hx => gv_field (r := 1) rfl u40 rfl rfl z22 (by decide) (hF.t rfl)) fun a hF => ?_
       refine sw_gv hF rfl (wanted_of hF rfl rfl (rfl)) rfl rfl (fun w hx => gv_load rfl u22 rfl (hF.t rfl) (cell_ix (j := 1) (hx 1 _ rfl) (by omega))) fun a hF => ?_
       refine sw_gv hF rfl (wanted_of hF rfl rfl (rfl)) rfl rfl (fun w hx => gv_field (r := 2) rfl u40 rfl rfl z22 (by decide) (hF.t rfl)) fun a hF => ?_
       refine sw_gv hF rfl (wanted_of hF rfl rfl (rfl)) rfl rfl (fun w hx => gv_load rfl u22 rfl (hF.t rfl) (cell_ix (j := 2) (hx 2 _ rfl) (by omega))) fun a hF => ?_
       refine sw_eff rfl (stp_call hF (wanted_of hF rfl rfl (rfl)) rfl rfl Tryd.ok25 rfl (Evs.cons (hF.t rfl) (Evs.cons (hF.t rfl) (Evs.cons (hF.t rfl) (Evs.cons (hF.t rfl) Evs.nil)))) (law_bad_rr hS (by decide)) fun e w g => ?_)
       obtain ⟨rfl, hS⟩ := g
       refine ⟨_, rfl, fun a hF => ?_⟩
       refine ⟨(fun j u hu => hS.at hkx hu), ?_⟩
       refine sw_gv hF rfl (wanted_of hF rfl rfl (rfl)) rfl rfl (fun w hx => gv_move rfl (hF.t rfl)) fun a hF => ?_
       refine sw_gv hF rfl (wanted_of hF rfl rfl (rfl)) rfl rfl (fun w hx => gv_neqF rfl (hF.t rfl) (hF.t rfl) (fun h => h rfl)) fun a hF => ?_
       refine sg hF rfl rfl rfl rfl (fun w hx => gv_pickF rfl (hF.t rfl) (hF.t rfl)) fun a hF => ?_
       refine sw_nil ?_
       refine run_done (by decide) ?_
       refine tN (hKq56 _ _ ?_)
       refine wp_cond_false (hF.t rfl) ?_
       refine wp_skip ?_
       refine tN (hKq55 _ _ ?_)
       refine wp_exit ?_
       refine block_exit_ne (by decide) ?_
       refine then_exit ?_
       refine block_exit ?_
       refine tN (hKq15 _ _ ?_)
       refine wR ?_
       refine wg hF rfl rfl rfl (gv_nadd (n := 1) rfl (hF.t rfl) rfl (by omega)) fun a hF => ?_
       refine wg hF rfl rfl rfl (gv_move rfl (hF.t rfl)) fun a hF => ?_
       refine wN ?_
       refine then_normal ?_
       exact ⟨mm - 1, by omega, i + 1, p, q, L2, by omega, by omega, hq.mono (by omega), hp.mono (by omega) (by omega), hF.sub ⟨rfl, rfl, rfl, rfl, rfl, rfl, rfl, rfl, trivial⟩, hS⟩
      ·
       refine wK fun Kq57 hKq57 => ?_
       refine wR ?_
       refine wg hF rfl rfl rfl (gv_field (r := 3) rfl u55 rfl rfl z3 (by decide) (hF.t rfl)) fun a hF => ?_
       refine wg hF rfl rfl rfl (gv_load rfl u3 rfl (hF.t rfl) (cell_ix (j := 3) (St.atM hS (List.mem_cons_of_mem _ (List.mem_cons_of_mem _ (hLm _ hcx))) rfl) (by omega))) fun a hF => ?_
       refine wg hF rfl rfl rfl (gv_rem rfl (hF.t rfl) (ev_const _ _) (by decide)) fun a hF => ?_
       refine wg hF rfl rfl rfl (gv_eqlF rfl (hF.t rfl) (ev_const _ _) (h7)) fun a hF => ?_
       refine wN ?_
       refine tN (hKq57 _ _ ?_)
       refine wp_cond_false (hF.t rfl) ?_
       refine wp_skip ?_
       refine tN (hKq52 _ _ ?_)
       refine wK fun Kq58 hKq58 => ?_
       obtain ⟨L2, hkx, hkb, hcx2, hS⟩ : ∃ L2, (⟨true, some kx, blk 40 (keyV kb).toList⟩ : Ent) ∈ L2 ∧ (⟨true, some kb, blkB 5 (kbs (zb nn) 64)⟩ : Ent) ∈ L2 ∧ (⟨true, some cx, blk 55 [.int .i64 1, .slice Ad bl.length cd, sV dr, .int .i64 nn]⟩ : Ent) ∈ L2 ∧ LawS w0 w xa xr m1 m2 p p q q L2 := ⟨_, List.mem_cons_self, List.mem_cons_of_mem _ List.mem_cons_self, List.mem_cons_of_mem _ (List.mem_cons_of_mem _ hcx), hmk [_, _] _ (nw_cons rfl (nw_cons rfl nw_nil)) hS⟩
       obtain ⟨a1, a2, a3⟩ := key_srd (w0 := w0) hkb
       refine Fw.wp_region_draw (by kernel_rfl) fun w hx => ?_
       replace hS := hS.ext hx
       clear hx
       refine run_swalkI ⟨fun w => ∀ (j : Nat) (u : Value), ((keyV kb).toList)[j]? = some u → w.cell? ⟨kx, j, none⟩ = some u, w, (fun j u hu => hS.at hkx hu)⟩ _ 0 13 [2, 10] [[2]] _ ((fun j u hu => hS.at hkx hu)) (by kernel_rfl) (by kernel_rfl) rfl hF.size ?_
       refine sg hF rfl rfl rfl rfl (fun w hx => gv_field (r := 0) rfl u37 rfl rfl z35 (by decide) (hF.t rfl)) fun a hF => ?_
       refine sg hF rfl rfl rfl rfl (fun w hx => gv_loadAgg (vs := (keyV kb).toList) rfl u40 rfl (z40.trans (congrArg some (by rfl))) (hF.t rfl) (fun j u hu => by rw [Nat.zero_add]; exact hx j u hu)) fun a hF => ?_
       refine sw_eff rfl (stp_call hF (wanted_none rfl) rfl rfl Tryd.ok19 rfl (Evs.cons (hF.t rfl) (Evs.cons (hF.t rfl) Evs.nil)) (law_take_w hS hkb) fun e w g => ?_)
       obtain ⟨rfl, hS⟩ := g
       refine ⟨_, rfl, fun a hF => ?_⟩
       refine ⟨(fun j u hu => hS.at hkx hu), ?_⟩
       refine sg hF rfl rfl rfl rfl (fun w hx => gv_move rfl (hF.t rfl)) fun a hF => ?_
       refine sg hF rfl rfl rfl rfl (fun w hx => gv_field (r := 0) rfl u40 rfl rfl z22 (by decide) (hF.t rfl)) fun a hF => ?_
       refine sg hF rfl rfl rfl rfl (fun w hx => gv_load rfl u22 rfl (hF.t rfl) (cell_ix (j := 0) (hx 0 _ rfl) (by omega))) fun a hF => ?_
       refine sg hF rfl rfl rfl rfl (fun w hx => gv_field (r := 1) rfl u40 rfl rfl z22 (by decide) (hF.t rfl)) fun a hF => ?_
       refine sg hF rfl rfl rfl rfl (fun w hx => gv_load rfl u22 rfl (hF.t rfl) (cell_ix (j := 1) (hx 1 _ rfl) (by omega))) fun a hF => ?_
       refine sg hF rfl rfl rfl rfl (fun w hx => gv_field (r := 2) rfl u40 rfl rfl z22 (by decide) (hF.t rfl)) fun a hF => ?_
       refine sg hF rfl rfl rfl rfl (fun w hx => gv_load rfl u22 rfl (hF.t rfl) (cell_ix (j := 2) (hx 2 _ rfl) (by omega))) fun a hF => ?_
       refine sw_eff rfl (stp_call hF (wanted_none rfl) rfl rfl Tryd.ok25 rfl (Evs.cons (hF.t rfl) (Evs.cons (hF.t rfl) (Evs.cons (hF.t rfl) (Evs.cons (hF.t rfl) Evs.nil)))) (law_take_h hS a1 a2 a3 (kKey_len _) (kIv_len _) (kMac_len _)) fun e w g => ?_)
       obtain ⟨rfl, hS⟩ := g
       refine ⟨_, rfl, fun a hF => ?_⟩
       refine ⟨(fun j u hu => hS.at hkx hu), ?_⟩
       refine sg hF rfl rfl rfl rfl (fun w hx => gv_assign rfl (hF.t rfl)) fun a hF => ?_
       refine sg hF rfl rfl rfl rfl (fun w hx => gv_assign rfl (hF.t rfl)) fun a hF => ?_
       refine sw_nil ?_
       refine run_done (by decide) ?_
       refine tN (hKq58 _ _ ?_)
       refine wK fun Kq59 hKq59 => ?_
       refine wK fun Kq60 hKq60 => ?_
       refine Fw.wp_region_draw (by kernel_rfl) fun w hx => ?_
       replace hS := hS.ext hx
       clear hx
       refine run_swalkI ⟨fun w => ∀ (j : Nat) (u : Value), ((keyV kb).toList)[j]? = some u → w.cell? ⟨kx, j, none⟩ = some u, w, (fun j u hu => hS.at hkx hu)⟩ _ 0 24 [6, 20] [[10, 6]] _ ((fun j u hu => hS.at hkx hu)) (by kernel_rfl) (by kernel_rfl) rfl hF.size ?_
       refine sg hF rfl rfl rfl rfl (fun w hx => gv_move rfl (hF.t rfl)) fun a hF => ?_
       refine sg hF rfl rfl rfl rfl (fun w hx => gv_move rfl (hF.t rfl)) fun a hF => ?_
       refine sg hF rfl rfl rfl rfl (fun w hx => gv_neqF rfl (hF.t rfl) (hF.t rfl) (fun h => h rfl)) fun a hF => ?_
       refine sg hF rfl rfl rfl rfl (fun w hx => gv_move rfl (hF.t rfl)) fun a hF => ?_
       refine sw_gv hF rfl (wanted_of hF rfl rfl (rfl)) rfl rfl (fun w hx => gv_field (r := 0) rfl u47 rfl rfl z35 (by decide) (hF.t rfl)) fun a hF => ?_
       refine sw_gv hF rfl (wanted_of hF rfl rfl (rfl)) rfl rfl (fun w hx => gv_loadAgg (vs := (keyV kb).toList) rfl u40 rfl (z40.trans (congrArg some (by rfl))) (hF.t rfl) (fun j u hu => by rw [Nat.zero_add]; exact hx j u hu)) fun a hF => ?_
       refine sw_eff rfl (stp_call hF (wanted_of hF rfl rfl (rfl)) rfl rfl Tryd.ok19 rfl (Evs.cons (hF.t rfl) (Evs.cons (hF.t rfl) Evs.nil)) (law_take_r hS hlq' a1 a2 a3 (kKey_len _) (kIv_len _) (kMac_len _)) fun e w g => ?_)
       obtain ⟨rfl, hS⟩ := g
       refine ⟨_, rfl, fun a hF => ?_⟩
       refine ⟨(fun j u hu => hS.at hkx hu), ?_⟩
       refine sw_gv hF rfl (wanted_of hF rfl rfl (rfl)) rfl rfl (fun w hx => gv_move rfl (hF.t rfl)) fun a hF => ?_
       refine sw_gv hF rfl (wanted_of hF rfl rfl (rfl)) rfl rfl (fun w hx => gv_neqF rfl (hF.t rfl) (hF.t rfl) (fun h => h rfl)) fun a hF => ?_
       refine sg hF rfl rfl rfl rfl (fun w hx => gv_pickF rfl (hF.t rfl) (hF.t rfl)) fun a hF => ?_
       refine sg hF rfl rfl rfl rfl (fun w hx => gv_move rfl (hF.t rfl)) fun a hF => ?_
       refine sw_gv hF rfl (wanted_of hF rfl rfl (rfl)) rfl rfl (fun w hx => gv_move rfl (hF.t rfl)) fun a hF => ?_
       refine sw_gv hF rfl (wanted_of hF rfl rfl (rfl)) rfl rfl (fun w hx => gv_nilCheck rfl (hF.t rfl)) fun a hF => ?_
       refine sw_gv hF rfl (wanted_of hF rfl rfl (rfl)) rfl rfl (fun w hx => gv_field (r := 0) rfl u53 rfl rfl z50 (by decide) (hF.t rfl)) fun a hF => ?_
       refine sw_gv hF rfl (wanted_of hF rfl rfl (rfl)) rfl rfl (fun w hx => gv_field (r := 0) rfl u40 rfl rfl z22 (by decide) (hF.t rfl)) fun a hF => ?_
       refine sw_gv hF rfl (wanted_of hF rfl rfl (rfl)) rfl rfl (fun w hx => gv_load rfl u22 rfl (hF.t rfl) (cell_ix (j := 0) (hx 0 _ rfl) (by omega))) fun a hF => ?_
       refine sw_gv hF rfl (wanted_of hF rfl rfl (rfl)) rfl rfl (fun w hx => gv_field (r := 1) rfl u40 rfl rfl z22 (by decide) (hF.t rfl)) fun a hF => ?_
       refine sw_gv hF rfl (wanted_of hF rfl rfl (rfl)) rfl rfl (fun w hx => gv_load rfl u22 rfl (hF.t rfl) (cell_ix (j := 1) (hx 1 _ rfl) (by omega))) fun a hF => ?_
       refine sw_gv hF rfl (wanted_of hF rfl rfl (rfl)) rfl rfl (fun w hx => gv_field (r := 2) rfl u40 rfl rfl z22 (by decide) (hF.t rfl)) fun a hF => ?_
       refine sw_gv hF rfl (wanted_of hF rfl rfl (rfl)) rfl rfl (fun w hx => gv_load rfl u22 rfl (hF.t rfl) (cell_ix (j := 2) (hx 2 _ rfl) (by omega))) fun a hF => ?_
       refine sw_eff rfl (stp_call hF (wanted_of hF rfl rfl (rfl)) rfl rfl Tryd.ok25 rfl (Evs.cons (hF.t rfl) (Evs.cons (hF.t rfl) (Evs.cons (hF.t rfl) (Evs.cons (hF.t rfl) Evs.nil)))) (law_take_rr hS hlq' a1 a2 a3 (kKey_len _) (kIv_len _) (kMac_len _)) fun e w g => ?_)
       obtain ⟨rfl, hS⟩ := g
       refine ⟨_, rfl, fun a hF => ?_⟩
       refine ⟨(fun j u hu => hS.at hkx hu), ?_⟩
       refine sw_gv hF rfl (wanted_of hF rfl rfl (rfl)) rfl rfl (fun w hx => gv_move rfl (hF.t rfl)) fun a hF => ?_
       refine sw_gv hF rfl (wanted_of hF rfl rfl (rfl)) rfl rfl (fun w hx => gv_neqF rfl (hF.t rfl) (hF.t rfl) (fun h => h rfl)) fun a hF => ?_
       refine sg hF rfl rfl rfl rfl (fun w hx => gv_pickF rfl (hF.t rfl) (hF.t rfl)) fun a hF => ?_
       refine sw_nil ?_
       refine run_done (by decide) ?_
       refine tN (hKq60 _ _ ?_)
       refine wp_cond_false (hF.t rfl) ?_
       refine wp_skip ?_
       refine tN (hKq59 _ _ ?_)
       refine wp_exit ?_
       refine block_exit_ne (by decide) ?_
       refine then_exit ?_
       refine block_exit ?_
       refine tN (hKq15 _ _ ?_)
       refine wR ?_
       refine wg hF rfl rfl rfl (gv_nadd (n := 1) rfl (hF.t rfl) rfl (by omega)) fun a hF => ?_
       refine wg hF rfl rfl rfl (gv_move rfl (hF.t rfl)) fun a hF => ?_
       refine wN ?_
       refine then_normal ?_
       exact ⟨mm - 1, by omega, i + 1, takeW p (zb nn), { q with key := some (kKey (zb nn), kIv (zb nn), kMac (zb nn)), at_ := 0, n := 0 }, L2, by omega, by omega, (hq.take _).mono (by omega), hp.take (by omega) _, hF.sub ⟨rfl, rfl, rfl, rfl, rfl, rfl, rfl, rfl, trivial⟩, hS⟩
    ·
     refine wK fun Kq61 hKq61 => ?_
     refine wR ?_
     refine wg hF rfl rfl rfl (gv_eqlF rfl (hF.t rfl) (ev_const _ _) (k0)) fun a hF => ?_
     refine wg hF rfl rfl rfl (gv_assign rfl (hF.t rfl)) fun a hF => ?_
     refine wN ?_
     refine tN (hKq61 _ _ ?_)
     refine wp_cond_false (hF.t rfl) ?_
     refine wR ?_
     refine wg hF rfl rfl rfl (gv_eqlF rfl (hF.t rfl) (ev_const _ _) (k3)) fun a hF => ?_
     refine wg hF rfl rfl rfl (gv_assign rfl (hF.t rfl)) fun a hF => ?_
     refine wN ?_
     refine tN (hKq19 _ _ ?_)
     refine wp_cond_false (hF.t rfl) ?_
     refine wK fun Kq62 hKq62 => ?_
     refine wR ?_
     refine wg hF rfl rfl rfl (gv_eqlF rfl (hF.t rfl) (ev_const _ _) (k1)) fun a hF => ?_
     refine wg hF rfl rfl rfl (gv_assign rfl (hF.t rfl)) fun a hF => ?_
     refine wN ?_
     refine tN (hKq62 _ _ ?_)
     refine wp_cond_false (hF.t rfl) ?_
     refine wp_skip ?_
     refine block_normal ?_
     refine then_normal ?_
     exact ⟨p, q, L1, _, bl, by omega, (SRd.old hdv), hq, hp.mono (by omega) (by omega), hF.sub ⟨rfl, rfl, rfl, rfl, rfl, rfl, rfl, rfl, rfl, trivial⟩, hS⟩
   ·
    rintro a w ⟨p, q, L, v, l, hl, hr, hq, hp, hF, hS⟩
    obtain ⟨A, c, rfl, hc1, hc2, _⟩ := (hS.rd hr).isB
    clear hc1 hc2
    refine wp_block ?_
    refine wp_loop_n (fun m3 a w => ∃ (q : QS) (L : List Ent) (A : Option Addr) (c : Nat) (l : List UInt8), l.length ≤ bl.length + 64 ∧ m3 = l.length ∧ SRd w0 L (.slice A l.length c) (l.map vB) ∧ FedQ q ((113 * lightN cs (i + 1)) - l.length) ∧ Fr 213 a [(1, vI st), (5, .pointer (some ⟨xa, 0, none⟩)), (6, .pointer (some ⟨xr, 0, none⟩)), (7, .pointer (some ⟨m1, 0, none⟩)), (8, .pointer (some ⟨m2, 0, none⟩)), (35, .slice (some ⟨b1, o1, none⟩) cs.length c1), (36, vI cs.length), (37, vI i), (11, .slice A l.length c)] ∧ LawS w0 w xa xr m1 m2 p p q q L) l.length ⟨q, L, A, c, l, hl, rfl, hr, hq.mono (by omega), hF.sub ⟨rfl, rfl, rfl, rfl, rfl, rfl, rfl, rfl, rfl, trivial⟩, hS⟩ ?_
    rintro m3 a w ⟨q, L, A, c, l, hl, hm3, hr, hq, hF, hS⟩
    have hrl := hS.rd hr
    have hc1 : l.length ≤ c := by
     obtain ⟨A', c', e1, e2, _⟩ := hrl.isB
     injection e1 with _ _ e3
     rw [e3]; exact e2
    refine wK fun Kq63 hKq63 => ?_
    refine wK fun Kq64 hKq64 => ?_
    refine wR ?_
    refine wg hF rfl rfl rfl (gv_move rfl (hF.t rfl)) fun a hF => ?_
    refine wg hF rfl rfl rfl (gv_len rfl u22 (hF.t rfl)) fun a hF => ?_
    refine wg hF rfl rfl rfl (gv_gtr rfl (hF.t rfl) (ev_const _ _)) fun a hF => ?_
    refine wN ?_
    refine tN (hKq64 _ _ ?_)
    refine cond_dec (hF.t rfl) (fun h180 => ?_) (fun h180 => ?_)
    ·
     refine wp_skip ?_
     refine tN (hKq63 _ _ ?_)
     refine wp_block ?_
     refine wK fun Kq65 hKq65 => ?_
     refine wR ?_
     refine wg hF rfl rfl rfl (gv_move rfl (hF.t rfl)) fun a hF => ?_
     refine wg hF rfl rfl rfl (gv_move rfl (hF.t rfl)) fun a hF => ?_
     refine wg hF rfl rfl rfl (gv_len rfl u22 (hF.t rfl)) fun a hF => ?_
     refine wg hF rfl rfl rfl (gv_nmin rfl (hF.t rfl) (hF.t rfl)) fun a hF => ?_
     obtain ⟨k, hk⟩ : ∃ k, k = min st l.length := ⟨_, rfl⟩
     rw [← hk] at hF
     have hk1 : 1 ≤ k := by omega
     have hk2 : k ≤ l.length := by omega
     refine wg hF rfl rfl rfl (gv_assign rfl (hF.t rfl)) fun a hF => ?_
     refine wN ?_
     refine tN (hKq65 _ _ ?_)
     refine wK fun Kq66 hKq66 => ?_
     have hvk : SRd w0 L (.slice A k c) ((l.take k).map vB) := by
      have := hr.cutHi (hi := k) hk2
      rwa [← List.map_take] at this
     have htk : (l.take k).length = k := by rw [List.length_take]; omega
     refine wR ?_
     refine wg hF rfl rfl rfl (gv_move rfl (hF.t rfl)) fun a hF => ?_
     refine wg hF rfl rfl rfl (gv_move rfl (hF.t rfl)) fun a hF => ?_
     refine wg hF rfl rfl rfl (gv_sliceHi rfl u22 z5 (hF.t rfl) (hF.t rfl) (by omega)) fun a hF => ?_
     refine wpList_stp (stp_call hF (wanted_none rfl) rfl rfl Tryd.ok16 rfl (Evs.cons (hF.t rfl) (Evs.cons (hF.t rfl) Evs.nil)) (law_feed hS hvk (by rw [htk]; exact hk1) (fun hd => by have := hq.at_ hd; rw [htk]; omega)) fun e w g => ?_)
     obtain ⟨rfl, hS⟩ := g
     refine ⟨_, rfl, fun a hF => ?_⟩
     refine wN ?_
     refine tN (hKq66 _ _ ?_)
     refine wK fun Kq67 hKq67 => ?_
     refine Fw.wp_region_draw (by kernel_rfl) fun w hx => ?_
     replace hS := hS.ext hx
     obtain ⟨kv, iv, mv, bv, hv0, HH, hS0, hLm, hnH, hb0, hmk⟩ := hS.openR
     have hmu : q.B.length ≤ muQ q := by unfold muQ; omega
     have hqs := hq.sq
     replace hS := hS0.addNil (blk 5 (([] : List UInt8).map vB ++ []))
     clear hS0
     clear hx
     refine run_swalkI ⟨fun w => w.cell? ⟨m2, 6, none⟩ = some bv, w, (hS.cell (k := 1) (i := 6) rfl rfl)⟩ _ 0 12 [5, 9] [[5]] _ ((hS.cell (k := 1) (i := 6) rfl rfl)) (by kernel_rfl) (by kernel_rfl) rfl hF.size ?_
     refine sg hF rfl rfl rfl rfl (fun w hx => gv_move rfl (hF.t rfl)) fun a hF => ?_
     refine sg hF rfl rfl rfl rfl (fun w hx => gv_move rfl (hF.t rfl)) fun a hF => ?_
     refine sg hF rfl rfl rfl rfl (fun w hx => gv_nilCheck rfl (hF.t rfl)) fun a hF => ?_
     refine sg hF rfl rfl rfl rfl (fun w hx => gv_field (r := 6) rfl u53 rfl rfl z22 (by decide) (hF.t rfl)) fun a hF => ?_
     refine sg hF rfl rfl rfl rfl (fun w hx => gv_load rfl u22 rfl (hF.t rfl) (cell_ix (j := 6) hx (by omega))) fun a hF => ?_
     refine sw_eff rfl (stp_appB (ml := q.B) (k := 0) (l := []) (pad := []) hF (wanted_none rfl) rfl rfl rfl u22 Tryd.ty5 rfl (ev_const _ _) (hF.t rfl) hS rfl (fun _ => ⟨rfl, rfl⟩) (by simp) (hb0 w _ hS (nw_cons rfl (nw_cons rfl hnH)) (fun e he => List.mem_cons_of_mem _ (List.mem_cons_of_mem _ (hLm e he)))) (by simp; omega) fun g gp a w hF go gc hS => ?_)
     simp only [List.nil_append] at hF go gc hS
     refine ⟨(hS.cell (k := 1) (i := 6) rfl rfl), ?_⟩
     refine sg hF rfl rfl rfl rfl (fun w hx => gv_move rfl (hF.t rfl)) fun a hF => ?_
     refine sg hF rfl rfl rfl rfl (fun w hx => gv_move rfl (hF.t rfl)) fun a hF => ?_
     refine sg hF rfl rfl rfl rfl (fun w hx => gv_sliceHi rfl u22 z5 (hF.t rfl) (hF.t rfl) (by omega)) fun a hF => ?_
     refine sw_eff rfl (stp_appB (l := q.B) (ml := l.take k) (pad := gp) (k := 0) hF (wanted_none rfl) rfl rfl rfl u22 Tryd.ty5 rfl (hF.t rfl) (hF.t rfl) hS rfl go gc (hvk w _ hS (nw_cons rfl (nw_cons rfl hnH)) (fun e he => List.mem_cons_of_mem _ (List.mem_cons_of_mem _ (hLm e he)))) (by rw [htk]; omega) fun g2 gp2 a w hF go2 gc2 hS => ?_)
     refine ⟨(hS.cell (k := 1) (i := 6) rfl rfl), ?_⟩
     refine sg hF rfl rfl rfl rfl (fun w hx => gv_nilCheck rfl (hF.t rfl)) fun a hF => ?_
     refine sg hF rfl rfl rfl rfl (fun w hx => gv_field (r := 6) rfl u53 rfl rfl z22 (by decide) (hF.t rfl)) fun a hF => ?_
     refine sw_nil ?_
     refine run_stp (by kernel_rfl) rfl (stp_storeAt (6) hF (wanted_none rfl) rfl rfl z22 (hF.t rfl) (by omega) (hF.t rfl) (own_one _ _ _) hS (k := 1) rfl (by simp) fun w hS => ?_)
     refine run_done (by decide) ?_
     obtain ⟨L2, hL2, hS⟩ : ∃ L2, (∀ e ∈ L, e ∈ L2) ∧ LawS w0 w xa xr m1 m2 p p { q with B := q.B ++ l.take k } { q with B := q.B ++ l.take k } L2 := ⟨_, fun e he => List.mem_append_right _ he, hmk [rowE g2 (q.B ++ l.take k) gp2] _ _ (l.take k) (nw_cons rfl nw_nil) (own_rd List.mem_cons_self go2 rfl gc2) hS⟩
     refine tN (hKq67 _ _ ?_)
     refine wK fun Kq68 hKq68 => ?_
     refine wR ?_
     refine wg hF rfl rfl rfl (gv_move rfl (hF.t rfl)) fun a hF => ?_
     refine wg hF rfl rfl rfl (gv_move rfl (hF.t rfl)) fun a hF => ?_
     refine wg hF rfl rfl rfl (gv_sliceLo rfl u22 z5 (hF.t rfl) (hF.t rfl) (by omega)) fun a hF => ?_
     refine wg hF rfl rfl rfl (gv_assign rfl (hF.t rfl)) fun a hF => ?_
     refine wN ?_
     obtain ⟨A3, c3, hcut⟩ : ∃ A3 c3, cutV A l.length c k = .slice A3 (l.drop k).length c3 := ⟨_, _, by rw [cutV, List.length_drop]⟩
     have hr3 : SRd w0 L2 (cutV A l.length c k) ((l.drop k).map vB) := by
      have := (hr.mono hL2).cutLo (lo := k) hk2
      rwa [← List.map_drop] at this
     rw [hcut] at hF hr3
     have hq3 := (hq.feed (l.take k)).mono (G := (113 * lightN cs (i + 1)) - (l.drop k).length) (by rw [htk, List.length_drop]; omega)
     refine tN (hKq68 _ _ ?_)
     refine wK fun Kq69 hKq69 => ?_
     refine wR ?_
     refine wg hF rfl rfl rfl (gv_assign rfl (ev_const _ _)) fun a hF => ?_
     refine wN ?_
     refine tN (hKq69 _ _ ?_)
     refine wp_block ?_
     refine wp_loop_n (fun m5 a w => ∃ (q5 : QS) (L5 : List Ent) (on : Bool), (∀ e ∈ L2, e ∈ L5) ∧ (on = true → m5 = muQ q5 + 1) ∧ FedQ q5 ((113 * lightN cs (i + 1)) - (l.drop k).length) ∧ Fr 213 a [(1, vI st), (5, .pointer (some ⟨xa, 0, none⟩)), (6, .pointer (some ⟨xr, 0, none⟩)), (7, .pointer (some ⟨m1, 0, none⟩)), (8, .pointer (some ⟨m2, 0, none⟩)), (35, .slice (some ⟨b1, o1, none⟩) cs.length c1), (36, vI cs.length), (37, vI i), (11, .slice A3 (l.drop k).length c3), (19, .bool on)] ∧ LawS w0 w xa xr m1 m2 p p q5 q5 L5) (muQ { q with B := q.B ++ l.take k } + 1) ⟨_, L2, true, fun e he => he, fun _ => rfl, hq3, hF.sub ⟨rfl, rfl, rfl, rfl, rfl, rfl, rfl, rfl, rfl, rfl, trivial⟩, hS⟩ ?_
     rintro m5 a w ⟨q5, L5, on, hL5, hon, hq5, hF, hS⟩
     refine wK fun Kq70 hKq70 => ?_
     cases on
     ·
      refine wK fun Kq71 hKq71 => ?_
      refine wR ?_
      refine wg hF rfl rfl rfl (gv_move rfl (hF.t rfl)) fun a hF => ?_
      refine wN ?_
      refine tN (hKq71 _ _ ?_)
      refine wp_cond_false (hF.t rfl) ?_
      refine wp_exit ?_
      refine then_exit ?_
      refine then_exit ?_
      refine block_exit ?_
      refine block_normal ?_
      refine then_normal ?_
      exact ⟨(l.drop k).length, by rw [List.length_drop]; omega, q5, L5, A3, c3, l.drop k, by rw [List.length_drop]; omega, rfl, hr3.mono hL5, hq5, hF.sub ⟨rfl, rfl, rfl, rfl, rfl, rfl, rfl, rfl, rfl, trivial⟩, hS⟩
     ·
      refine wK fun Kq72 hKq72 => ?_
      refine wR ?_
      refine wg hF rfl rfl rfl (gv_move rfl (hF.t rfl)) fun a hF => ?_
      refine wN ?_
      refine tN (hKq72 _ _ ?_)
      refine wp_cond_true (hF.t rfl) ?_
      refine wp_skip ?_
      refine tN (hKq70 _ _ ?_)
      refine wp_block ?_
      refine wK fun Kq73 hKq73 => ?_
      refine wR ?_
      refine wg hF rfl rfl rfl (gv_assign rfl (ev_const _ _)) fun a hF => ?_
      refine wN ?_
      refine tN (hKq73 _ _ ?_)
      refine wK fun Kq74 hKq74 => ?_
      refine wR ?_
      refine wg hF rfl rfl rfl (gv_move rfl (hF.t rfl)) fun a hF => ?_
      refine wpList_stp (stp_call hF (wanted_none rfl) rfl rfl Tryd.ok26 rfl (Evs.cons (hF.t rfl) (Evs.cons (hF.t rfl) Evs.nil)) (law_next hG hS hq5 (by omega)) fun e w g => ?_)
      obtain ⟨rfl, L6, hL6, hS⟩ := g
      refine ⟨_, rfl, fun a hF => ?_⟩
      refine wg hF rfl rfl rfl (gv_move rfl (hF.t rfl)) fun a hF => ?_
      refine wg hF rfl rfl rfl (gv_extract rfl (hF.t rfl) rfl) fun a hF => ?_
      refine wg hF rfl rfl rfl (gv_extract rfl (hF.t rfl) rfl) fun a hF => ?_
      refine wg hF rfl rfl rfl (gv_assign rfl (hF.t rfl)) fun a hF => ?_
      refine wg hF rfl rfl rfl (gv_assign rfl (hF.t rfl)) fun a hF => ?_
      refine wN ?_
      refine tN (hKq74 _ _ ?_)
      refine wK fun Kq75 hKq75 => ?_
      refine wR ?_
      refine wg hF rfl rfl rfl (gv_move rfl (hF.t rfl)) fun a hF => ?_
      refine wg hF rfl rfl rfl (gv_not rfl (hF.t rfl)) fun a hF => ?_
      refine wN ?_
      refine tN (hKq75 _ _ ?_)
      refine wp_cond_false (hF.t rfl) ?_
      refine wp_skip ?_
      refine block_normal ?_
      refine then_normal ?_
      have hon1 := hon rfl
      exact ⟨if (nextQ q5).1.2 = 0 then muQ (nextQ q5).2 + 1 else 0, by split; (have := nextQ_mu (by assumption); omega); omega, (nextQ q5).2, L6, _, fun e he => hL6 e (hL5 e he), fun h => by rw [if_pos (of_decide_eq_true h)], hq5.next, hF.sub ⟨rfl, rfl, rfl, rfl, rfl, rfl, rfl, rfl, rfl, rfl, trivial⟩, hS⟩
    ·
     refine wp_exit ?_
     refine then_exit ?_
     refine then_exit ?_
     refine block_exit ?_
     refine block_normal ?_
     refine tN (hKq15 _ _ ?_)
     refine wR ?_
     refine wg hF rfl rfl rfl (gv_nadd (n := 1) rfl (hF.t rfl) rfl (by omega)) fun a hF => ?_
     refine wg hF rfl rfl rfl (gv_move rfl (hF.t rfl)) fun a hF => ?_
     refine wN ?_
     refine then_normal ?_
     exact ⟨mm - 1, by omega, i + 1, p, q, L, by omega, by omega, hq.mono (by omega), hp, hF.sub ⟨rfl, rfl, rfl, rfl, rfl, rfl, rfl, rfl, trivial⟩, hS⟩
  ·
   refine wp_exit ?_
   refine then_exit ?_
   refine then_exit ?_
   refine block_exit ?_
   refine tN (hKq11 _ _ ?_)
   refine wK fun Kq76 hKq76 => ?_
   refine wR ?_
   refine wg hF rfl rfl rfl (gv_assign rfl (ev_const _ _)) fun a hF => ?_
   refine wN ?_
   refine tN (hKq76 _ _ ?_)
   refine wp_ret ?_
   refine ret1 (fn := Tryd.f5) (t := 4) hF rfl rfl ?_
   exact ⟨rfl, hS.toExt⟩
end Go.Proofs.YtfhalnobaeogkaaDoor
