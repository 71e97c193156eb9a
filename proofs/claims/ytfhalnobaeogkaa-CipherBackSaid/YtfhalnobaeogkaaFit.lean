/- What is proved: the block that every law of layer 6 asks for first is as it is to be. -/
import Derived.Test.YtfhalnobaeogkaaProg
import Derived.Test.YtfhalnobaeogkaaFwSep
import Derived.KernelRfl
import Derived.Test.YtfhalnobaeogkaaFwStr
import Derived.Test.YtfhalnobaeogkaaLeaf
import Derived.Test.YtfhalnobaeogkaaCip
import Derived.Test.YtfhalnobaeogkaaRef
import Derived.Test.YtfhalnobaeogkaaRef2
import Derived.Test.YtfhalnobaeogkaaRefB
import Derived.Test.YtfhalnobaeogkaaRefY
set_option linter.unusedVariables false
set_option linter.unusedSimpArgs false
namespace Go.Proofs.Ytfhalnobaeogkaa
open Go Go.RowKit Go.Fw

theorem Try.ok9 : CallOk Try.prog 9 := ⟨_, Try.func9, by kernel_rfl, by kernel_rfl⟩
theorem Try.ok11 : CallOk Try.prog 11 := ⟨_, Try.func11, by kernel_rfl, by kernel_rfl⟩


theorem St.rot {w0 w : World} {p q r : Ent} {T : List Ent} (h : St w0 w (p :: q :: r :: T)) : St w0 w (q :: r :: p :: T) := by
  have h1 := h.move (k := 2) rfl
  simp only [List.eraseIdx_cons_succ, List.eraseIdx_cons_zero] at h1
  have h2 := h1.move (k := 2) rfl
  simp only [List.eraseIdx_cons_succ, List.eraseIdx_cons_zero] at h2
  exact h2
/-- No block of keystream yet. -/
abbrev nokb : Ent := ⟨true, none, blkB 23 []⟩
theorem new_st {kv cv : Value} {kl cl : List UInt8} {w0 : World} (hkv : Rd w0 kv (kl.map vB)) (hcv : Rd w0 cv (cl.map vB)) (hk : kl.length = 16) (hc : cl.length = 16) :
    Calls Try.prog 9 #[kv, cv] w0 fun e w' => ∃ b, e = .returned (.tuple #[.pointer (some ⟨b, 0, none⟩), .int .i64 0]) ∧ St w0 w' [⟨true, some b, strm (keys kl) cl (.slice none 0 0)⟩, nokb] :=
  (new_ok hkv hcv hk hc).mono fun e w' ⟨b, he, h⟩ => ⟨b, he, (h.addNil (blkB 23 [])).move (k := 1) rfl⟩
theorem nil_left {w0 : World} : SRd w0 [nokb] (.slice none 0 0) (([] : List UInt8).map vB) := SRd.nil
def z16 : List UInt8 := List.replicate 16 0
theorem z16_len : z16.length = 16 := rfl
set_option maxRecDepth 100000 in
theorem fit_first : (outT (keys z16) (z16, []) z16 16).getD 0 0 = 0x66 := by decide +kernel
set_option maxRecDepth 100000 in
theorem fit_last : (outT (keys z16) (z16, []) z16 16).getD 15 0 = 0x2E := by decide +kernel


theorem fit_ok {w0 : World} :
    Calls Try.prog 8 #[] w0 fun e w' => e = .returned (.bool true) ∧ Ext w0 w' := by
  refine calls_start 32 Try.func8 rfl Try.ntmps8 rfl fun a hF => ?_
  have hS := St.refl w0
  refine wp_seq_k fun Kq1 hKq1 => ?_
  -- region 0 (law.go:11)
  refine wp_region_lit ?_
  refine wpList_stp (stp_gv hF (wanted_none rfl) rfl rfl (gv_assign rfl (ev_const _ _)) fun a hF => ?_)
  refine wpList_nil ?_
  refine then_normal (hKq1 _ _ ?_)
  refine wp_seq_k fun Kq2 hKq2 => ?_
  -- region 1 (law.go:12)
  refine Fw.wp_region_draw (by kernel_rfl) fun w hx => ?_
  replace hS := hS.ext hx
  clear hx
  refine run_head2 (n := 2) _ 0 5 1 6 _ _ (FlR (List.replicate 16 (Value.int .u8 0))) (FlR (List.replicate 16 (Value.int .u8 0))) hF (by kernel_rfl) rfl rfl rfl (FlR.lasts (List.replicate 16 (Value.int .u8 0))) rfl rfl (FlR.lasts (List.replicate 16 (Value.int .u8 0))) (by decide) (by decide) ?_ (by omega) (by omega) (by omega) (by omega)
  refine dw_fl rfl ?_
  refine dw_fl rfl ?_
  refine dw_nil ⟨⟨fo_makeR rfl Try.underlying22 Try.ty5 rfl rfl rfl (by omega) (by omega), fo_makeR rfl Try.underlying22 Try.ty5 rfl rfl rfl (by omega) (by omega)⟩, fun a w v v' y1 y2 hA hx => ?_⟩
  replace hF := hA _ hF
  replace hS := hS.ext hx
  clear hA hx
  refine run_stp (by kernel_rfl) rfl (stp_call hF (wanted_none rfl) rfl rfl Try.ok9 rfl (Evs.cons (hF.t rfl) (Evs.cons (hF.t rfl) Evs.nil)) (new_st (kl := z16) (by rw [z16, ← rep_vB]; exact y1) (cl := z16) (by rw [z16, ← rep_vB]; exact y2) rfl rfl) fun e w h => ?_)
  obtain ⟨s, rfl, hN⟩ := h
  refine ⟨_, rfl, fun a hF => ?_⟩
  replace hS := hS.join hN (nw_cons rfl (nw_cons rfl nw_nil))
  simp only [List.cons_append, List.nil_append] at hS
  clear hN
  refine run_head0 (n := 8) _ hF (by kernel_rfl) rfl ?_
  refine dw_gv hF rfl (wanted_none rfl) rfl rfl (fun w hx => gv_move rfl (hF.t rfl)) fun a hF => ?_
  refine dw_gv hF rfl (wanted_none rfl) rfl rfl (fun w hx => gv_extract rfl (hF.t rfl) rfl) fun a hF => ?_
  refine dw_gv hF rfl (wanted_none rfl) rfl rfl (fun w hx => gv_extract rfl (hF.t rfl) rfl) fun a hF => ?_
  refine dw_gv hF rfl (wanted_none rfl) rfl rfl (fun w hx => gv_assign rfl (hF.t rfl)) fun a hF => ?_
  refine dw_gv hF rfl (wanted_none rfl) rfl rfl (fun w hx => gv_assign rfl (hF.t rfl)) fun a hF => ?_
  refine dw_nil fun a w hA hx => ?_
  replace hF := hA _ hF
  replace hS := hS.ext hx
  clear hA hx
  refine run_done (by decide) ?_
  refine then_normal (hKq2 _ _ ?_)
  refine wp_seq_k fun Kq3 hKq3 => ?_
  -- region 2 (law.go:13)
  refine wp_region_lit ?_
  refine wpList_stp (stp_gv hF (wanted_none rfl) rfl rfl (gv_move rfl (hF.t rfl)) fun a hF => ?_)
  refine wpList_stp (stp_make (n := 16) hF (wanted_none rfl) rfl rfl rfl Try.underlying22 Try.ty5 rfl rfl rfl (by omega) (by omega) hS fun z a w hF hS => ?_)
  rw [rep_vB] at hS
  replace hS := St.rot (T := []) (by rw [show blk 5 ((List.replicate 16 (0 : UInt8)).map vB) = blk 5 (z16.map vB ++ []) from by rw [z16, List.append_nil]] at hS; exact hS)
  refine wpList_stp (stp_call hF (wanted_none rfl) rfl rfl Try.ok11 rfl (Evs.cons (hF.t rfl) (Evs.cons (hF.t rfl) Evs.nil)) (turn_ok (nw_cons rfl nw_nil) hS nil_left (bl := z16) (SRd.own (ob := some z) (pad := []) (xs := z16.map vB) List.mem_cons_self (fun h => (by cases h)) (by simp [z16])) (keys_len z16) rfl (by simp [z16])) fun e w h => ?_)
  obtain ⟨x, xp, xl, xk, xB, rfl, xo, xc, hS, xL⟩ := h
  refine ⟨_, rfl, fun a hF => ?_⟩
  simp only [z16_len] at hF hS xo xc
  obtain ⟨x, rfl⟩ : ∃ b, x = some b := by
    cases x with
    | none => exact absurd (xo rfl).1 (by simp [z16])
    | some b => exact ⟨b, rfl⟩
  refine wpList_stp (stp_gv hF (wanted_none rfl) rfl rfl (gv_assign rfl (hF.t rfl)) fun a hF => ?_)
  refine wpList_nil ?_
  refine then_normal (hKq3 _ _ ?_)
  refine wp_seq_k fun Kq4 hKq4 => ?_
  -- region 3 (law.go:14)
  refine wp_region_lit ?_
  refine wpList_stp (stp_gv hF (wanted_none rfl) rfl rfl (gv_move rfl (hF.t rfl)) fun a hF => ?_)
  refine wpList_stp (stp_gv hF (wanted_none rfl) rfl rfl (gv_eqlT rfl (hF.t rfl) (ev_const _ _) (rfl)) fun a hF => ?_)
  refine wpList_stp (stp_gv hF (wanted_none rfl) rfl rfl (gv_move rfl (hF.t rfl)) fun a hF => ?_)
  refine wpList_stp (stp_gv hF (wanted_of hF rfl rfl (rfl)) rfl rfl (gv_move rfl (hF.t rfl)) fun a hF => ?_)
  refine wpList_stp (stp_gv hF (wanted_of hF rfl rfl (rfl)) rfl rfl (gv_lenOwn rfl Try.underlying22 (hF.t rfl) (fun h => by cases h)) fun a hF => ?_)
  refine wpList_stp (stp_gv hF (wanted_of hF rfl rfl (rfl)) rfl rfl (gv_eqlT rfl (hF.t rfl) (ev_const _ _) (rfl)) fun a hF => ?_)
  refine wpList_stp (stp_gv hF (wanted_none rfl) rfl rfl (gv_pickT rfl (hF.t rfl) (hF.t rfl)) fun a hF => ?_)
  refine wpList_stp (stp_gv hF (wanted_none rfl) rfl rfl (gv_move rfl (hF.t rfl)) fun a hF => ?_)
  refine wpList_stp (stp_gv hF (wanted_of hF rfl rfl (rfl)) rfl rfl (gv_move rfl (hF.t rfl)) fun a hF => ?_)
  refine wpList_stp (stp_gv hF (wanted_of hF rfl rfl (rfl)) rfl rfl (gv_indexSl (q := 0) rfl Try.underlying22 Try.sz5 (hF.t rfl) rfl (by omega)) fun a hF => ?_)
  refine wpList_stp (stp_gv hF (wanted_of hF rfl rfl (rfl)) rfl rfl (gv_load rfl Try.underlying5 rfl (hF.t rfl) (cell_ix (j := 0) (hS.cell (k := 0) rfl (at_map (K := (outT (keys z16) (z16, []) z16 16)) (by rw [outT_len, z16_len]; omega) 0)) (by omega))) fun a hF => ?_)
  refine wpList_stp (stp_gv hF (wanted_of hF rfl rfl (rfl)) rfl rfl (gv_eqlT rfl (hF.t rfl) (ev_const _ _) (by rw [fit_first]; rfl)) fun a hF => ?_)
  refine wpList_stp (stp_gv hF (wanted_none rfl) rfl rfl (gv_pickT rfl (hF.t rfl) (hF.t rfl)) fun a hF => ?_)
  refine wpList_stp (stp_gv hF (wanted_none rfl) rfl rfl (gv_move rfl (hF.t rfl)) fun a hF => ?_)
  refine wpList_stp (stp_gv hF (wanted_of hF rfl rfl (rfl)) rfl rfl (gv_move rfl (hF.t rfl)) fun a hF => ?_)
  refine wpList_stp (stp_gv hF (wanted_of hF rfl rfl (rfl)) rfl rfl (gv_indexSl (q := 15) rfl Try.underlying22 Try.sz5 (hF.t rfl) rfl (by omega)) fun a hF => ?_)
  refine wpList_stp (stp_gv hF (wanted_of hF rfl rfl (rfl)) rfl rfl (gv_load rfl Try.underlying5 rfl (hF.t rfl) (cell_ix (j := 15) (hS.cell (k := 0) rfl (at_map (K := (outT (keys z16) (z16, []) z16 16)) (by rw [outT_len, z16_len]; omega) 0)) (by omega))) fun a hF => ?_)
  refine wpList_stp (stp_gv hF (wanted_of hF rfl rfl (rfl)) rfl rfl (gv_eqlT rfl (hF.t rfl) (ev_const _ _) (by rw [fit_last]; rfl)) fun a hF => ?_)
  refine wpList_stp (stp_gv hF (wanted_none rfl) rfl rfl (gv_pickT rfl (hF.t rfl) (hF.t rfl)) fun a hF => ?_)
  refine wpList_stp (stp_gv hF (wanted_none rfl) rfl rfl (gv_assign rfl (hF.t rfl)) fun a hF => ?_)
  refine wpList_nil ?_
  refine then_normal (hKq4 _ _ ?_)
  refine wp_ret ?_
  refine ret1 (fn := Try.f8) (t := 0) hF rfl rfl ?_
  exact ⟨rfl, hS.toExt (nw_cons rfl (nw_cons rfl (nw_cons rfl (nw_cons rfl nw_nil))))⟩


end Go.Proofs.Ytfhalnobaeogkaa
