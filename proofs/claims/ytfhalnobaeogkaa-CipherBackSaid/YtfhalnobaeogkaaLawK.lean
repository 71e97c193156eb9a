/- What is proved: CipherBack returns true. -/
import Derived.Test.YtfhalnobaeogkaaProg
import Derived.Test.YtfhalnobaeogkaaFwSep
import Derived.KernelRfl
import Derived.Test.YtfhalnobaeogkaaFwStr
import Derived.Test.YtfhalnobaeogkaaLeaf
import Derived.Test.YtfhalnobaeogkaaCip
import Derived.Test.YtfhalnobaeogkaaCipN
import Derived.Test.YtfhalnobaeogkaaRef
import Derived.Test.YtfhalnobaeogkaaRef2
import Derived.Test.YtfhalnobaeogkaaRefB
import Derived.Test.YtfhalnobaeogkaaRefY
import Derived.Test.YtfhalnobaeogkaaFit
import Derived.Test.YtfhalnobaeogkaaSame
import Derived.Test.YtfhalnobaeogkaaSame2
import Derived.Test.YtfhalnobaeogkaaLawB
import Derived.Test.YtfhalnobaeogkaaLawW
import Derived.Test.YtfhalnobaeogkaaLawO
import Derived.Test.YtfhalnobaeogkaaFwTok
set_option linter.unusedVariables false
set_option linter.unusedSimpArgs false
namespace Go.Proofs.Ytfhalnobaeogkaa
open Go Go.RowKit Go.Fw




/-- A row of the call's own as a slice that is read through the list. -/
theorem own_open {w0 : World} {T : List Ent} {nw : Bool} {ob : Option Nat} {t : TypeId} {l : List UInt8} {pad : List Value} {n : Nat} (he : ⟨nw, ob, blk t (l.map vB ++ pad)⟩ ∈ T) (hob : ob = none → l = [] ∧ pad = []) (hl : l.length = n) (hc : n + pad.length ≤ 9223372036854775807) :
    ∃ A, ownV ob n (n + pad.length) = .slice A n (n + pad.length) ∧ SRd w0 T (.slice A n (n + pad.length)) (l.map vB) := by
  subst hl
  obtain ⟨A, h1, h2⟩ := ownV_pos (ob := ob) (n := l.length) (c := l.length + pad.length) (hi := l.length) (fun h => by rw [(hob h).1, (hob h).2]; exact ⟨rfl, rfl⟩) (by omega)
  exact ⟨A, h1, by rw [← h1]; exact own_srd he hob hc⟩
theorem back_eq (kl cl bl : List UInt8) (n : Nat) : turned kl cl 0 ((turned kl cl 0 bl).take n) ++ turned kl cl ((turned kl cl 0 bl).take n).length ((turned kl cl 0 bl).drop n) = bl := by
  have := turned_app kl cl 0 ((turned kl cl 0 bl).take n) ((turned kl cl 0 bl).drop n)
  rw [List.take_append_drop, turned_back, Nat.zero_add] at this
  exact this.symm
theorem back_mod (p : Int) (N : Nat) : ∃ (M : Int) (n : Nat), p.tmod ((N + 1 : Nat) : Int) = M ∧ -((N : Int) + 1) < M ∧ M < (N : Int) + 1 ∧ n ≤ N ∧ (M + (N : Int) + 1).tmod ((N + 1 : Nat) : Int) = (n : Int) := by
  have h1 : p.tmod ((N + 1 : Nat) : Int) < ((N + 1 : Nat) : Int) := Int.tmod_lt_of_pos p (by omega)
  have h2 := Int.lt_tmod_of_pos p (b := ((N + 1 : Nat) : Int)) (by omega)
  obtain ⟨M, hM⟩ : ∃ M, p.tmod ((N + 1 : Nat) : Int) = M := ⟨_, rfl⟩
  rw [hM] at h1 h2
  have h3 : (M + (N : Int) + 1).tmod ((N + 1 : Nat) : Int) = (M + (N : Int) + 1) % ((N + 1 : Nat) : Int) := Int.tmod_eq_emod_of_nonneg (by omega)
  have h4 := Int.emod_nonneg (M + (N : Int) + 1) (b := ((N + 1 : Nat) : Int)) (by omega)
  have h5 := Int.emod_lt_of_pos (M + (N : Int) + 1) (b := ((N + 1 : Nat) : Int)) (by omega)
  exact ⟨M, ((M + (N : Int) + 1) % ((N + 1 : Nat) : Int)).toNat, hM, by omega, by omega, by omega, by rw [h3]; omega⟩
/-- What the first turned bytes are: with the stream behind them, then read alone. -/
def bk1 (w00 : World) (t : Nat) (kl cl a : List UInt8) (T : List Ent) : Nat → Value → World → Prop
  | 0 => fun _ _ => False
  | 1 => fun v w => ∃ y yp yl yk yB, v = ownV y a.length (a.length + yp.length) ∧ (y = none → a = [] ∧ yp = []) ∧ a.length + yp.length ≤ 9223372036854775807 ∧
      St w00 w (⟨true, y, blk 5 ((turned kl cl 0 a).map vB ++ yp)⟩ :: ⟨true, some t, strm (keys kl) (kst (keys kl) (cl, []) a.length).1 yl⟩ :: ⟨true, yk, blkB 23 yB⟩ :: T) ∧ SRd w00 [⟨true, yk, blkB 23 yB⟩] yl ((kst (keys kl) (cl, []) a.length).2.map vB)
  | _ => fun v w => Rd w v ((turned kl cl 0 a).map vB)
def bk2 (l : List UInt8) : Nat → Value → World → Prop
  | 0 => fun _ _ => False
  | 1 => fun _ _ => False
  | _ => fun v w => Rd w v (l.map vB)
theorem bk1_lasts {w00 : World} {t : Nat} {kl cl a : List UInt8} {T : List Ent} : ∀ s, Lasts (bk1 w00 t kl cl a T s)
  | 0 => fun _ _ _ h _ => h
  | 1 => fun _ _ _ ⟨y, yp, yl, yk, yB, h1, h2, h3, h4, h5⟩ hx => ⟨y, yp, yl, yk, yB, h1, h2, h3, h4.ext hx, h5⟩
  | _ + 2 => fun _ _ _ h hx => Rd.ext h hx
theorem bk2_lasts {l : List UInt8} : ∀ s, Lasts (bk2 l s)
  | 0 => fun _ _ _ h _ => h
  | 1 => fun _ _ _ h _ => h
  | _ + 2 => fun _ _ _ h hx => Rd.ext h hx
theorem bk1_rd {w00 w : World} {t : Nat} {kl cl a : List UInt8} {T : List Ent} {v : Value} (hT : ∀ e ∈ T, e.nw = true) : ∀ {s}, bk1 w00 t kl cl a T s v w → Rd w v ((turned kl cl 0 a).map vB)
  | 0, h => h.elim
  | 1, ⟨y, yp, yl, yk, yB, h1, h2, h3, h4, h5⟩ => by
    rw [h1]
    exact rd_own h4 List.mem_cons_self (nw_cons rfl (nw_cons rfl (nw_cons rfl hT))) (fun h => ⟨List.length_eq_zero_iff.1 (by rw [turned_len, (h2 h).1]; rfl), (h2 h).2⟩) (turned_len _ _ _ _) h3
  | _ + 2, h => h
theorem bk2_rd {w : World} {l : List UInt8} {v : Value} : ∀ {s}, bk2 l s v w → Rd w v (l.map vB)
  | 0, h => h.elim
  | 1, h => h.elim
  | _ + 2, h => h


theorem back_true {kv cv bv : Value} {kl cl bl : List UInt8} {p : Int} {w0 : World} (hkv : Rd w0 kv (kl.map vB)) (hcv : Rd w0 cv (cl.map vB)) (hbv : Rd w0 bv (bl.map vB)) (hp : -9223372036854775808 ≤ p ∧ p ≤ 9223372036854775807) :
    Calls Try.prog 5 #[.agg #[kv, cv], bv, .int .i64 p] w0 fun e w' => e = .returned (.bool true) ∧ Ext w0 w' := by
  obtain ⟨Ak, ck, rfl, hk1, hk2, hkc⟩ := hkv.isB
  obtain ⟨Ac, cc, rfl, hc1, hc2, hcc⟩ := hcv.isB
  obtain ⟨Ab, cb, rfl, hb1, hb2, hbc⟩ := hbv.isB
  clear hkc hcc hbc
  refine calls_start 85 Try.func5 rfl Try.ntmps5 rfl fun a hF => ?_
  have hS := St.refl w0
  refine wp_seq_k fun Kq1 hKq1 => ?_
  -- region 0 (law.go:57)
  refine wp_region_lit ?_
  refine wpList_stp (stp_box hF (wanted_none rfl) rfl rfl rfl (hF.t rfl) rfl hS fun bx a w hF hS => ?_)
  refine wpList_stp (stp_gv hF (wanted_none rfl) rfl rfl (gv_assign rfl (ev_const _ _)) fun a hF => ?_)
  refine wpList_nil ?_
  refine then_normal (hKq1 _ _ ?_)
  refine wp_seq_k fun Kq2 hKq2 => ?_
  -- region 1 (law.go:58)
  refine Fw.wp_region_draw (by kernel_rfl) fun w hx => ?_
  replace hS := hS.ext hx
  clear hx
  refine run_head0 (n := 6) _ hF (by kernel_rfl) rfl ?_
  refine dw_gv hF rfl (wanted_none rfl) rfl rfl (fun w hx => gv_indexArr (q := 0) rfl Try.underlying37 Try.sz22 (hF.t rfl) rfl (by omega)) fun a hF => ?_
  refine dw_gv hF rfl (wanted_none rfl) rfl rfl (fun w hx => gv_load rfl Try.underlying22 rfl (hF.t rfl) (cell_ix (j := 0) ((hS.ext hx).cell (k := 0) rfl (rfl)) (by omega))) fun a hF => ?_
  refine dw_gv hF rfl (wanted_none rfl) rfl rfl (fun w hx => gv_indexArr (q := 1) rfl Try.underlying37 Try.sz22 (hF.t rfl) rfl (by omega)) fun a hF => ?_
  refine dw_gv hF rfl (wanted_none rfl) rfl rfl (fun w hx => gv_load rfl Try.underlying22 rfl (hF.t rfl) (cell_ix (j := 1) ((hS.ext hx).cell (k := 0) rfl (rfl)) (by omega))) fun a hF => ?_
  refine dw_gv hF rfl (wanted_none rfl) rfl rfl (fun w hx => gv_assign rfl (hF.t rfl)) fun a hF => ?_
  refine dw_gv hF rfl (wanted_none rfl) rfl rfl (fun w hx => gv_assign rfl (hF.t rfl)) fun a hF => ?_
  refine dw_nil fun a w hA hx => ?_
  replace hF := hA _ hF
  replace hS := hS.ext hx
  clear hA hx
  refine run_done (by decide) ?_
  refine then_normal (hKq2 _ _ ?_)
  refine wp_seq_k fun Kq3 hKq3 => ?_
  refine wp_seq_k fun Kq4 hKq4 => ?_
  -- region 2 (law.go:59)
  refine wp_region_lit ?_
  refine wpList_stp (stp_call hF (wanted_none rfl) rfl rfl Try.ok8 rfl Evs.nil (fit_ok) fun e w h => ?_)
  obtain ⟨rfl, hx⟩ := h
  refine ⟨_, rfl, fun a hF => ?_⟩
  replace hS := hS.ext hx
  clear hx
  refine wpList_stp (stp_gv hF (wanted_none rfl) rfl rfl (gv_not rfl (hF.t rfl)) fun a hF => ?_)
  refine wpList_nil ?_
  refine then_normal (hKq4 _ _ ?_)
  refine wp_cond_false (hF.t rfl) ?_
  refine wp_skip ?_
  refine then_normal (hKq3 _ _ ?_)
  refine wp_seq_k fun Kq5 hKq5 => ?_
  refine wp_seq_k fun Kq6 hKq6 => ?_
  -- region 4 (law.go:62)
  refine wp_region_lit ?_
  refine wpList_stp (stp_gv hF (wanted_none rfl) rfl rfl (gv_move rfl (hF.t rfl)) fun a hF => ?_)
  refine wpList_stp (stp_gv hF (wanted_none rfl) rfl rfl (gv_len rfl Try.underlying22 (hF.t rfl)) fun a hF => ?_)
  refine wpList_stp (stp_gv hF (wanted_none rfl) rfl rfl (gv_neq rfl (hF.t rfl) (ev_const _ _)) fun a hF => ?_)
  refine wpList_stp (stp_gv hF (wanted_none rfl) rfl rfl (gv_move rfl (hF.t rfl)) fun a hF => ?_)
  refine wpList_stp (stp_gvG' hF rfl rfl rfl rfl rfl (fun hg => gv_move rfl (hF.t rfl)) fun a hF => ?_)
  refine wpList_stp (stp_gvG' hF rfl rfl rfl rfl rfl (fun hg => gv_len rfl Try.underlying22 ((hF.t rfl).trans (if_neg hg))) fun a hF => ?_)
  refine wpList_stp (stp_gvG' hF rfl rfl rfl rfl rfl (fun hg => gv_neq rfl ((hF.t rfl).trans (if_neg hg)) (ev_const _ _)) fun a hF => ?_)
  refine wpList_stp (stp_gv hF (wanted_none rfl) rfl rfl (gv_pickOr rfl (hF.t rfl) (ev_const _ _) (hF.t rfl)) fun a hF => ?_)
  refine wpList_stp (stp_gv hF (wanted_none rfl) rfl rfl (gv_move rfl (hF.t rfl)) fun a hF => ?_)
  refine wpList_stp (stp_gvG' hF rfl rfl rfl rfl rfl (fun hg => gv_move rfl (hF.t rfl)) fun a hF => ?_)
  refine wpList_stp (stp_gvG' hF rfl rfl rfl rfl rfl (fun hg => gv_len rfl Try.underlying22 ((hF.t rfl).trans (if_neg hg))) fun a hF => ?_)
  refine wpList_stp (stp_gvG' hF rfl rfl rfl rfl rfl (fun hg => gv_gtr rfl ((hF.t rfl).trans (if_neg hg)) (ev_const _ _)) fun a hF => ?_)
  refine wpList_stp (stp_gv hF (wanted_none rfl) rfl rfl (gv_pickOr rfl (hF.t rfl) (ev_const _ _) (hF.t rfl)) fun a hF => ?_)
  refine wpList_nil ?_
  refine then_normal (hKq6 _ _ ?_)
  refine cond_dec (hF.t rfl) (fun h33 => ?_) (fun h33 => ?_)
  ·
    refine wp_seq_k fun Kq7 hKq7 => ?_
    -- region 5 (law.go:63)
    refine wp_region_lit ?_
    refine wpList_stp (stp_gv hF (wanted_none rfl) rfl rfl (gv_assign rfl (ev_const _ _)) fun a hF => ?_)
    refine wpList_nil ?_
    refine then_normal (hKq7 _ _ ?_)
    refine wp_ret ?_
    refine then_ret ?_
    refine ret1 (fn := Try.f5) (t := 6) hF rfl rfl ?_
    exact ⟨rfl, hS.toExt (nw_cons rfl nw_nil)⟩
  ·
    have hlk : kl.length = 16 := by omega
    have hlc : cl.length = 16 := by omega
    have hlb : bl.length ≤ 500 := by omega
    refine wp_skip ?_
    refine then_normal (hKq5 _ _ ?_)
    refine wp_seq_k fun Kq8 hKq8 => ?_
    -- region 6 (law.go:65)
    refine wp_region_lit ?_
    refine wpList_stp (stp_gv hF (wanted_none rfl) rfl rfl (gv_move rfl (hF.t rfl)) fun a hF => ?_)
    refine wpList_stp (stp_gv hF (wanted_none rfl) rfl rfl (gv_move rfl (hF.t rfl)) fun a hF => ?_)
    refine wpList_stp (stp_call hF (wanted_none rfl) rfl rfl Try.ok9 rfl (Evs.cons (hF.t rfl) (Evs.cons (hF.t rfl) Evs.nil)) (new_st (hkv.ext (hS.toExt (nw_cons rfl nw_nil))) (hcv.ext (hS.toExt (nw_cons rfl nw_nil))) hlk hlc) fun e w h => ?_)
    obtain ⟨s, rfl, hN⟩ := h
    refine ⟨_, rfl, fun a hF => ?_⟩
    replace hS := hS.join hN (nw_cons rfl (nw_cons rfl nw_nil))
    simp only [List.cons_append, List.nil_append] at hS
    clear hN
    refine wpList_stp (stp_gv hF (wanted_none rfl) rfl rfl (gv_move rfl (hF.t rfl)) fun a hF => ?_)
    refine wpList_stp (stp_gv hF (wanted_none rfl) rfl rfl (gv_extract rfl (hF.t rfl) rfl) fun a hF => ?_)
    refine wpList_stp (stp_gv hF (wanted_none rfl) rfl rfl (gv_extract rfl (hF.t rfl) rfl) fun a hF => ?_)
    refine wpList_stp (stp_gv hF (wanted_none rfl) rfl rfl (gv_assign rfl (hF.t rfl)) fun a hF => ?_)
    refine wpList_stp (stp_gv hF (wanted_none rfl) rfl rfl (gv_assign rfl (hF.t rfl)) fun a hF => ?_)
    refine wpList_nil ?_
    refine then_normal (hKq8 _ _ ?_)
    refine wp_seq_k fun Kq9 hKq9 => ?_
    -- region 7 (law.go:66)
    refine wp_region_lit ?_
    refine wpList_stp (stp_gv hF (wanted_none rfl) rfl rfl (gv_move rfl (hF.t rfl)) fun a hF => ?_)
    refine wpList_stp (stp_gv hF (wanted_none rfl) rfl rfl (gv_move rfl (hF.t rfl)) fun a hF => ?_)
    refine wpList_stp (stp_call hF (wanted_none rfl) rfl rfl Try.ok9 rfl (Evs.cons (hF.t rfl) (Evs.cons (hF.t rfl) Evs.nil)) (new_st (hkv.ext (hS.toExt (nw_cons rfl (nw_cons rfl (nw_cons rfl nw_nil))))) (hcv.ext (hS.toExt (nw_cons rfl (nw_cons rfl (nw_cons rfl nw_nil))))) hlk hlc) fun e w h => ?_)
    obtain ⟨t, rfl, hN⟩ := h
    refine ⟨_, rfl, fun a hF => ?_⟩
    replace hS := hS.join hN (nw_cons rfl (nw_cons rfl nw_nil))
    simp only [List.cons_append, List.nil_append] at hS
    clear hN
    refine wpList_stp (stp_gv hF (wanted_none rfl) rfl rfl (gv_move rfl (hF.t rfl)) fun a hF => ?_)
    refine wpList_stp (stp_gv hF (wanted_none rfl) rfl rfl (gv_extract rfl (hF.t rfl) rfl) fun a hF => ?_)
    refine wpList_stp (stp_gv hF (wanted_none rfl) rfl rfl (gv_extract rfl (hF.t rfl) rfl) fun a hF => ?_)
    refine wpList_stp (stp_gv hF (wanted_none rfl) rfl rfl (gv_assign rfl (hF.t rfl)) fun a hF => ?_)
    refine wpList_stp (stp_gv hF (wanted_none rfl) rfl rfl (gv_assign rfl (hF.t rfl)) fun a hF => ?_)
    refine wpList_nil ?_
    refine then_normal (hKq9 _ _ ?_)
    refine wp_seq_k fun Kq10 hKq10 => ?_
    -- region 8 (law.go:67)
    refine wp_region_lit ?_
    refine wpList_stp (stp_gv hF (wanted_none rfl) rfl rfl (gv_move rfl (hF.t rfl)) fun a hF => ?_)
    refine wpList_stp (stp_gv hF (wanted_none rfl) rfl rfl (gv_move rfl (hF.t rfl)) fun a hF => ?_)
    replace hS := hS.move (k := 3) rfl
    simp only [List.eraseIdx_cons_succ, List.eraseIdx_cons_zero] at hS
    replace hS := hS.move (k := 3) rfl
    simp only [List.eraseIdx_cons_succ, List.eraseIdx_cons_zero] at hS
    refine wpList_stp (stp_call hF (wanted_none rfl) rfl rfl Try.ok11 rfl (Evs.cons (hF.t rfl) (Evs.cons (hF.t rfl) Evs.nil)) (turn_ok (nw_cons rfl (nw_cons rfl (nw_cons rfl nw_nil))) hS nil_left (bl := bl) (SRd.old hbv) (keys_len kl) hlc (by omega)) fun e w h => ?_)
    obtain ⟨x, xp, xl, xk, xB, rfl, xo, xc, hS, xL⟩ := h
    refine ⟨_, rfl, fun a hF => ?_⟩
    rw [outT_turned0 hlc] at hS
    refine wpList_stp (stp_gv hF (wanted_none rfl) rfl rfl (gv_assign rfl (hF.t rfl)) fun a hF => ?_)
    refine wpList_nil ?_
    refine then_normal (hKq10 _ _ ?_)
    refine wp_seq_k fun Kq11 hKq11 => ?_
    obtain ⟨M, n, hM, hM1, hM2, hn, hMn⟩ := back_mod p bl.length
    obtain ⟨Ax, hAx, hxS⟩ := own_open (w0 := w0) (T := [⟨true, x, blk 5 ((turned kl cl 0 bl).map vB ++ xp)⟩]) List.mem_cons_self (fun h => ⟨List.length_eq_zero_iff.1 (by rw [turned_len, (xo h).1]; rfl), (xo h).2⟩) (turned_len _ _ _ _) xc
    rw [hAx] at hF
    clear xo xL hAx
    -- region 9 (law.go:68)
    refine wp_region_lit ?_
    refine wpList_stp (stp_gv hF (wanted_none rfl) rfl rfl (gv_move rfl (hF.t rfl)) fun a hF => ?_)
    refine wpList_stp (stp_gv hF (wanted_none rfl) rfl rfl (gv_move rfl (hF.t rfl)) fun a hF => ?_)
    refine wpList_stp (stp_gv hF (wanted_none rfl) rfl rfl (gv_len rfl Try.underlying22 (hF.t rfl)) fun a hF => ?_)
    refine wpList_stp (stp_gv hF (wanted_none rfl) rfl rfl (gv_nadd (n := 1) rfl (hF.t rfl) rfl (by omega)) fun a hF => ?_)
    refine wpList_stp (stp_gv hF (wanted_none rfl) rfl rfl (gv_rem rfl (hF.t rfl) (hF.t rfl) (by omega)) fun a hF => ?_)
    rw [hM] at hF
    refine wpList_stp (stp_gv hF (wanted_none rfl) rfl rfl (gv_move rfl (hF.t rfl)) fun a hF => ?_)
    refine wpList_stp (stp_gv hF (wanted_none rfl) rfl rfl (gv_len rfl Try.underlying22 (hF.t rfl)) fun a hF => ?_)
    refine wpList_stp (stp_gv hF (wanted_none rfl) rfl rfl (gv_add rfl (hF.t rfl) (hF.t rfl) (by omega) (by omega)) fun a hF => ?_)
    refine wpList_stp (stp_gv hF (wanted_none rfl) rfl rfl (gv_add rfl (hF.t rfl) (ev_const _ _) (by omega) (by omega)) fun a hF => ?_)
    refine wpList_stp (stp_gv hF (wanted_none rfl) rfl rfl (gv_move rfl (hF.t rfl)) fun a hF => ?_)
    refine wpList_stp (stp_gv hF (wanted_none rfl) rfl rfl (gv_len rfl Try.underlying22 (hF.t rfl)) fun a hF => ?_)
    refine wpList_stp (stp_gv hF (wanted_none rfl) rfl rfl (gv_nadd (n := 1) rfl (hF.t rfl) rfl (by omega)) fun a hF => ?_)
    refine wpList_stp (stp_gv hF (wanted_none rfl) rfl rfl (gv_rem rfl (hF.t rfl) (hF.t rfl) (by omega)) fun a hF => ?_)
    rw [hMn] at hF
    refine wpList_stp (stp_gv hF (wanted_none rfl) rfl rfl (gv_assign rfl (hF.t rfl)) fun a hF => ?_)
    refine wpList_nil ?_
    refine then_normal (hKq11 _ _ ?_)
    refine wp_seq_k fun Kq12 hKq12 => ?_
    -- region 10 (law.go:69)
    refine Fw.wp_region_draw (by kernel_rfl) fun w hx => ?_
    replace hS := hS.ext hx
    replace hS := hS.move (k := 4) rfl
    simp only [List.eraseIdx_cons_succ, List.eraseIdx_cons_zero] at hS
    replace hS := hS.move (k := 4) rfl
    simp only [List.eraseIdx_cons_succ, List.eraseIdx_cons_zero] at hS
    obtain ⟨T, hTn, hTx, hS⟩ : ∃ T : List Ent, (∀ e ∈ T, e.nw = true) ∧ (⟨true, x, blk 5 ((turned kl cl 0 bl).map vB ++ xp)⟩ : Ent) ∈ T ∧ St w0 w (⟨true, some t, strm (keys kl) cl (.slice none 0 0)⟩ :: nokb :: T) := ⟨_, (nw_cons rfl (nw_cons rfl (nw_cons rfl (nw_cons rfl nw_nil)))), List.mem_cons_self, hS⟩
    replace hxS := hxS.mono (T' := T) (fun e he => by obtain rfl := List.mem_singleton.1 he; exact hTx)
    have hAl : ((turned kl cl 0 bl).take n).length ≤ 500 := by simp [turned_len]; omega
    have hDl : ((turned kl cl 0 bl).drop n).length ≤ 500 := by simp [turned_len]; omega
    have hnA : ((turned kl cl 0 bl).take n).length = n := by simp [turned_len]; omega
    have hnD : ((turned kl cl 0 bl).drop n).length = bl.length - n := by simp [turned_len]
    have hE := back_eq kl cl bl n
    clear hM hMn hM1 hM2
    clear hx
    refine run_headT (n := 24) _ [10, 16] (fun s w => s = 0 → St w0 w (⟨true, some t, strm (keys kl) cl (.slice none 0 0)⟩ :: nokb :: T)) [(10, 72, bk1 w0 t kl cl ((turned kl cl 0 bl).take n) T), (11, 73, FtE (sV (turned kl cl 0 ((turned kl cl 0 bl).take n)))), (16, 78, bk2 (turned kl cl ((turned kl cl 0 bl).take n).length ((turned kl cl 0 bl).drop n))), (17, 79, FtE (sV (turned kl cl ((turned kl cl 0 bl).take n).length ((turned kl cl 0 bl).drop n)))), (18, 80, FtE (sV ((turned kl cl 0 ((turned kl cl 0 bl).take n)) ++ (turned kl cl ((turned kl cl 0 bl).take n).length ((turned kl cl 0 bl).drop n))))), (21, 83, FtE (.bool true)), (22, 84, FtE (.bool true)), (23, 6, FtE (.bool true))] hF (hS.toExt (nw_cons rfl (nw_cons rfl hTn))) (fun _ => hS) (fun _ _ _ h hx hs => (h hs).ext hx) (by kernel_rfl) rfl (fa_cons rfl (fa_cons rfl (fa_cons rfl (fa_cons rfl (fa_cons rfl (fa_cons rfl (fa_cons rfl (fa_cons rfl fa_nil)))))))) (fa_cons bk1_lasts (fa_cons (FtE.lasts _) (fa_cons bk2_lasts (fa_cons (FtE.lasts _) (fa_cons (FtE.lasts _) (fa_cons (FtE.lasts _) (fa_cons (FtE.lasts _) (fa_cons (FtE.lasts _) fa_nil)))))))) (fa_cons ⟨Nat.zero_le _, Nat.le_of_ble_eq_true rfl⟩ (fa_cons ⟨Nat.zero_le _, Nat.le_of_ble_eq_true rfl⟩ (fa_cons ⟨Nat.zero_le _, Nat.le_of_ble_eq_true rfl⟩ (fa_cons ⟨Nat.zero_le _, Nat.le_of_ble_eq_true rfl⟩ (fa_cons ⟨Nat.zero_le _, Nat.le_of_ble_eq_true rfl⟩ (fa_cons ⟨Nat.zero_le _, Nat.le_of_ble_eq_true rfl⟩ (fa_cons ⟨Nat.zero_le _, Nat.le_of_ble_eq_true rfl⟩ (fa_cons ⟨Nat.zero_le _, Nat.le_of_ble_eq_true rfl⟩ fa_nil)))))))) rfl (by kernel_rfl) ?_
    refine dw_gv hF rfl (wanted_none rfl) rfl rfl (fun w hx => gv_move rfl (hF.t rfl)) fun a hF => ?_
    refine dw_gv hF rfl (wanted_none rfl) rfl rfl (fun w hx => gv_len rfl Try.underlying22 (hF.t rfl)) fun a hF => ?_
    refine dw_gv hF rfl (wanted_none rfl) rfl rfl (fun w hx => gv_move rfl (hF.t rfl)) fun a hF => ?_
    refine dw_gv hF rfl (wanted_none rfl) rfl rfl (fun w hx => gv_len rfl Try.underlying22 (hF.t rfl)) fun a hF => ?_
    refine dw_gv hF rfl (wanted_none rfl) rfl rfl (fun w hx => gv_eqlT rfl (hF.t rfl) (hF.t rfl) (rfl)) fun a hF => ?_
    refine dw_gv hF rfl (wanted_none rfl) rfl rfl (fun w hx => gv_move rfl (hF.t rfl)) fun a hF => ?_
    refine dw_gv hF rfl (wanted_of hF rfl rfl (rfl)) rfl rfl (fun w hx => gv_move rfl (hF.t rfl)) fun a hF => ?_
    refine dw_gv hF rfl (wanted_of hF rfl rfl (rfl)) rfl rfl (fun w hx => gv_move rfl (hF.t rfl)) fun a hF => ?_
    refine dw_gv hF rfl (wanted_of hF rfl rfl (rfl)) rfl rfl (fun w hx => gv_move rfl (hF.t rfl)) fun a hF => ?_
    refine dw_gv hF rfl (wanted_of hF rfl rfl (rfl)) rfl rfl (fun w hx => gv_sliceHi rfl Try.underlying22 Try.sz5 (hF.t rfl) (hF.t rfl) (by omega)) fun a hF => ?_
    refine dw_fl rfl ?_
    refine dw_fl rfl ?_
    refine dw_gv hF rfl (wanted_of hF rfl rfl (rfl)) rfl rfl (fun w hx => gv_move rfl (hF.t rfl)) fun a hF => ?_
    refine dw_gv hF rfl (wanted_of hF rfl rfl (rfl)) rfl rfl (fun w hx => gv_move rfl (hF.t rfl)) fun a hF => ?_
    refine dw_gv hF rfl (wanted_of hF rfl rfl (rfl)) rfl rfl (fun w hx => gv_move rfl (hF.t rfl)) fun a hF => ?_
    refine dw_gv hF rfl (wanted_of hF rfl rfl (rfl)) rfl rfl (fun w hx => gv_sliceLo rfl Try.underlying22 Try.sz5 (hF.t rfl) (hF.t rfl) (by omega)) fun a hF => ?_
    refine dw_fl rfl ?_
    refine dw_fl rfl ?_
    refine dw_fl rfl ?_
    refine dw_gv hF rfl (wanted_of hF rfl rfl (rfl)) rfl rfl (fun w hx => gv_move rfl (hF.t rfl)) fun a hF => ?_
    refine dw_gv hF rfl (wanted_of hF rfl rfl (rfl)) rfl rfl (fun w hx => gv_convStr rfl Try.underlying22 Try.underlying5 Try.underlying9 (hF.t rfl) (hbv.ext hx)) fun a hF => ?_
    refine dw_fl rfl ?_
    refine dw_fl rfl ?_
    refine dw_fl rfl ?_
    refine dw_nil ⟨(fa_cons ?_ (fa_cons ?_ (fa_cons ?_ (fa_cons ?_ (fa_cons ?_ (fa_cons ?_ (fa_cons ?_ (fa_cons ?_ fa_nil)))))))), fun a w hx hA hR hP => ?_⟩
    · intro s_ a w hsl hx hA hdp hP
      replace hF := hA _ hF
      refine ⟨_, rfl, .inr ⟨0, rfl, fun hs => ?_⟩⟩
      subst hs
      refine tx_call (wanted_of hF rfl rfl (rfl)) Try.ok11 rfl (Evs.cons (hF.t rfl) (Evs.cons (hF.t rfl) Evs.nil)) ((turn_ok (bl := ((turned kl cl 0 bl).take n)) hTn (hP rfl) nil_left (by rw [List.map_take]; exact hxS.cutHi hn) (keys_len kl) hlc (by omega)).mono fun e w' h => ?_)
      obtain ⟨y, yp, yl, yk, yB, he, yo, yc, hS1, yL⟩ := h
      rw [outT_turned0 hlc] at hS1
      exact ⟨_, he, hS1.toExt (nw_cons rfl (nw_cons rfl (nw_cons rfl hTn))), (fun h => by cases h), ⟨y, yp, yl, yk, yB, rfl, yo, yc, hS1, yL⟩, (fa_cons (fun h => h.elim) (fa_cons id (fa_cons (fun h => h.elim) (fa_cons id (fa_cons id (fa_cons id (fa_cons id (fa_cons id fa_nil))))))))⟩
    · intro s_ a w hsl hx hA hdp hP
      replace hF := hA _ hF
      exact ⟨_, rfl, .inl ⟨show (11 : Nat) ∉ [10, 16] from by decide, sx_gv (wanted_of hF rfl rfl (rfl)) (gv_convStr rfl Try.underlying22 Try.underlying5 Try.underlying9 (hF.t rfl) (bk1_rd hTn (hdp _ (List.mem_of_getElem? (i := 0) rfl) (by kernel_rfl)))) rfl⟩⟩
    · intro s_ a w hsl hx hA hdp hP
      replace hF := hA _ hF
      refine ⟨_, rfl, .inr ⟨1, rfl, fun hs => ?_⟩⟩
      subst hs
      obtain ⟨y, yp, yl, yk, yB, hv, yo, yc, hS1, yL⟩ := (hdp _ (List.mem_of_getElem? (i := 0) rfl) (by kernel_rfl))
      refine tx_call (wanted_of hF rfl rfl (rfl)) Try.ok11 rfl (Evs.cons (hF.t rfl) (Evs.cons (hF.t rfl) Evs.nil)) ((turn_ok (bl := ((turned kl cl 0 bl).drop n)) (nw_cons rfl hTn) (St.rot hS1) yL (by rw [List.map_drop]; exact (hxS.cutLo hn).mono fun e he => List.mem_cons_of_mem _ he) (keys_len kl) (kst_len hlc _) (by omega)).mono fun e w' h => ?_)
      obtain ⟨z, zp, zl, zk, zB, he, zo, zc, hS2, zL⟩ := h
      rw [outT_turned hlc] at hS2
      refine ⟨_, he, hS2.toExt (nw_cons rfl (nw_cons rfl (nw_cons rfl (nw_cons rfl hTn)))), (fun h => by cases h), ?_, (fa_cons (fun _ => ?_) (fa_cons id (fa_cons (fun h => h.elim) (fa_cons id (fa_cons id (fa_cons id (fa_cons id (fa_cons id fa_nil))))))))⟩
      · exact rd_own (l := (turned kl cl ((turned kl cl 0 bl).take n).length ((turned kl cl 0 bl).drop n))) hS2 List.mem_cons_self (nw_cons rfl (nw_cons rfl (nw_cons rfl (nw_cons rfl hTn)))) (fun h => ⟨List.length_eq_zero_iff.1 (by rw [turned_len, (zo h).1]; rfl), (zo h).2⟩) (turned_len _ _ _ _) zc
      · show Rd w' _ _
        rw [hv]
        exact rd_own (l := (turned kl cl 0 ((turned kl cl 0 bl).take n))) hS2 (List.mem_of_getElem? (i := 3) rfl) (nw_cons rfl (nw_cons rfl (nw_cons rfl (nw_cons rfl hTn)))) (fun h => ⟨List.length_eq_zero_iff.1 (by rw [turned_len, (yo h).1]; rfl), (yo h).2⟩) (turned_len _ _ _ _) yc
    · intro s_ a w hsl hx hA hdp hP
      replace hF := hA _ hF
      exact ⟨_, rfl, .inl ⟨show (17 : Nat) ∉ [10, 16] from by decide, sx_gv (wanted_of hF rfl rfl (rfl)) (gv_convStr rfl Try.underlying22 Try.underlying5 Try.underlying9 (hF.t rfl) (bk2_rd (hdp _ (List.mem_of_getElem? (i := 2) rfl) (by kernel_rfl)))) rfl⟩⟩
    · intro s_ a w hsl hx hA hdp hP
      replace hF := hA _ hF
      exact ⟨_, rfl, .inl ⟨show (18 : Nat) ∉ [10, 16] from by decide, sx_gv (wanted_of hF rfl rfl (rfl)) (gv_strAdd rfl ((hF.t rfl).trans (hdp _ (List.mem_of_getElem? (i := 1) rfl) (by kernel_rfl))) ((hF.t rfl).trans (hdp _ (List.mem_of_getElem? (i := 3) rfl) (by kernel_rfl))) (by rw [turned_len, turned_len]; omega)) rfl⟩⟩
    · intro s_ a w hsl hx hA hdp hP
      replace hF := hA _ hF
      exact ⟨_, rfl, .inl ⟨show (21 : Nat) ∉ [10, 16] from by decide, sx_gv (wanted_of hF rfl rfl (rfl)) (gv_strEqlT rfl ((hF.t rfl).trans (hdp _ (List.mem_of_getElem? (i := 4) rfl) (by kernel_rfl))) (hF.t rfl) hE) rfl⟩⟩
    · intro s_ a w hsl hx hA hdp hP
      replace hF := hA _ hF
      exact ⟨_, rfl, .inl ⟨show (22 : Nat) ∉ [10, 16] from by decide, sx_gv (wanted_none rfl) (gv_pickT rfl (hF.t rfl) ((hF.t rfl).trans (hdp _ (List.mem_of_getElem? (i := 5) rfl) (by kernel_rfl)))) rfl⟩⟩
    · intro s_ a w hsl hx hA hdp hP
      replace hF := hA _ hF
      exact ⟨_, rfl, .inl ⟨show (23 : Nat) ∉ [10, 16] from by decide, sx_gv (wanted_none rfl) (gv_assign rfl ((hF.t rfl).trans (hdp _ (List.mem_of_getElem? (i := 6) rfl) (by kernel_rfl)))) rfl⟩⟩
    replace hF := hA _ hF
    clear hA
    refine run_done (by decide) ?_
    refine then_normal (hKq12 _ _ ?_)
    refine wp_ret ?_
    refine ret1 (fn := Try.f5) (t := 6) hF rfl rfl ?_
    exact ⟨by rw [hR _ (List.mem_of_getElem? (i := 7) rfl)], hx⟩


end Go.Proofs.Ytfhalnobaeogkaa
