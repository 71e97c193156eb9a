/- What is proved: CipherOwn returns true. -/
import Derived.Test.YtfhalnobaeogkaaProg
import Derived.Test.YtfhalnobaeogkaaFwSep
import Derived.KernelRfl
import Derived.Test.YtfhalnobaeogkaaFwStr
import Derived.Test.YtfhalnobaeogkaaLeaf
import Derived.Test.YtfhalnobaeogkaaCip
import Derived.Test.YtfhalnobaeogkaaCipN
import Derived.Test.YtfhalnobaeogkaaRef
import Derived.Test.YtfhalnobaeogkaaRef2
import Derived.Test.YtfhalnobaeogkaaRefB
import Derived.Test.YtfhalnobaeogkaaRefY
import Derived.Test.YtfhalnobaeogkaaFit
import Derived.Test.YtfhalnobaeogkaaSame
import Derived.Test.YtfhalnobaeogkaaSame2
import Derived.Test.YtfhalnobaeogkaaLawB
import Derived.Test.YtfhalnobaeogkaaLawW
import Derived.Test.YtfhalnobaeogkaaFwAny
set_option linter.unusedVariables false
set_option linter.unusedSimpArgs false
namespace Go.Proofs.Ytfhalnobaeogkaa
open Go Go.RowKit Go.Fw

theorem Try.ok13 : CallOk Try.prog 13 := ⟨_, Try.func13, by kernel_rfl, by kernel_rfl⟩
theorem Try.ok14 : CallOk Try.prog 14 := ⟨_, Try.func14, by kernel_rfl, by kernel_rfl⟩


theorem own_srd {w0 : World} {T : List Ent} {nw : Bool} {ob : Option Nat} {t : TypeId} {l : List UInt8} {pad : List Value} (he : ⟨nw, ob, blk t (l.map vB ++ pad)⟩ ∈ T) (hob : ob = none → l = [] ∧ pad = []) (hc : l.length + pad.length ≤ 9223372036854775807) : SRd w0 T (ownV ob l.length (l.length + pad.length)) (l.map vB) := by
  have := SRd.own (w0 := w0) he (fun h => ⟨by rw [(hob h).1]; rfl, (hob h).2⟩) (by simpa using hc)
  rwa [List.length_map] at this
theorem own_bad {l l' : List UInt8} (h : l = l') : ¬ l ≠ l' := fun g => g h
theorem last3 (kl cl : List UInt8) (n : Nat) : turned kl cl n [0, 0, 0] = (byts kl cl (n + 3)).drop n := by
  apply ext_getD (by simp [turned_len, byts_len])
  intro i hi
  rw [turned_len] at hi
  have h3 : i < 3 := hi
  rw [turned_at hi, getD_drop, byts_at (by omega)]
  have : ([0, 0, 0] : List UInt8).getD i 0 = 0 := by
    match i, h3 with
    | 0, _ => rfl
    | 1, _ => rfl
    | 2, _ => rfl
  rw [this, UInt8.zero_xor]


set_option maxHeartbeats 2000000 in
theorem own_true {kv cv bv : Value} {kl cl bl : List UInt8} {w0 : World} (hkv : Rd w0 kv (kl.map vB)) (hcv : Rd w0 cv (cl.map vB)) (hbv : Rd w0 bv (bl.map vB)) :
    Calls Try.prog 6 #[kv, cv, bv] w0 fun e w' => e = .returned (.bool true) ∧ Ext w0 w' := by
  obtain ⟨Ak, ck, rfl, hk1, hk2, hkc⟩ := hkv.isB
  obtain ⟨Ac, cc, rfl, hc1, hc2, hcc⟩ := hcv.isB
  obtain ⟨Ab, cb, rfl, hb1, hb2, hbc⟩ := hbv.isB
  clear hkc hcc hbc
  refine calls_start 118 Try.func6 rfl Try.ntmps6 rfl fun a hF => ?_
  have hS := St.refl w0
  refine wp_seq_k fun Kq1 hKq1 => ?_
  -- region 0 (law.go:73)
  refine wp_region_lit ?_
  refine wpList_stp (stp_gv hF (wanted_none rfl) rfl rfl (gv_assign rfl (ev_const _ _)) fun a hF => ?_)
  refine wpList_nil ?_
  refine then_normal (hKq1 _ _ ?_)
  refine wp_seq_k fun Kq2 hKq2 => ?_
  refine wp_seq_k fun Kq3 hKq3 => ?_
  -- region 1 (law.go:74)
  refine wp_region_lit ?_
  refine wpList_stp (stp_call hF (wanted_none rfl) rfl rfl Try.ok8 rfl Evs.nil (fit_ok) fun e w h => ?_)
  obtain ⟨rfl, hx⟩ := h
  refine ⟨_, rfl, fun a hF => ?_⟩
  replace hS := hS.ext hx
  clear hx
  refine wpList_stp (stp_gv hF (wanted_none rfl) rfl rfl (gv_not rfl (hF.t rfl)) fun a hF => ?_)
  refine wpList_nil ?_
  refine then_normal (hKq3 _ _ ?_)
  refine wp_cond_false (hF.t rfl) ?_
  refine wp_skip ?_
  refine then_normal (hKq2 _ _ ?_)
  refine wp_seq_k fun Kq4 hKq4 => ?_
  refine wp_seq_k fun Kq5 hKq5 => ?_
  -- region 3 (law.go:77)
  refine wp_region_lit ?_
  refine wpList_stp (stp_gv hF (wanted_none rfl) rfl rfl (gv_move rfl (hF.t rfl)) fun a hF => ?_)
  refine wpList_stp (stp_gv hF (wanted_none rfl) rfl rfl (gv_len rfl Try.underlying22 (hF.t rfl)) fun a hF => ?_)
  refine wpList_stp (stp_gv hF (wanted_none rfl) rfl rfl (gv_neq rfl (hF.t rfl) (ev_const _ _)) fun a hF => ?_)
  refine wpList_stp (stp_gv hF (wanted_none rfl) rfl rfl (gv_move rfl (hF.t rfl)) fun a hF => ?_)
  refine wpList_stp (stp_gvG' hF rfl rfl rfl rfl rfl (fun hg => gv_move rfl (hF.t rfl)) fun a hF => ?_)
  refine wpList_stp (stp_gvG' hF rfl rfl rfl rfl rfl (fun hg => gv_len rfl Try.underlying22 ((hF.t rfl).trans (if_neg hg))) fun a hF => ?_)
  refine wpList_stp (stp_gvG' hF rfl rfl rfl rfl rfl (fun hg => gv_neq rfl ((hF.t rfl).trans (if_neg hg)) (ev_const _ _)) fun a hF => ?_)
  refine wpList_stp (stp_gv hF (wanted_none rfl) rfl rfl (gv_pickOr rfl (hF.t rfl) (ev_const _ _) (hF.t rfl)) fun a hF => ?_)
  refine wpList_stp (stp_gv hF (wanted_none rfl) rfl rfl (gv_move rfl (hF.t rfl)) fun a hF => ?_)
  refine wpList_stp (stp_gvG' hF rfl rfl rfl rfl rfl (fun hg => gv_move rfl (hF.t rfl)) fun a hF => ?_)
  refine wpList_stp (stp_gvG' hF rfl rfl rfl rfl rfl (fun hg => gv_len rfl Try.underlying22 ((hF.t rfl).trans (if_neg hg))) fun a hF => ?_)
  refine wpList_stp (stp_gvG' hF rfl rfl rfl rfl rfl (fun hg => gv_gtr rfl ((hF.t rfl).trans (if_neg hg)) (ev_const _ _)) fun a hF => ?_)
  refine wpList_stp (stp_gv hF (wanted_none rfl) rfl rfl (gv_pickOr rfl (hF.t rfl) (ev_const _ _) (hF.t rfl)) fun a hF => ?_)
  refine wpList_nil ?_
  refine then_normal (hKq5 _ _ ?_)
  refine cond_dec (hF.t rfl) (fun h31 => ?_) (fun h31 => ?_)
  ·
    refine wp_seq_k fun Kq6 hKq6 => ?_
    -- region 4 (law.go:78)
    refine wp_region_lit ?_
    refine wpList_stp (stp_gv hF (wanted_none rfl) rfl rfl (gv_assign rfl (ev_const _ _)) fun a hF => ?_)
    refine wpList_nil ?_
    refine then_normal (hKq6 _ _ ?_)
    refine wp_ret ?_
    refine then_ret ?_
    refine ret1 (fn := Try.f6) (t := 6) hF rfl rfl ?_
    exact ⟨rfl, hS.toExt nw_nil⟩
  ·
    have hlk : kl.length = 16 := by omega
    have hlc : cl.length = 16 := by omega
    have hlb : bl.length ≤ 300 := by omega
    simp only [hlk, hlc] at hF
    rw [hlk] at hkv
    rw [hlc] at hcv
    refine wp_skip ?_
    refine then_normal (hKq4 _ _ ?_)
    refine wp_seq_k fun Kq7 hKq7 => ?_
    -- region 5 (law.go:80)
    refine wp_region_lit ?_
    refine wpList_stp (stp_gv hF (wanted_none rfl) rfl rfl (gv_move rfl (hF.t rfl)) fun a hF => ?_)
    replace hS := hS.addNil (blk 5 ([] ++ []))
    have hR := hkv.ext (hS.toExt (nw_cons rfl nw_nil))
    refine wpList_stp (stp_append (ob := none) (xs := []) (pad := []) (k := 0) hF (wanted_none rfl) rfl rfl rfl Try.underlying22 Try.ty5 rfl (ev_const _ _) (hF.t rfl) hS rfl (fun _ => ⟨rfl, rfl⟩) (by simp) hR (one_B _) (by simp [hlk]; try omega) (by simp [hlk]; try omega) fun k kp a w hF ko kc hS => ?_)
    simp only [List.length_nil, Nat.zero_add, List.nil_append, List.length_map, List.map_eq_nil_iff, hlk] at hF hS ko kc
    clear hR
    obtain ⟨k, rfl⟩ : ∃ b, k = some b := by
      cases k with
      | none => exact absurd (congrArg List.length (ko rfl).1) (by simp [hlk])
      | some b => exact ⟨b, rfl⟩
    refine wpList_stp (stp_gv hF (wanted_none rfl) rfl rfl (gv_move rfl (hF.t rfl)) fun a hF => ?_)
    replace hS := hS.addNil (blk 5 ([] ++ []))
    have hR := hcv.ext (hS.toExt (nw_cons rfl (nw_cons rfl nw_nil)))
    refine wpList_stp (stp_append (ob := none) (xs := []) (pad := []) (k := 0) hF (wanted_none rfl) rfl rfl rfl Try.underlying22 Try.ty5 rfl (ev_const _ _) (hF.t rfl) hS rfl (fun _ => ⟨rfl, rfl⟩) (by simp) hR (one_B _) (by simp [hlc]; try omega) (by simp [hlc]; try omega) fun g gp a w hF go gc hS => ?_)
    simp only [List.length_nil, Nat.zero_add, List.nil_append, List.length_map, List.map_eq_nil_iff, hlc] at hF hS go gc
    clear hR
    obtain ⟨g, rfl⟩ : ∃ b, g = some b := by
      cases g with
      | none => exact absurd (congrArg List.length (go rfl).1) (by simp [hlc])
      | some b => exact ⟨b, rfl⟩
    refine wpList_stp (stp_gv hF (wanted_none rfl) rfl rfl (gv_assign rfl (hF.t rfl)) fun a hF => ?_)
    refine wpList_stp (stp_gv hF (wanted_none rfl) rfl rfl (gv_assign rfl (hF.t rfl)) fun a hF => ?_)
    refine wpList_nil ?_
    refine then_normal (hKq7 _ _ ?_)
    refine wp_seq_k fun Kq8 hKq8 => ?_
    -- region 6 (law.go:81)
    refine wp_region_lit ?_
    refine wpList_stp (stp_gv hF (wanted_none rfl) rfl rfl (gv_move rfl (hF.t rfl)) fun a hF => ?_)
    refine wpList_stp (stp_gv hF (wanted_none rfl) rfl rfl (gv_move rfl (hF.t rfl)) fun a hF => ?_)
    refine wpList_stp (stp_call hF (wanted_none rfl) rfl rfl Try.ok9 rfl (Evs.cons (hF.t rfl) (Evs.cons (hF.t rfl) Evs.nil)) (new_st (rd_own (l := kl) hS (List.mem_of_getElem? (i := 1) rfl) (nw_cons rfl (nw_cons rfl nw_nil)) (fun h => by cases h) hlk kc) (rd_own (l := cl) hS List.mem_cons_self (nw_cons rfl (nw_cons rfl nw_nil)) (fun h => by cases h) hlc gc) hlk hlc) fun e w h => ?_)
    obtain ⟨s, rfl, hN⟩ := h
    refine ⟨_, rfl, fun a hF => ?_⟩
    replace hS := hS.join hN (nw_cons rfl (nw_cons rfl nw_nil))
    simp only [List.cons_append, List.nil_append] at hS
    clear hN
    refine wpList_stp (stp_gv hF (wanted_none rfl) rfl rfl (gv_move rfl (hF.t rfl)) fun a hF => ?_)
    refine wpList_stp (stp_gv hF (wanted_none rfl) rfl rfl (gv_extract rfl (hF.t rfl) rfl) fun a hF => ?_)
    refine wpList_stp (stp_gv hF (wanted_none rfl) rfl rfl (gv_extract rfl (hF.t rfl) rfl) fun a hF => ?_)
    refine wpList_stp (stp_gv hF (wanted_none rfl) rfl rfl (gv_assign rfl (hF.t rfl)) fun a hF => ?_)
    refine wpList_stp (stp_gv hF (wanted_none rfl) rfl rfl (gv_assign rfl (hF.t rfl)) fun a hF => ?_)
    refine wpList_nil ?_
    refine then_normal (hKq8 _ _ ?_)
    refine wp_seq_k fun Kq9 hKq9 => ?_
    refine wp_seq_k fun Kq10 hKq10 => ?_
    -- region 7 (law.go:82)
    refine wp_region_lit ?_
    refine wpList_stp (stp_gv hF (wanted_none rfl) rfl rfl (gv_move rfl (hF.t rfl)) fun a hF => ?_)
    refine wpList_stp (stp_gv hF (wanted_none rfl) rfl rfl (gv_len rfl Try.underlying22 (hF.t rfl)) fun a hF => ?_)
    refine wpList_stp (stp_gv hF (wanted_none rfl) rfl rfl (gv_move rfl (ev_const _ _)) fun a hF => ?_)
    refine wpList_nil ?_
    refine then_normal (hKq10 _ _ ?_)
    refine wp_block ?_
    refine wp_loop_n (fun n a w => ∃ (i : Nat) (D E : List UInt8), i ≤ 16 ∧ n = 16 - i ∧ D.length = 16 ∧ E.length = 16 ∧ Fr 118 a [(0, .slice Ak 16 ck), (1, .slice Ac 16 cc), (2, .slice Ab bl.length cb), (7, .slice (some ⟨k, 0, none⟩) 16 (16 + kp.length)), (8, .slice (some ⟨g, 0, none⟩) 16 (16 + gp.length)), (9, .pointer (some ⟨s, 0, none⟩)), (43, vI 16), (44, vI i)] ∧ St w0 w [⟨true, some s, strm (keys kl) cl (.slice none 0 0)⟩, nokb, ⟨true, some g, blk 5 (E.map vB ++ gp)⟩, ⟨true, some k, blk 5 (D.map vB ++ kp)⟩]) 16 ⟨0, kl, cl, by omega, by omega, hlk, hlc, hF.sub ⟨rfl, rfl, rfl, rfl, rfl, rfl, rfl, rfl, trivial⟩, hS⟩ ?_
    rintro n a w ⟨i, D, E, hi, hn, hD, hE, hF, hS⟩
    refine wp_seq_k fun Kq11 hKq11 => ?_
    -- region 8 (law.go:82)
    refine wp_region_lit ?_
    refine wpList_stp (stp_gv hF (wanted_none rfl) rfl rfl (gv_lss rfl (hF.t rfl) (hF.t rfl)) fun a hF => ?_)
    refine wpList_nil ?_
    refine then_normal (hKq11 _ _ ?_)
    refine wp_seq_k fun Kq12 hKq12 => ?_
    refine cond_dec (hF.t rfl) (fun h45 => ?_) (fun h45 => ?_)
    ·
      refine wp_skip ?_
      refine then_normal (hKq12 _ _ ?_)
      refine wp_seq_k fun Kq13 hKq13 => ?_
      refine wp_block ?_
      refine wp_seq_k fun Kq14 hKq14 => ?_
      -- region 9 (law.go:82)
      refine wp_region_lit ?_
      refine wpList_stp (stp_gv hF (wanted_none rfl) rfl rfl (gv_move rfl (hF.t rfl)) fun a hF => ?_)
      refine wpList_stp (stp_gv hF (wanted_none rfl) rfl rfl (gv_assign rfl (hF.t rfl)) fun a hF => ?_)
      refine wpList_nil ?_
      refine then_normal (hKq14 _ _ ?_)
      refine wp_seq_k fun Kq15 hKq15 => ?_
      -- region 10 (law.go:83)
      refine wp_region_lit ?_
      refine wpList_stp (stp_gv hF (wanted_none rfl) rfl rfl (gv_move rfl (hF.t rfl)) fun a hF => ?_)
      refine wpList_stp (stp_gv hF (wanted_none rfl) rfl rfl (gv_move rfl (hF.t rfl)) fun a hF => ?_)
      refine wpList_stp (stp_gv hF (wanted_none rfl) rfl rfl (gv_indexSl rfl Try.underlying22 Try.sz5 (hF.t rfl) (hF.t rfl) (by omega)) fun a hF => ?_)
      refine wpList_stp (stp_gv hF (wanted_none rfl) rfl rfl (gv_load rfl Try.underlying5 rfl (hF.t rfl) (cell_ix (j := i) (hS.cell (k := 3) rfl (at_map (by omega) 0)) (by omega))) fun a hF => ?_)
      refine wpList_stp (stp_gv hF (wanted_none rfl) rfl rfl (gv_b_add (n := 1) rfl (hF.t rfl) rfl) fun a hF => ?_)
      refine wpList_stp (stp_gv hF (wanted_none rfl) rfl rfl (gv_indexSl rfl Try.underlying22 Try.sz5 (hF.t rfl) (hF.t rfl) (by omega)) fun a hF => ?_)
      refine wpList_stp (stp_storeAt (i) hF (wanted_none rfl) rfl rfl Try.sz5 (hF.t rfl) (by omega) (hF.t rfl) rfl hS (k := 3) rfl (by simp; omega) fun w hS => ?_)
      simp only [List.set_cons_succ, List.set_cons_zero] at hS
      rw [set_map (by omega)] at hS
      refine wpList_nil ?_
      refine then_normal (hKq15 _ _ ?_)
      -- region 11 (law.go:84)
      refine wp_region_lit ?_
      refine wpList_stp (stp_gv hF (wanted_none rfl) rfl rfl (gv_move rfl (hF.t rfl)) fun a hF => ?_)
      refine wpList_stp (stp_gv hF (wanted_none rfl) rfl rfl (gv_move rfl (hF.t rfl)) fun a hF => ?_)
      refine wpList_stp (stp_gv hF (wanted_none rfl) rfl rfl (gv_indexSl rfl Try.underlying22 Try.sz5 (hF.t rfl) (hF.t rfl) (by omega)) fun a hF => ?_)
      refine wpList_stp (stp_gv hF (wanted_none rfl) rfl rfl (gv_load rfl Try.underlying5 rfl (hF.t rfl) (cell_ix (j := i) (hS.cell (k := 2) rfl (at_map (by omega) 0)) (by omega))) fun a hF => ?_)
      refine wpList_stp (stp_gv hF (wanted_none rfl) rfl rfl (gv_b_add (n := 1) rfl (hF.t rfl) rfl) fun a hF => ?_)
      refine wpList_stp (stp_gv hF (wanted_none rfl) rfl rfl (gv_indexSl rfl Try.underlying22 Try.sz5 (hF.t rfl) (hF.t rfl) (by omega)) fun a hF => ?_)
      refine wpList_stp (stp_storeAt (i) hF (wanted_none rfl) rfl rfl Try.sz5 (hF.t rfl) (by omega) (hF.t rfl) rfl hS (k := 2) rfl (by simp; omega) fun w hS => ?_)
      simp only [List.set_cons_succ, List.set_cons_zero] at hS
      rw [set_map (by omega)] at hS
      refine wpList_nil ?_
      refine block_normal ?_
      refine then_normal (hKq13 _ _ ?_)
      -- region 12 (law.go:82)
      refine wp_region_lit ?_
      refine wpList_stp (stp_gv hF (wanted_none rfl) rfl rfl (gv_nadd (n := 1) rfl (hF.t rfl) rfl (by omega)) fun a hF => ?_)
      refine wpList_stp (stp_gv hF (wanted_none rfl) rfl rfl (gv_move rfl (hF.t rfl)) fun a hF => ?_)
      refine wpList_nil ?_
      refine then_normal ?_
      exact ⟨n - 1, by omega, i + 1, D.set i (D.getD i 0 + 1), E.set i (E.getD i 0 + 1), by omega, by omega, by rw [List.length_set, hD], by rw [List.length_set, hE], hF.sub ⟨rfl, rfl, rfl, rfl, rfl, rfl, rfl, rfl, trivial⟩, hS⟩
    ·
      refine wp_exit ?_
      refine then_exit ?_
      refine then_exit ?_
      refine block_exit ?_
      refine then_normal (hKq9 _ _ ?_)
      refine wp_seq_k fun Kq16 hKq16 => ?_
      -- region 13 (law.go:86)
      refine wp_region_lit ?_
      refine wpList_stp (stp_gv hF (wanted_none rfl) rfl rfl (gv_move rfl (hF.t rfl)) fun a hF => ?_)
      replace hS := hS.addNil (blk 5 ([] ++ []))
      have hR := hbv.ext (hS.toExt (nw_cons rfl (nw_cons rfl (nw_cons rfl (nw_cons rfl (nw_cons rfl nw_nil))))))
      refine wpList_stp (stp_append (ob := none) (xs := []) (pad := []) (k := 0) hF (wanted_none rfl) rfl rfl rfl Try.underlying22 Try.ty5 rfl (ev_const _ _) (hF.t rfl) hS rfl (fun _ => ⟨rfl, rfl⟩) (by simp) hR (one_B _) (by simp ; try omega) (by simp ; try omega) fun inn innp a w hF inno innc hS => ?_)
      simp only [List.length_nil, Nat.zero_add, List.nil_append, List.length_map, List.map_eq_nil_iff] at hF hS inno innc
      clear hR
      refine wpList_stp (stp_gv hF (wanted_none rfl) rfl rfl (gv_assign rfl (hF.t rfl)) fun a hF => ?_)
      refine wpList_nil ?_
      refine then_normal (hKq16 _ _ ?_)
      refine wp_seq_k fun Kq17 hKq17 => ?_
      -- region 14 (law.go:87)
      refine wp_region_lit ?_
      refine wpList_stp (stp_gv hF (wanted_none rfl) rfl rfl (gv_move rfl (hF.t rfl)) fun a hF => ?_)
      refine wpList_stp (stp_gv hF (wanted_none rfl) rfl rfl (gv_move rfl (hF.t rfl)) fun a hF => ?_)
      replace hS := St.rot hS
      refine wpList_stp (stp_call hF (wanted_none rfl) rfl rfl Try.ok11 rfl (Evs.cons (hF.t rfl) (Evs.cons (hF.t rfl) Evs.nil)) (turn_ok (nw_cons rfl (nw_cons rfl (nw_cons rfl nw_nil))) hS nil_left (bl := bl) (own_srd List.mem_cons_self inno innc) (keys_len kl) hlc (by omega)) fun e w h => ?_)
      obtain ⟨x, xp, xl, xk, xB, rfl, xo, xc, hS, xL⟩ := h
      refine ⟨_, rfl, fun a hF => ?_⟩
      rw [outT_turned0 hlc] at hS
      refine wpList_stp (stp_gv hF (wanted_none rfl) rfl rfl (gv_assign rfl (hF.t rfl)) fun a hF => ?_)
      refine wpList_nil ?_
      refine then_normal (hKq17 _ _ ?_)
      refine wp_seq_k fun Kq18 hKq18 => ?_
      refine wp_seq_k fun Kq19 hKq19 => ?_
      -- region 15 (law.go:88)
      refine wp_region_lit ?_
      refine wpList_stp (stp_gv hF (wanted_none rfl) rfl rfl (gv_move rfl (hF.t rfl)) fun a hF => ?_)
      refine wpList_stp (stp_gv hF (wanted_none rfl) rfl rfl (gv_convStr rfl Try.underlying22 Try.underlying5 Try.underlying9 (hF.t rfl) (rd_own (l := bl) hS (List.mem_of_getElem? (i := 3) rfl) (nw_cons rfl (nw_cons rfl (nw_cons rfl (nw_cons rfl (nw_cons rfl (nw_cons rfl nw_nil)))))) inno rfl innc)) fun a hF => ?_)
      refine wpList_stp (stp_gv hF (wanted_none rfl) rfl rfl (gv_move rfl (hF.t rfl)) fun a hF => ?_)
      refine wpList_stp (stp_gv hF (wanted_none rfl) rfl rfl (gv_convStr rfl Try.underlying22 Try.underlying5 Try.underlying9 (hF.t rfl) (hbv.ext (hS.toExt (nw_cons rfl (nw_cons rfl (nw_cons rfl (nw_cons rfl (nw_cons rfl (nw_cons rfl nw_nil))))))))) fun a hF => ?_)
      refine wpList_stp (stp_gv hF (wanted_none rfl) rfl rfl (gv_strNeqF rfl (hF.t rfl) (hF.t rfl) rfl) fun a hF => ?_)
      refine wpList_stp (stp_gv hF (wanted_none rfl) rfl rfl (gv_move rfl (hF.t rfl)) fun a hF => ?_)
      refine wpList_stp (stp_gv hF (wanted_of hF rfl rfl (rfl)) rfl rfl (gv_move rfl (hF.t rfl)) fun a hF => ?_)
      refine wpList_stp (stp_gv hF (wanted_of hF rfl rfl (rfl)) rfl rfl (gv_lenOwn rfl Try.underlying22 (hF.t rfl) (fun h => by rw [(xo h).1]; rfl)) fun a hF => ?_)
      refine wpList_stp (stp_gv hF (wanted_of hF rfl rfl (rfl)) rfl rfl (gv_move rfl (hF.t rfl)) fun a hF => ?_)
      refine wpList_stp (stp_gv hF (wanted_of hF rfl rfl (rfl)) rfl rfl (gv_len rfl Try.underlying22 (hF.t rfl)) fun a hF => ?_)
      refine wpList_stp (stp_gv hF (wanted_of hF rfl rfl (rfl)) rfl rfl (gv_neqF rfl (hF.t rfl) (hF.t rfl) (by simp)) fun a hF => ?_)
      refine wpList_stp (stp_gv hF (wanted_none rfl) rfl rfl (gv_pickF rfl (hF.t rfl) (hF.t rfl)) fun a hF => ?_)
      refine wpList_nil ?_
      refine then_normal (hKq19 _ _ ?_)
      refine wp_cond_false (hF.t rfl) ?_
      refine wp_skip ?_
      refine then_normal (hKq18 _ _ ?_)
      refine wp_seq_k fun Kq20 hKq20 => ?_
      -- region 17 (law.go:91)
      refine wp_region_lit ?_
      refine wpList_stp (stp_gv hF (wanted_none rfl) rfl rfl (gv_move rfl (hF.t rfl)) fun a hF => ?_)
      refine wpList_stp (stp_gv hF (wanted_none rfl) rfl rfl (gv_move rfl (hF.t rfl)) fun a hF => ?_)
      refine wpList_stp (stp_gv hF (wanted_none rfl) rfl rfl (gv_move rfl (hF.t rfl)) fun a hF => ?_)
      refine wpList_stp (stp_gv hF (wanted_none rfl) rfl rfl (gv_move rfl (hF.t rfl)) fun a hF => ?_)
      refine wpList_stp (stp_gv hF (wanted_none rfl) rfl rfl (gv_len rfl Try.underlying22 (hF.t rfl)) fun a hF => ?_)
      refine wpList_stp (stp_gv hF (wanted_none rfl) rfl rfl (gv_nadd (n := 3) rfl (hF.t rfl) rfl (by omega)) fun a hF => ?_)
      refine wpList_stp (stp_call hF (wanted_none rfl) rfl rfl Try.ok14 rfl (Evs.cons (hF.t rfl) (Evs.cons (hF.t rfl) (Evs.cons (hF.t rfl) Evs.nil))) (rbytes_ok (hkv.ext (hS.toExt (nw_cons rfl (nw_cons rfl (nw_cons rfl (nw_cons rfl (nw_cons rfl (nw_cons rfl nw_nil)))))))) (hcv.ext (hS.toExt (nw_cons rfl (nw_cons rfl (nw_cons rfl (nw_cons rfl (nw_cons rfl (nw_cons rfl nw_nil)))))))) hlk hlc (by omega)) fun e w h => ?_)
      obtain ⟨hy1v, rfl, hy1, hx⟩ := h
      refine ⟨_, rfl, fun a hF => ?_⟩
      replace hS := hS.ext hx
      clear hx
      refine wpList_stp (stp_call hF (wanted_none rfl) rfl rfl Try.ok13 rfl (Evs.cons (hF.t rfl) (Evs.cons (hF.t rfl) Evs.nil)) (rturn_ok (hbv.ext (hS.toExt (nw_cons rfl (nw_cons rfl (nw_cons rfl (nw_cons rfl (nw_cons rfl (nw_cons rfl nw_nil)))))))) hy1 (by rw [byts_len]; omega) (by omega)) fun e w h => ?_)
      obtain ⟨hy2v, rfl, hy2, hx⟩ := h
      refine ⟨_, rfl, fun a hF => ?_⟩
      replace hS := hS.ext hx
      clear hx
      refine wpList_stp (stp_gv hF (wanted_none rfl) rfl rfl (gv_assign rfl (hF.t rfl)) fun a hF => ?_)
      refine wpList_nil ?_
      refine then_normal (hKq20 _ _ ?_)
      refine wp_seq_k fun Kq21 hKq21 => ?_
      refine wp_seq_k fun Kq22 hKq22 => ?_
      -- region 18 (law.go:92)
      refine wp_region_lit ?_
      refine wpList_stp (stp_gv hF (wanted_none rfl) rfl rfl (gv_move rfl (hF.t rfl)) fun a hF => ?_)
      refine wpList_stp (stp_gv hF (wanted_none rfl) rfl rfl (gv_convStr rfl Try.underlying22 Try.underlying5 Try.underlying9 (hF.t rfl) (rd_own (l := turned kl cl 0 bl) hS List.mem_cons_self (nw_cons rfl (nw_cons rfl (nw_cons rfl (nw_cons rfl (nw_cons rfl (nw_cons rfl nw_nil)))))) (fun h => ⟨List.length_eq_zero_iff.1 (by rw [turned_len, (xo h).1]; rfl), (xo h).2⟩) (turned_len _ _ _ _) xc)) fun a hF => ?_)
      refine wpList_stp (stp_gv hF (wanted_none rfl) rfl rfl (gv_move rfl (hF.t rfl)) fun a hF => ?_)
      refine wpList_stp (stp_gv hF (wanted_none rfl) rfl rfl (gv_convStr rfl Try.underlying22 Try.underlying5 Try.underlying9 (hF.t rfl) (hy2)) fun a hF => ?_)
      refine wpList_stp (stp_gv hF (wanted_none rfl) rfl rfl (gv_strNeqF rfl (hF.t rfl) (hF.t rfl) (xr_byts (by omega)).symm) fun a hF => ?_)
      refine wpList_nil ?_
      refine then_normal (hKq22 _ _ ?_)
      refine wp_cond_false (hF.t rfl) ?_
      refine wp_skip ?_
      refine then_normal (hKq21 _ _ ?_)
      refine wp_seq_k fun Kq23 hKq23 => ?_
      refine wp_seq_k fun Kq24 hKq24 => ?_
      -- region 20 (law.go:95)
      refine wp_region_lit ?_
      refine wpList_stp (stp_gv hF (wanted_none rfl) rfl rfl (gv_move rfl (hF.t rfl)) fun a hF => ?_)
      refine wpList_stp (stp_gv hF (wanted_none rfl) rfl rfl (gv_lenOwn rfl Try.underlying22 (hF.t rfl) (fun h => by rw [(xo h).1]; rfl)) fun a hF => ?_)
      refine wpList_stp (stp_gv hF (wanted_none rfl) rfl rfl (gv_move rfl (ev_const _ _)) fun a hF => ?_)
      refine wpList_nil ?_
      refine then_normal (hKq24 _ _ ?_)
      refine wp_block ?_
      refine wp_loop_n (fun n a w => ∃ (i : Nat) (X : List UInt8), i ≤ bl.length ∧ n = bl.length - i ∧ X.length = bl.length ∧ (x = none → X = [] ∧ xp = []) ∧ Fr 118 a [(0, .slice Ak 16 ck), (1, .slice Ac 16 cc), (2, .slice Ab bl.length cb), (9, .pointer (some ⟨s, 0, none⟩)), (13, ownV x bl.length (bl.length + xp.length)), (91, vI bl.length), (92, vI i)] ∧ St w0 w [⟨true, x, blk 5 (X.map vB ++ xp)⟩, ⟨true, some s, strm (keys kl) (kst (keys kl) (cl, []) bl.length).1 xl⟩, ⟨true, xk, blkB 23 xB⟩, ⟨true, inn, blk 5 (bl.map vB ++ innp)⟩, ⟨true, some g, blk 5 (E.map vB ++ gp)⟩, ⟨true, some k, blk 5 (D.map vB ++ kp)⟩]) bl.length ⟨0, turned kl cl 0 bl, by omega, by omega, turned_len _ _ _ _, (fun h => ⟨List.length_eq_zero_iff.1 (by rw [turned_len, (xo h).1]; rfl), (xo h).2⟩), hF.sub ⟨rfl, rfl, rfl, rfl, rfl, rfl, rfl, trivial⟩, hS⟩ ?_
      rintro n a w ⟨i, X, hi, hn, hX, xo, hF, hS⟩
      refine wp_seq_k fun Kq25 hKq25 => ?_
      -- region 21 (law.go:95)
      refine wp_region_lit ?_
      refine wpList_stp (stp_gv hF (wanted_none rfl) rfl rfl (gv_lss rfl (hF.t rfl) (hF.t rfl)) fun a hF => ?_)
      refine wpList_nil ?_
      refine then_normal (hKq25 _ _ ?_)
      refine wp_seq_k fun Kq26 hKq26 => ?_
      refine cond_dec (hF.t rfl) (fun h93 => ?_) (fun h93 => ?_)
      ·
        obtain ⟨x, rfl⟩ := own_some xo (show 0 < X.length by omega)
        refine wp_skip ?_
        refine then_normal (hKq26 _ _ ?_)
        refine wp_seq_k fun Kq27 hKq27 => ?_
        refine wp_block ?_
        refine wp_seq_k fun Kq28 hKq28 => ?_
        -- region 22 (law.go:95)
        refine wp_region_lit ?_
        refine wpList_stp (stp_gv hF (wanted_none rfl) rfl rfl (gv_move rfl (hF.t rfl)) fun a hF => ?_)
        refine wpList_stp (stp_gv hF (wanted_none rfl) rfl rfl (gv_assign rfl (hF.t rfl)) fun a hF => ?_)
        refine wpList_nil ?_
        refine then_normal (hKq28 _ _ ?_)
        -- region 23 (law.go:96)
        refine wp_region_lit ?_
        refine wpList_stp (stp_gv hF (wanted_none rfl) rfl rfl (gv_move rfl (hF.t rfl)) fun a hF => ?_)
        refine wpList_stp (stp_gv hF (wanted_none rfl) rfl rfl (gv_move rfl (hF.t rfl)) fun a hF => ?_)
        refine wpList_stp (stp_gv hF (wanted_none rfl) rfl rfl (gv_indexSl rfl Try.underlying22 Try.sz5 (hF.t rfl) (hF.t rfl) (by omega)) fun a hF => ?_)
        refine wpList_stp (stp_gv hF (wanted_none rfl) rfl rfl (gv_load rfl Try.underlying5 rfl (hF.t rfl) (cell_ix (j := i) (hS.cell (k := 0) rfl (at_map (by omega) 0)) (by omega))) fun a hF => ?_)
        refine wpList_stp (stp_gv hF (wanted_none rfl) rfl rfl (gv_b_add (n := 1) rfl (hF.t rfl) rfl) fun a hF => ?_)
        refine wpList_stp (stp_gv hF (wanted_none rfl) rfl rfl (gv_indexSl rfl Try.underlying22 Try.sz5 (hF.t rfl) (hF.t rfl) (by omega)) fun a hF => ?_)
        refine wpList_stp (stp_storeAt (i) hF (wanted_none rfl) rfl rfl Try.sz5 (hF.t rfl) (by omega) (hF.t rfl) rfl hS (k := 0) rfl (by simp; omega) fun w hS => ?_)
        simp only [List.set_cons_zero] at hS
        rw [set_map (by omega)] at hS
        refine wpList_nil ?_
        refine block_normal ?_
        refine then_normal (hKq27 _ _ ?_)
        -- region 24 (law.go:95)
        refine wp_region_lit ?_
        refine wpList_stp (stp_gv hF (wanted_none rfl) rfl rfl (gv_nadd (n := 1) rfl (hF.t rfl) rfl (by omega)) fun a hF => ?_)
        refine wpList_stp (stp_gv hF (wanted_none rfl) rfl rfl (gv_move rfl (hF.t rfl)) fun a hF => ?_)
        refine wpList_nil ?_
        refine then_normal ?_
        exact ⟨n - 1, by omega, i + 1, X.set i (X.getD i 0 + 1), by omega, by omega, by rw [List.length_set, hX], (fun h => by cases h), hF.sub ⟨rfl, rfl, rfl, rfl, rfl, rfl, rfl, trivial⟩, hS⟩
      ·
        refine wp_exit ?_
        refine then_exit ?_
        refine then_exit ?_
        refine block_exit ?_
        refine then_normal (hKq23 _ _ ?_)
        refine wp_seq_k fun Kq29 hKq29 => ?_
        -- region 25 (law.go:98)
        refine wp_region_lit ?_
        refine wpList_stp (stp_gv hF (wanted_none rfl) rfl rfl (gv_move rfl (hF.t rfl)) fun a hF => ?_)
        refine wpList_stp (stp_build3 hF (wanted_none rfl) rfl rfl rfl Try.underlying22 Try.ty5 hS fun z a w hF hS => ?_)
        replace hS := hS.move (k := 3) rfl
        simp only [List.eraseIdx_cons_succ, List.eraseIdx_cons_zero] at hS
        replace hS := hS.move (k := 3) rfl
        simp only [List.eraseIdx_cons_succ, List.eraseIdx_cons_zero] at hS
        refine wpList_stp (stp_call hF (wanted_none rfl) rfl rfl Try.ok11 rfl (Evs.cons (hF.t rfl) (Evs.cons (hF.t rfl) Evs.nil)) (turn_ok (nw_cons rfl (nw_cons rfl (nw_cons rfl (nw_cons rfl (nw_cons rfl nw_nil))))) hS xL (bl := [0, 0, 0]) (SRd.arr List.mem_cons_self rfl (by omega)) (keys_len kl) (kst_len hlc _) (by decide)) fun e w h => ?_)
        obtain ⟨y, yp, yl, yk, yB, rfl, yo, yc, hS, yL⟩ := h
        refine ⟨_, rfl, fun a hF => ?_⟩
        refine wpList_stp (stp_gv hF (wanted_none rfl) rfl rfl (gv_assign rfl (hF.t rfl)) fun a hF => ?_)
        refine wpList_nil ?_
        refine then_normal (hKq29 _ _ ?_)
        refine wp_seq_k fun Kq30 hKq30 => ?_
        -- region 26 (law.go:99)
        refine Fw.wp_region_draw (by kernel_rfl) fun w hx => ?_
        replace hS := hS.ext hx
        clear hx
        refine run_headS (n := 14) _ [(7, 112, FlR ((byts kl cl (bl.length + 3)).map vB)), (10, 115, FlR (((byts kl cl (bl.length + 3)).drop bl.length).map vB)), (11, 116, FlE (sV ((byts kl cl (bl.length + 3)).drop bl.length))), (12, 117, FlE (.bool true)), (13, 6, FlE (.bool true))] hF (by kernel_rfl) rfl (fa_cons rfl (fa_cons rfl (fa_cons rfl (fa_cons rfl (fa_cons rfl fa_nil))))) (fa_cons (FlR.lasts _) (fa_cons (FlR.lasts _) (fa_cons (FlE.lasts _) (fa_cons (FlE.lasts _) (fa_cons (FlE.lasts _) fa_nil))))) (fa_cons ⟨Nat.zero_le _, Nat.le_of_ble_eq_true rfl⟩ (fa_cons ⟨Nat.zero_le _, Nat.le_of_ble_eq_true rfl⟩ (fa_cons ⟨Nat.zero_le _, Nat.le_of_ble_eq_true rfl⟩ (fa_cons ⟨Nat.zero_le _, Nat.le_of_ble_eq_true rfl⟩ (fa_cons ⟨Nat.zero_le _, Nat.le_of_ble_eq_true rfl⟩ fa_nil))))) rfl ?_
        refine dw_gv hF rfl (wanted_none rfl) rfl rfl (fun w hx => gv_move rfl (hF.t rfl)) fun a hF => ?_
        refine dw_gv hF rfl (wanted_none rfl) rfl rfl (fun w hx => gv_convStr rfl Try.underlying22 Try.underlying5 Try.underlying9 (hF.t rfl) (rd_own (l := outT (keys kl) (kst (keys kl) (cl, []) bl.length) [0, 0, 0] 3) (hS.ext hx) List.mem_cons_self (nw_cons rfl (nw_cons rfl (nw_cons rfl (nw_cons rfl (nw_cons rfl (nw_cons rfl (nw_cons rfl (nw_cons rfl nw_nil)))))))) (fun h => by cases (yo h).1) (outT_len _ _ _ _) yc)) fun a hF => ?_
        refine dw_gv hF rfl (wanted_none rfl) rfl rfl (fun w hx => gv_move rfl (hF.t rfl)) fun a hF => ?_
        refine dw_gv hF rfl (wanted_none rfl) rfl rfl (fun w hx => gv_move rfl (hF.t rfl)) fun a hF => ?_
        refine dw_gv hF rfl (wanted_none rfl) rfl rfl (fun w hx => gv_move rfl (hF.t rfl)) fun a hF => ?_
        refine dw_gv hF rfl (wanted_none rfl) rfl rfl (fun w hx => gv_len rfl Try.underlying22 (hF.t rfl)) fun a hF => ?_
        refine dw_gv hF rfl (wanted_none rfl) rfl rfl (fun w hx => gv_nadd (n := 3) rfl (hF.t rfl) rfl (by omega)) fun a hF => ?_
        refine dw_fl rfl ?_
        refine dw_gv hF rfl (wanted_none rfl) rfl rfl (fun w hx => gv_move rfl (hF.t rfl)) fun a hF => ?_
        refine dw_gv hF rfl (wanted_none rfl) rfl rfl (fun w hx => gv_len rfl Try.underlying22 (hF.t rfl)) fun a hF => ?_
        refine dw_fl rfl ?_
        refine dw_fl rfl ?_
        refine dw_fl rfl ?_
        refine dw_fl rfl ?_
        refine dw_nil ⟨(fa_cons ?_ (fa_cons ?_ (fa_cons ?_ (fa_cons ?_ (fa_cons ?_ fa_nil))))), fun a w hx hA hR => ?_⟩
        · intro a w hx hA hdp
          replace hF := hA _ hF
          replace hS := hS.ext hx
          exact ⟨_, rfl, sx_call (wanted_none rfl) Try.ok14 rfl (Evs.cons (hF.t rfl) (Evs.cons (hF.t rfl) (Evs.cons (hF.t rfl) Evs.nil))) (rbytes_ok (hkv.ext (hS.toExt (nw_cons rfl (nw_cons rfl (nw_cons rfl (nw_cons rfl (nw_cons rfl (nw_cons rfl (nw_cons rfl (nw_cons rfl nw_nil)))))))))) (hcv.ext (hS.toExt (nw_cons rfl (nw_cons rfl (nw_cons rfl (nw_cons rfl (nw_cons rfl (nw_cons rfl (nw_cons rfl (nw_cons rfl nw_nil)))))))))) hlk hlc (by omega))⟩
        · intro a w hx hA hdp
          replace hF := hA _ hF
          replace hS := hS.ext hx
          exact ⟨_, rfl, sx_sliceLo (wanted_none rfl) rfl Try.underlying22 Try.sz5 (hF.t rfl) (hF.t rfl) (by rw [byts_len]; omega) (hdp _ (List.mem_of_getElem? (i := 0) rfl) (by kernel_rfl))⟩
        · intro a w hx hA hdp
          replace hF := hA _ hF
          replace hS := hS.ext hx
          exact ⟨_, rfl, sx_gv (wanted_none rfl) (gv_convStr rfl Try.underlying22 Try.underlying5 Try.underlying9 (hF.t rfl) (hdp _ (List.mem_of_getElem? (i := 1) rfl) (by kernel_rfl))) rfl⟩
        · intro a w hx hA hdp
          replace hF := hA _ hF
          replace hS := hS.ext hx
          exact ⟨_, rfl, sx_gv (wanted_none rfl) (gv_strEqlT rfl (hF.t rfl) ((hF.t rfl).trans (hdp _ (List.mem_of_getElem? (i := 2) rfl) (by kernel_rfl))) ((outT_turned hlc bl.length [0, 0, 0]).trans (last3 kl cl bl.length))) rfl⟩
        · intro a w hx hA hdp
          replace hF := hA _ hF
          replace hS := hS.ext hx
          exact ⟨_, rfl, sx_gv (wanted_none rfl) (gv_assign rfl ((hF.t rfl).trans (hdp _ (List.mem_of_getElem? (i := 3) rfl) (by kernel_rfl)))) rfl⟩
        replace hF := hA _ hF
        replace hS := hS.ext hx
        clear hA hx
        refine run_done (by decide) ?_
        refine then_normal (hKq30 _ _ ?_)
        refine wp_ret ?_
        refine ret1 (fn := Try.f6) (t := 6) hF rfl rfl ?_
        exact ⟨by rw [hR _ (List.mem_of_getElem? (i := 4) rfl)], hS.toExt (nw_cons rfl (nw_cons rfl (nw_cons rfl (nw_cons rfl (nw_cons rfl (nw_cons rfl (nw_cons rfl (nw_cons rfl nw_nil))))))))⟩


end Go.Proofs.Ytfhalnobaeogkaa
