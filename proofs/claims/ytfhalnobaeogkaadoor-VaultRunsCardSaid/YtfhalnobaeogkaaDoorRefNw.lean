/- What is proved: how the reference reads a disk. -/
import Derived.Test.YtfhalnobaeogkaaDoorProg
import Derived.Test.YtfhalnobaeogkaaDoorFwSep
import Derived.KernelRfl
import Derived.Test.YtfhalnobaeogkaaDoorFwSto
import Derived.Test.YtfhalnobaeogkaaDoorFwVlt
import Derived.Test.YtfhalnobaeogkaaDoorFwApp
import Derived.Test.YtfhalnobaeogkaaDoorFwWord
import Derived.Test.YtfhalnobaeogkaaDoorFwPkt
import Derived.Test.YtfhalnobaeogkaaDoorFwTok
import Derived.Test.YtfhalnobaeogkaaDoorDig
import Derived.Test.YtfhalnobaeogkaaDoorSum
import Derived.Test.YtfhalnobaeogkaaDoorWire
import Derived.Test.YtfhalnobaeogkaaDoorPktW
import Derived.Test.YtfhalnobaeogkaaDoorPktR
import Derived.Test.YtfhalnobaeogkaaDoorWireA
import Derived.Test.YtfhalnobaeogkaaDoorDisk
import Derived.Test.YtfhalnobaeogkaaDoorFwZer
import Derived.Test.YtfhalnobaeogkaaDoorFwSeq
import Derived.Test.YtfhalnobaeogkaaDoorWireA
import Derived.Test.YtfhalnobaeogkaaDoorHead
import Derived.Test.YtfhalnobaeogkaaDoorHalf
import Derived.Test.YtfhalnobaeogkaaDoorOpen
import Derived.Test.YtfhalnobaeogkaaDoorSave
import Derived.Test.YtfhalnobaeogkaaDoorVPure
import Derived.Test.YtfhalnobaeogkaaDoorRefH
import Derived.Test.YtfhalnobaeogkaaDoorRefSum
import Derived.Test.YtfhalnobaeogkaaDoorRefCur
import Derived.Test.YtfhalnobaeogkaaDoorRefBy
import Derived.Test.YtfhalnobaeogkaaDoorRefIm
import Derived.Test.YtfhalnobaeogkaaDoorRefHf
set_option linter.unusedVariables false
set_option linter.unusedSimpArgs false
namespace Go.Proofs.YtfhalnobaeogkaaDoor
open Go Go.RowKit Go.Fw

theorem Tryd.ok62 : CallOk Tryd.prog 62 := ⟨_, Tryd.func62, by kernel_rfl, by kernel_rfl⟩


def newR (l : List UInt8) : Int × Rc × UInt64 :=
  let n := l.length / 64 / 2 * 64
  let a := halfR (l.take n)
  let b := halfR ((l.take (2 * n)).drop n)
  if a.2.2 = false ∧ b.2.2 = false then (-1, rc0, 0)
  else if a.2.2 = true ∧ (b.2.2 = false ∨ b.2.1.toNat ≤ a.2.1.toNat) then (0, a.1, a.2.1) else (1, b.1, b.2.1)


set_option maxHeartbeats 1000000 in
theorem rnewest_ok {bv : Value} {bl : List UInt8} {w0 : World} (hb : Rd w0 bv (bl.map vB)) (h64 : 256 ≤ bl.length) (hbl : bl.length ≤ 16777216) :
    Calls Tryd.prog 33 #[bv] w0 fun e w' => e = .returned (.tuple #[.int .i64 (newR bl).1, (newR bl).2.1.v, vD (newR bl).2.2]) ∧ Ext w0 w' := by
  obtain ⟨Ab, cb, rfl, hb1, hb2, hbc⟩ := hb.isB
  obtain ⟨b0, o0, rfl, _⟩ := hbc (by omega)
  clear hbc
  obtain ⟨n, hn⟩ : ∃ n, n = bl.length / 64 / 2 * 64 := ⟨_, rfl⟩
  have hn2 : 64 ≤ n ∧ 2 * n ≤ bl.length := by omega
  refine calls_start 56 Tryd.func33 rfl Tryd.ntmps33 rfl fun a hF => ?_
  have hS := St.refl w0
  refine wp_seq_k fun Kq1 hKq1 => ?_
  -- region 0 (ref.go:73)
  refine wp_region_lit ?_
  refine wpList_stp (stp_gv hF (wanted_none rfl) rfl rfl (gv_assign rfl (ev_const _ _)) fun a hF => ?_)
  refine wpList_stp (stp_alloc hF (wanted_none rfl) rfl rfl rfl Tryd.zv75 rfl hS fun out a w hF hS => ?_)
  refine wpList_stp (stp_gv hF (wanted_none rfl) rfl rfl (gv_assign rfl (ev_const _ _)) fun a hF => ?_)
  refine wpList_nil ?_
  refine then_normal (hKq1 _ _ ?_)
  refine wp_seq_k fun Kq2 hKq2 => ?_
  -- region 1 (ref.go:74)
  refine wp_region_lit ?_
  refine wpList_stp (stp_gv hF (wanted_none rfl) rfl rfl (gv_move rfl (hF.t rfl)) fun a hF => ?_)
  refine wpList_stp (stp_gv hF (wanted_none rfl) rfl rfl (gv_len rfl Tryd.underlying22 (hF.t rfl)) fun a hF => ?_)
  refine wpList_stp (stp_gv hF (wanted_none rfl) rfl rfl (gv_nquo (n := 64) rfl (hF.t rfl) rfl (by omega) (by omega)) fun a hF => ?_)
  refine wpList_stp (stp_gv hF (wanted_none rfl) rfl rfl (gv_nquo (n := 2) rfl (hF.t rfl) rfl (by omega) (by omega)) fun a hF => ?_)
  refine wpList_stp (stp_gv hF (wanted_none rfl) rfl rfl (gv_nmul (n := 64) rfl (hF.t rfl) rfl (by omega)) fun a hF => ?_)
  rw [← hn] at hF
  refine wpList_stp (stp_gv hF (wanted_none rfl) rfl rfl (gv_assign rfl (hF.t rfl)) fun a hF => ?_)
  refine wpList_nil ?_
  refine then_normal (hKq2 _ _ ?_)
  refine wp_seq_k fun Kq3 hKq3 => ?_
  -- region 2 (ref.go:75)
  refine wp_region_lit ?_
  refine wpList_stp (stp_gv hF (wanted_none rfl) rfl rfl (gv_move rfl (hF.t rfl)) fun a hF => ?_)
  refine wpList_stp (stp_gv hF (wanted_none rfl) rfl rfl (gv_move rfl (hF.t rfl)) fun a hF => ?_)
  refine wpList_stp (stp_gv hF (wanted_none rfl) rfl rfl (gv_sliceHi rfl Tryd.underlying22 Tryd.sz5 (hF.t rfl) (hF.t rfl) (by omega)) fun a hF => ?_)
  have hA : Rd w (.slice (some ⟨b0, o0, none⟩) n cb) ((bl.take n).map vB) := by
    rw [List.map_take]
    exact (hb.ext (hS.toExt (nw_cons rfl nw_nil))).cutHi (by omega)
  have hAl : (bl.take n).length = n := by rw [List.length_take]; omega
  refine wpList_stp (stp_call hF (wanted_none rfl) rfl rfl Tryd.ok62 rfl (Evs.cons (hF.t rfl) Evs.nil) (rhalf_ok hA (by omega) (by omega)) fun e w h => ?_)
  obtain ⟨rfl, hx⟩ := h
  refine ⟨_, rfl, fun a hF => ?_⟩
  replace hS := hS.ext hx
  clear hx
  obtain ⟨HH, hHH⟩ : ∃ x, x = halfR (bl.take n) := ⟨_, rfl⟩
  rw [← hHH] at hF
  obtain ⟨r1, g1, ok1⟩ := HH
  refine wpList_stp (stp_gv hF (wanted_none rfl) rfl rfl (gv_move rfl (hF.t rfl)) fun a hF => ?_)
  refine wpList_stp (stp_gv hF (wanted_none rfl) rfl rfl (gv_extract rfl (hF.t rfl) rfl) fun a hF => ?_)
  refine wpList_stp (stp_gv hF (wanted_none rfl) rfl rfl (gv_extract rfl (hF.t rfl) rfl) fun a hF => ?_)
  refine wpList_stp (stp_gv hF (wanted_none rfl) rfl rfl (gv_extract rfl (hF.t rfl) rfl) fun a hF => ?_)
  refine wpList_stp (stp_alloc hF (wanted_none rfl) rfl rfl rfl Tryd.zv75 rfl hS fun r6 a w hF hS => ?_)
  refine wpList_stp (stp_storeAll hF (wanted_none rfl) rfl rfl (Tryd.sz75.trans (congrArg some (rfl))) (hF.t rfl) (hF.t rfl) ((by intro u hu; simp at hu; rcases hu with rfl | rfl | rfl <;> rfl)) hS (k := 0) rfl (rfl) fun w hS => ?_)
  refine wpList_stp (stp_gv hF (wanted_none rfl) rfl rfl (gv_assign rfl (hF.t rfl)) fun a hF => ?_)
  refine wpList_stp (stp_gv hF (wanted_none rfl) rfl rfl (gv_assign rfl (hF.t rfl)) fun a hF => ?_)
  refine wpList_nil ?_
  refine then_normal (hKq3 _ _ ?_)
  refine wp_seq_k fun Kq4 hKq4 => ?_
  -- region 3 (ref.go:76)
  refine wp_region_lit ?_
  refine wpList_stp (stp_gv hF (wanted_none rfl) rfl rfl (gv_move rfl (hF.t rfl)) fun a hF => ?_)
  refine wpList_stp (stp_gv hF (wanted_none rfl) rfl rfl (gv_move rfl (hF.t rfl)) fun a hF => ?_)
  refine wpList_stp (stp_gv hF (wanted_none rfl) rfl rfl (gv_move rfl (hF.t rfl)) fun a hF => ?_)
  refine wpList_stp (stp_gv hF (wanted_none rfl) rfl rfl (gv_nmul (m := 2) rfl rfl (hF.t rfl) (by omega)) fun a hF => ?_)
  refine wpList_stp (stp_gv hF (wanted_none rfl) rfl rfl (gv_slice2 rfl Tryd.underlying22 Tryd.sz5 (hF.t rfl) (hF.t rfl) (hF.t rfl) (by omega) (by omega)) fun a hF => ?_)
  have hB : Rd w (cut3V (some ⟨b0, o0, none⟩) n (2 * n) cb) (((bl.take (2 * n)).drop n).map vB) := by
    rw [List.map_drop, List.map_take]
    exact Rd.cut3 (hb.ext (hS.toExt (nw_cons rfl (nw_cons rfl nw_nil)))) (by omega) (by omega) (by omega) (by omega)
  have hBl : ((bl.take (2 * n)).drop n).length = n := by rw [List.length_drop, List.length_take]; omega
  refine wpList_stp (stp_call hF (wanted_none rfl) rfl rfl Tryd.ok62 rfl (Evs.cons (hF.t rfl) Evs.nil) (rhalf_ok hB (by omega) (by omega)) fun e w h => ?_)
  obtain ⟨rfl, hx⟩ := h
  refine ⟨_, rfl, fun a hF => ?_⟩
  replace hS := hS.ext hx
  clear hx
  obtain ⟨HK, hHK⟩ : ∃ x, x = halfR ((bl.take (2 * n)).drop n) := ⟨_, rfl⟩
  rw [← hHK] at hF
  obtain ⟨r2, g2, ok2⟩ := HK
  refine wpList_stp (stp_gv hF (wanted_none rfl) rfl rfl (gv_move rfl (hF.t rfl)) fun a hF => ?_)
  refine wpList_stp (stp_gv hF (wanted_none rfl) rfl rfl (gv_extract rfl (hF.t rfl) rfl) fun a hF => ?_)
  refine wpList_stp (stp_gv hF (wanted_none rfl) rfl rfl (gv_extract rfl (hF.t rfl) rfl) fun a hF => ?_)
  refine wpList_stp (stp_gv hF (wanted_none rfl) rfl rfl (gv_extract rfl (hF.t rfl) rfl) fun a hF => ?_)
  refine wpList_stp (stp_alloc hF (wanted_none rfl) rfl rfl rfl Tryd.zv75 rfl hS fun r9 a w hF hS => ?_)
  refine wpList_stp (stp_storeAll hF (wanted_none rfl) rfl rfl (Tryd.sz75.trans (congrArg some (rfl))) (hF.t rfl) (hF.t rfl) ((by intro u hu; simp at hu; rcases hu with rfl | rfl | rfl <;> rfl)) hS (k := 0) rfl (rfl) fun w hS => ?_)
  refine wpList_stp (stp_gv hF (wanted_none rfl) rfl rfl (gv_assign rfl (hF.t rfl)) fun a hF => ?_)
  refine wpList_stp (stp_gv hF (wanted_none rfl) rfl rfl (gv_assign rfl (hF.t rfl)) fun a hF => ?_)
  refine wpList_nil ?_
  refine then_normal (hKq4 _ _ ?_)
  refine wp_seq_k fun Kq5 hKq5 => ?_
  have hnw : newR bl = if ok1 = false ∧ ok2 = false then (-1, rc0, 0) else if ok1 = true ∧ (ok2 = false ∨ g2.toNat ≤ g1.toNat) then (0, r1, g1) else (1, r2, g2) := by rw [newR, ← hn, ← hHH, ← hHK]
  rcases Bool.eq_false_or_eq_true ok1 with h1 | h1 <;> rcases Bool.eq_false_or_eq_true ok2 with h2 | h2
  ·
    obtain rfl : ok1 = true := h1
    obtain rfl : ok2 = true := h2
    have hnew : newR bl = if g2.toNat ≤ g1.toNat then (0, r1, g1) else (1, r2, g2) := by rw [hnw, if_neg (by simp)]; by_cases hge : g2.toNat ≤ g1.toNat <;> simp [hge]
    refine wp_seq_k fun Kq6 hKq6 => ?_
    -- region 4 (ref.go:77)
    refine wp_region_lit ?_
    refine wpList_stp (stp_gv hF (wanted_none rfl) rfl rfl (gv_move rfl (hF.t rfl)) fun a hF => ?_)
    refine wpList_stp (stp_gv hF (wanted_none rfl) rfl rfl (gv_not rfl (hF.t rfl)) fun a hF => ?_)
    refine wpList_stp (stp_gv hF (wanted_none rfl) rfl rfl (gv_move rfl (hF.t rfl)) fun a hF => ?_)
    refine wpList_stp (stp_skip hF (unwanted_of hF rfl rfl (rfl) rfl) rfl rfl fun a hF => ?_)
    refine wpList_stp (stp_skip hF (unwanted_of hF rfl rfl (rfl) rfl) rfl rfl fun a hF => ?_)
    refine wpList_stp (stp_gv hF (wanted_none rfl) rfl rfl (gv_pickF rfl (hF.t rfl) (ev_const _ _)) fun a hF => ?_)
    refine wpList_nil ?_
    refine then_normal (hKq6 _ _ ?_)
    refine wp_cond_false (hF.t rfl) ?_
    refine wp_skip ?_
    refine then_normal (hKq5 _ _ ?_)
    refine wp_seq_k fun Kq7 hKq7 => ?_
    refine wp_seq_k fun Kq8 hKq8 => ?_
    -- region 6 (ref.go:80)
    refine wp_region_lit ?_
    refine wpList_stp (stp_gv hF (wanted_none rfl) rfl rfl (gv_move rfl (hF.t rfl)) fun a hF => ?_)
    refine wpList_stp (stp_gv hF (wanted_none rfl) rfl rfl (gv_move rfl (hF.t rfl)) fun a hF => ?_)
    refine wpList_stp (stp_gv hF (wanted_of hF rfl rfl (rfl)) rfl rfl (gv_move rfl (hF.t rfl)) fun a hF => ?_)
    refine wpList_stp (stp_gv hF (wanted_of hF rfl rfl (rfl)) rfl rfl (gv_not rfl (hF.t rfl)) fun a hF => ?_)
    refine wpList_stp (stp_gv hF (wanted_of hF rfl rfl (rfl)) rfl rfl (gv_move rfl (hF.t rfl)) fun a hF => ?_)
    refine wpList_stp (stp_gv hF (wanted_of hF rfl rfl (rfl)) rfl rfl (gv_move rfl (hF.t rfl)) fun a hF => ?_)
    refine wpList_stp (stp_gv hF (wanted_of hF rfl rfl (rfl)) rfl rfl (gv_move rfl (hF.t rfl)) fun a hF => ?_)
    refine wpList_stp (stp_gv hF (wanted_of hF rfl rfl (rfl)) rfl rfl (gv_geq rfl (hF.t rfl) (hF.t rfl)) fun a hF => ?_)
    refine wpList_stp (stp_gv hF (wanted_of hF rfl rfl (rfl)) rfl rfl (gv_pickF rfl (hF.t rfl) (hF.t rfl)) fun a hF => ?_)
    refine wpList_stp (stp_gv hF (wanted_none rfl) rfl rfl (gv_pickT rfl (hF.t rfl) (hF.t rfl)) fun a hF => ?_)
    refine wpList_nil ?_
    refine then_normal (hKq8 _ _ ?_)
    refine cond_dec (hF.t rfl) (fun h51 => ?_) (fun h51 => ?_)
    ·
      rw [if_pos (show g2.toNat ≤ g1.toNat from Int.ofNat_le.1 h51)] at hnew
      refine wp_seq_k fun Kq9 hKq9 => ?_
      -- region 7 (ref.go:81)
      refine Fw.wp_region_draw (by kernel_rfl) fun w hx => ?_
      replace hS := hS.ext hx
      clear hx
      refine run_headU (n := 5) _ [3] [3] (fun s_ x => ∃ rl : List Value, rl.length = 3 ∧ (s_ = 1 → rl = [sV r1.a, sV r1.c, .bool r1.p]) ∧ St w0 x [⟨true, some r9, rrO r2.a r2.c r2.p⟩, ⟨true, some r6, rrO r1.a r1.c r1.p⟩, ⟨true, some out, blk 75 rl⟩]) [(0, 52, FtE (.agg [sV r1.a, sV r1.c, .bool r1.p].toArray))] hF (hS.toExt (nw_cons rfl (nw_cons rfl (nw_cons rfl nw_nil)))) (⟨_, rfl, (fun h => by cases h), hS⟩) (fun _ _ _ ⟨rl, h1, h2, h3⟩ hx => ⟨rl, h1, h2, h3.ext hx⟩) (by kernel_rfl) rfl (fa_cons rfl fa_nil) (fa_cons (FtE.lasts _) fa_nil) (fa_cons ⟨Nat.zero_le _, Nat.le_of_ble_eq_true rfl⟩ fa_nil) rfl (by kernel_rfl) (by kernel_rfl) ?_
      refine dw_fl rfl ?_
      refine dw_gv hF rfl (wanted_none rfl) rfl rfl (fun w hx => gv_move rfl (hF.t rfl)) fun a hF => ?_
      refine dw_gv hF rfl (wanted_none rfl) rfl rfl (fun w hx => gv_assign rfl (ev_const _ _)) fun a hF => ?_
      refine dw_fl rfl ?_
      refine dw_gv hF rfl (wanted_none rfl) rfl rfl (fun w hx => gv_assign rfl (hF.t rfl)) fun a hF => ?_
      refine dw_nil ⟨(fa_cons ?_ fa_nil), (fa_cons ?_ fa_nil), fun a w hx hA hR hP => ?_⟩
      · intro s_ a w hsl hx hA hdp hP
        replace hF := hA _ hF
        obtain ⟨rl, _, _, hS⟩ := hP
        exact ⟨_, rfl, .inl ⟨show (0 : Nat) ∉ [3] from by decide, sx_gv (wanted_none rfl) (gv_loadAll (cs := [sV r1.a, sV r1.c, .bool r1.p]) rfl Tryd.underlying75 rfl Tryd.sz75 (hF.t rfl) hS (k := 1) rfl) rfl⟩⟩
      · intro s_ a w hsl hx hA hdp hP
        replace hF := hA _ hF
        refine ⟨_, 0, rfl, rfl, fun hs => ?_⟩
        subst hs
        obtain ⟨rl, q4, _, hS⟩ := hP
        refine ux_storeAgg (i := 0) (vs := [sV r1.a, sV r1.c, .bool r1.p]) (cs := rl) (wanted_none rfl) rfl Tryd.sz75 (hF.t rfl) ((hF.t rfl).trans (hdp _ (List.mem_of_getElem? (i := 0) rfl) (by kernel_rfl))) (by intro u hu; simp at hu; rcases hu with rfl | rfl | rfl <;> rfl) hS (k := 2) rfl (by rw [q4]; exact Nat.le_refl 3) fun w' hS' => ?_
        exact ⟨hS'.toExt (nw_cons rfl (nw_cons rfl (nw_cons rfl nw_nil))), ⟨_, by simp [q4], (fun _ => by rw [List.drop_of_length_le (by rw [q4]; exact Nat.le_refl 3)]; rfl), hS'⟩, (fa_cons id fa_nil)⟩
      replace hF := hA _ hF
      clear hA
      obtain ⟨rl, _, q3, hS⟩ := hP
      obtain rfl := q3 rfl
      replace hF : Fr 56 a [(2, .int .i64 0), (3, .pointer (some ⟨out, 0, none⟩)), (4, vD g1)] := hF.sub ⟨rfl, rfl, rfl, trivial⟩
      clear hR q3
      refine run_done (by decide) ?_
      refine then_normal (hKq9 _ _ ?_)
      refine wp_ret ?_
      refine then_ret ?_
      refine retTCT (fn := Tryd.f33) (vs := [sV r1.a, sV r1.c, .bool r1.p]) hF rfl Tryd.underlying75 rfl Tryd.sz75 rfl rfl rfl hS (k := 2) rfl ?_
      refine ⟨?_, hS.toExt (nw_cons rfl (nw_cons rfl (nw_cons rfl nw_nil)))⟩
      rw [hnew]
      rfl
    ·
      rw [if_neg (show ¬ g2.toNat ≤ g1.toNat from fun h => h51 (Int.ofNat_le.2 h))] at hnew
      refine wp_skip ?_
      refine then_normal (hKq7 _ _ ?_)
      refine wp_seq_k fun Kq10 hKq10 => ?_
      -- region 8 (ref.go:83)
      refine Fw.wp_region_draw (by kernel_rfl) fun w hx => ?_
      replace hS := hS.ext hx
      clear hx
      refine run_headU (n := 5) _ [3] [3] (fun s_ x => ∃ rl : List Value, rl.length = 3 ∧ (s_ = 1 → rl = [sV r2.a, sV r2.c, .bool r2.p]) ∧ St w0 x [⟨true, some r9, rrO r2.a r2.c r2.p⟩, ⟨true, some r6, rrO r1.a r1.c r1.p⟩, ⟨true, some out, blk 75 rl⟩]) [(0, 54, FtE (.agg [sV r2.a, sV r2.c, .bool r2.p].toArray))] hF (hS.toExt (nw_cons rfl (nw_cons rfl (nw_cons rfl nw_nil)))) (⟨_, rfl, (fun h => by cases h), hS⟩) (fun _ _ _ ⟨rl, h1, h2, h3⟩ hx => ⟨rl, h1, h2, h3.ext hx⟩) (by kernel_rfl) rfl (fa_cons rfl fa_nil) (fa_cons (FtE.lasts _) fa_nil) (fa_cons ⟨Nat.zero_le _, Nat.le_of_ble_eq_true rfl⟩ fa_nil) rfl (by kernel_rfl) (by kernel_rfl) ?_
      refine dw_fl rfl ?_
      refine dw_gv hF rfl (wanted_none rfl) rfl rfl (fun w hx => gv_move rfl (hF.t rfl)) fun a hF => ?_
      refine dw_gv hF rfl (wanted_none rfl) rfl rfl (fun w hx => gv_assign rfl (ev_const _ _)) fun a hF => ?_
      refine dw_fl rfl ?_
      refine dw_gv hF rfl (wanted_none rfl) rfl rfl (fun w hx => gv_assign rfl (hF.t rfl)) fun a hF => ?_
      refine dw_nil ⟨(fa_cons ?_ fa_nil), (fa_cons ?_ fa_nil), fun a w hx hA hR hP => ?_⟩
      · intro s_ a w hsl hx hA hdp hP
        replace hF := hA _ hF
        obtain ⟨rl, _, _, hS⟩ := hP
        exact ⟨_, rfl, .inl ⟨show (0 : Nat) ∉ [3] from by decide, sx_gv (wanted_none rfl) (gv_loadAll (cs := [sV r2.a, sV r2.c, .bool r2.p]) rfl Tryd.underlying75 rfl Tryd.sz75 (hF.t rfl) hS (k := 0) rfl) rfl⟩⟩
      · intro s_ a w hsl hx hA hdp hP
        replace hF := hA _ hF
        refine ⟨_, 0, rfl, rfl, fun hs => ?_⟩
        subst hs
        obtain ⟨rl, q4, _, hS⟩ := hP
        refine ux_storeAgg (i := 0) (vs := [sV r2.a, sV r2.c, .bool r2.p]) (cs := rl) (wanted_none rfl) rfl Tryd.sz75 (hF.t rfl) ((hF.t rfl).trans (hdp _ (List.mem_of_getElem? (i := 0) rfl) (by kernel_rfl))) (by intro u hu; simp at hu; rcases hu with rfl | rfl | rfl <;> rfl) hS (k := 2) rfl (by rw [q4]; exact Nat.le_refl 3) fun w' hS' => ?_
        exact ⟨hS'.toExt (nw_cons rfl (nw_cons rfl (nw_cons rfl nw_nil))), ⟨_, by simp [q4], (fun _ => by rw [List.drop_of_length_le (by rw [q4]; exact Nat.le_refl 3)]; rfl), hS'⟩, (fa_cons id fa_nil)⟩
      replace hF := hA _ hF
      clear hA
      obtain ⟨rl, _, q3, hS⟩ := hP
      obtain rfl := q3 rfl
      replace hF : Fr 56 a [(2, .int .i64 1), (3, .pointer (some ⟨out, 0, none⟩)), (4, vD g2)] := hF.sub ⟨rfl, rfl, rfl, trivial⟩
      clear hR q3
      refine run_done (by decide) ?_
      refine then_normal (hKq10 _ _ ?_)
      refine wp_ret ?_
      refine retTCT (fn := Tryd.f33) (vs := [sV r2.a, sV r2.c, .bool r2.p]) hF rfl Tryd.underlying75 rfl Tryd.sz75 rfl rfl rfl hS (k := 2) rfl ?_
      refine ⟨?_, hS.toExt (nw_cons rfl (nw_cons rfl (nw_cons rfl nw_nil)))⟩
      rw [hnew]
      rfl
  ·
    obtain rfl : ok1 = true := h1
    obtain rfl : ok2 = false := h2
    have hnew : newR bl = (0, r1, g1) := by rw [hnw, if_neg (by simp), if_pos ⟨rfl, .inl rfl⟩]
    refine wp_seq_k fun Kq11 hKq11 => ?_
    -- region 4 (ref.go:77)
    refine wp_region_lit ?_
    refine wpList_stp (stp_gv hF (wanted_none rfl) rfl rfl (gv_move rfl (hF.t rfl)) fun a hF => ?_)
    refine wpList_stp (stp_gv hF (wanted_none rfl) rfl rfl (gv_not rfl (hF.t rfl)) fun a hF => ?_)
    refine wpList_stp (stp_gv hF (wanted_none rfl) rfl rfl (gv_move rfl (hF.t rfl)) fun a hF => ?_)
    refine wpList_stp (stp_skip hF (unwanted_of hF rfl rfl (rfl) rfl) rfl rfl fun a hF => ?_)
    refine wpList_stp (stp_skip hF (unwanted_of hF rfl rfl (rfl) rfl) rfl rfl fun a hF => ?_)
    refine wpList_stp (stp_gv hF (wanted_none rfl) rfl rfl (gv_pickF rfl (hF.t rfl) (ev_const _ _)) fun a hF => ?_)
    refine wpList_nil ?_
    refine then_normal (hKq11 _ _ ?_)
    refine wp_cond_false (hF.t rfl) ?_
    refine wp_skip ?_
    refine then_normal (hKq5 _ _ ?_)
    refine wp_seq_k fun Kq12 hKq12 => ?_
    refine wp_seq_k fun Kq13 hKq13 => ?_
    -- region 6 (ref.go:80)
    refine wp_region_lit ?_
    refine wpList_stp (stp_gv hF (wanted_none rfl) rfl rfl (gv_move rfl (hF.t rfl)) fun a hF => ?_)
    refine wpList_stp (stp_gv hF (wanted_none rfl) rfl rfl (gv_move rfl (hF.t rfl)) fun a hF => ?_)
    refine wpList_stp (stp_gv hF (wanted_of hF rfl rfl (rfl)) rfl rfl (gv_move rfl (hF.t rfl)) fun a hF => ?_)
    refine wpList_stp (stp_gv hF (wanted_of hF rfl rfl (rfl)) rfl rfl (gv_not rfl (hF.t rfl)) fun a hF => ?_)
    refine wpList_stp (stp_gv hF (wanted_of hF rfl rfl (rfl)) rfl rfl (gv_move rfl (hF.t rfl)) fun a hF => ?_)
    refine wpList_stp (stp_skip hF (unwanted_of hF rfl rfl (rfl) rfl) rfl rfl fun a hF => ?_)
    refine wpList_stp (stp_skip hF (unwanted_of hF rfl rfl (rfl) rfl) rfl rfl fun a hF => ?_)
    refine wpList_stp (stp_skip hF (unwanted_of hF rfl rfl (rfl) rfl) rfl rfl fun a hF => ?_)
    refine wpList_stp (stp_gv hF (wanted_of hF rfl rfl (rfl)) rfl rfl (gv_pickT rfl (hF.t rfl) (ev_const _ _)) fun a hF => ?_)
    refine wpList_stp (stp_gv hF (wanted_none rfl) rfl rfl (gv_pickT rfl (hF.t rfl) (hF.t rfl)) fun a hF => ?_)
    refine wpList_nil ?_
    refine then_normal (hKq13 _ _ ?_)
    refine wp_cond_true (hF.t rfl) ?_
    refine wp_seq_k fun Kq14 hKq14 => ?_
    -- region 7 (ref.go:81)
    refine Fw.wp_region_draw (by kernel_rfl) fun w hx => ?_
    replace hS := hS.ext hx
    clear hx
    refine run_headU (n := 5) _ [3] [3] (fun s_ x => ∃ rl : List Value, rl.length = 3 ∧ (s_ = 1 → rl = [sV r1.a, sV r1.c, .bool r1.p]) ∧ St w0 x [⟨true, some r9, rrO r2.a r2.c r2.p⟩, ⟨true, some r6, rrO r1.a r1.c r1.p⟩, ⟨true, some out, blk 75 rl⟩]) [(0, 52, FtE (.agg [sV r1.a, sV r1.c, .bool r1.p].toArray))] hF (hS.toExt (nw_cons rfl (nw_cons rfl (nw_cons rfl nw_nil)))) (⟨_, rfl, (fun h => by cases h), hS⟩) (fun _ _ _ ⟨rl, h1, h2, h3⟩ hx => ⟨rl, h1, h2, h3.ext hx⟩) (by kernel_rfl) rfl (fa_cons rfl fa_nil) (fa_cons (FtE.lasts _) fa_nil) (fa_cons ⟨Nat.zero_le _, Nat.le_of_ble_eq_true rfl⟩ fa_nil) rfl (by kernel_rfl) (by kernel_rfl) ?_
    refine dw_fl rfl ?_
    refine dw_gv hF rfl (wanted_none rfl) rfl rfl (fun w hx => gv_move rfl (hF.t rfl)) fun a hF => ?_
    refine dw_gv hF rfl (wanted_none rfl) rfl rfl (fun w hx => gv_assign rfl (ev_const _ _)) fun a hF => ?_
    refine dw_fl rfl ?_
    refine dw_gv hF rfl (wanted_none rfl) rfl rfl (fun w hx => gv_assign rfl (hF.t rfl)) fun a hF => ?_
    refine dw_nil ⟨(fa_cons ?_ fa_nil), (fa_cons ?_ fa_nil), fun a w hx hA hR hP => ?_⟩
    · intro s_ a w hsl hx hA hdp hP
      replace hF := hA _ hF
      obtain ⟨rl, _, _, hS⟩ := hP
      exact ⟨_, rfl, .inl ⟨show (0 : Nat) ∉ [3] from by decide, sx_gv (wanted_none rfl) (gv_loadAll (cs := [sV r1.a, sV r1.c, .bool r1.p]) rfl Tryd.underlying75 rfl Tryd.sz75 (hF.t rfl) hS (k := 1) rfl) rfl⟩⟩
    · intro s_ a w hsl hx hA hdp hP
      replace hF := hA _ hF
      refine ⟨_, 0, rfl, rfl, fun hs => ?_⟩
      subst hs
      obtain ⟨rl, q4, _, hS⟩ := hP
      refine ux_storeAgg (i := 0) (vs := [sV r1.a, sV r1.c, .bool r1.p]) (cs := rl) (wanted_none rfl) rfl Tryd.sz75 (hF.t rfl) ((hF.t rfl).trans (hdp _ (List.mem_of_getElem? (i := 0) rfl) (by kernel_rfl))) (by intro u hu; simp at hu; rcases hu with rfl | rfl | rfl <;> rfl) hS (k := 2) rfl (by rw [q4]; exact Nat.le_refl 3) fun w' hS' => ?_
      exact ⟨hS'.toExt (nw_cons rfl (nw_cons rfl (nw_cons rfl nw_nil))), ⟨_, by simp [q4], (fun _ => by rw [List.drop_of_length_le (by rw [q4]; exact Nat.le_refl 3)]; rfl), hS'⟩, (fa_cons id fa_nil)⟩
    replace hF := hA _ hF
    clear hA
    obtain ⟨rl, _, q3, hS⟩ := hP
    obtain rfl := q3 rfl
    replace hF : Fr 56 a [(2, .int .i64 0), (3, .pointer (some ⟨out, 0, none⟩)), (4, vD g1)] := hF.sub ⟨rfl, rfl, rfl, trivial⟩
    clear hR q3
    refine run_done (by decide) ?_
    refine then_normal (hKq14 _ _ ?_)
    refine wp_ret ?_
    refine then_ret ?_
    refine retTCT (fn := Tryd.f33) (vs := [sV r1.a, sV r1.c, .bool r1.p]) hF rfl Tryd.underlying75 rfl Tryd.sz75 rfl rfl rfl hS (k := 2) rfl ?_
    refine ⟨?_, hS.toExt (nw_cons rfl (nw_cons rfl (nw_cons rfl nw_nil)))⟩
    rw [hnew]
    rfl
  ·
    obtain rfl : ok1 = false := h1
    obtain rfl : ok2 = true := h2
    have hnew : newR bl = (1, r2, g2) := by rw [hnw, if_neg (by simp), if_neg (by simp)]
    refine wp_seq_k fun Kq15 hKq15 => ?_
    -- region 4 (ref.go:77)
    refine wp_region_lit ?_
    refine wpList_stp (stp_gv hF (wanted_none rfl) rfl rfl (gv_move rfl (hF.t rfl)) fun a hF => ?_)
    refine wpList_stp (stp_gv hF (wanted_none rfl) rfl rfl (gv_not rfl (hF.t rfl)) fun a hF => ?_)
    refine wpList_stp (stp_gv hF (wanted_none rfl) rfl rfl (gv_move rfl (hF.t rfl)) fun a hF => ?_)
    refine wpList_stp (stp_gv hF (wanted_of hF rfl rfl (rfl)) rfl rfl (gv_move rfl (hF.t rfl)) fun a hF => ?_)
    refine wpList_stp (stp_gv hF (wanted_of hF rfl rfl (rfl)) rfl rfl (gv_not rfl (hF.t rfl)) fun a hF => ?_)
    refine wpList_stp (stp_gv hF (wanted_none rfl) rfl rfl (gv_pickT rfl (hF.t rfl) (hF.t rfl)) fun a hF => ?_)
    refine wpList_nil ?_
    refine then_normal (hKq15 _ _ ?_)
    refine wp_cond_false (hF.t rfl) ?_
    refine wp_skip ?_
    refine then_normal (hKq5 _ _ ?_)
    refine wp_seq_k fun Kq16 hKq16 => ?_
    refine wp_seq_k fun Kq17 hKq17 => ?_
    -- region 6 (ref.go:80)
    refine wp_region_lit ?_
    refine wpList_stp (stp_gv hF (wanted_none rfl) rfl rfl (gv_move rfl (hF.t rfl)) fun a hF => ?_)
    refine wpList_stp (stp_gv hF (wanted_none rfl) rfl rfl (gv_move rfl (hF.t rfl)) fun a hF => ?_)
    refine wpList_stp (stp_skip hF (unwanted_of hF rfl rfl (rfl) rfl) rfl rfl fun a hF => ?_)
    refine wpList_stp (stp_skip hF (unwanted_of hF rfl rfl (rfl) rfl) rfl rfl fun a hF => ?_)
    refine wpList_stp (stp_skip hF (unwanted_of hF rfl rfl (rfl) rfl) rfl rfl fun a hF => ?_)
    refine wpList_stp (stp_skip hF (unwanted_undef hF rfl rfl rfl) rfl rfl fun a hF => ?_)
    refine wpList_stp (stp_skip hF (unwanted_undef hF rfl rfl rfl) rfl rfl fun a hF => ?_)
    refine wpList_stp (stp_skip hF (unwanted_undef hF rfl rfl rfl) rfl rfl fun a hF => ?_)
    refine wpList_stp (stp_skip hF (unwanted_of hF rfl rfl (rfl) rfl) rfl rfl fun a hF => ?_)
    refine wpList_stp (stp_gv hF (wanted_none rfl) rfl rfl (gv_pickF rfl (hF.t rfl) (ev_const _ _)) fun a hF => ?_)
    refine wpList_nil ?_
    refine then_normal (hKq17 _ _ ?_)
    refine wp_cond_false (hF.t rfl) ?_
    refine wp_skip ?_
    refine then_normal (hKq16 _ _ ?_)
    refine wp_seq_k fun Kq18 hKq18 => ?_
    -- region 8 (ref.go:83)
    refine Fw.wp_region_draw (by kernel_rfl) fun w hx => ?_
    replace hS := hS.ext hx
    clear hx
    refine run_headU (n := 5) _ [3] [3] (fun s_ x => ∃ rl : List Value, rl.length = 3 ∧ (s_ = 1 → rl = [sV r2.a, sV r2.c, .bool r2.p]) ∧ St w0 x [⟨true, some r9, rrO r2.a r2.c r2.p⟩, ⟨true, some r6, rrO r1.a r1.c r1.p⟩, ⟨true, some out, blk 75 rl⟩]) [(0, 54, FtE (.agg [sV r2.a, sV r2.c, .bool r2.p].toArray))] hF (hS.toExt (nw_cons rfl (nw_cons rfl (nw_cons rfl nw_nil)))) (⟨_, rfl, (fun h => by cases h), hS⟩) (fun _ _ _ ⟨rl, h1, h2, h3⟩ hx => ⟨rl, h1, h2, h3.ext hx⟩) (by kernel_rfl) rfl (fa_cons rfl fa_nil) (fa_cons (FtE.lasts _) fa_nil) (fa_cons ⟨Nat.zero_le _, Nat.le_of_ble_eq_true rfl⟩ fa_nil) rfl (by kernel_rfl) (by kernel_rfl) ?_
    refine dw_fl rfl ?_
    refine dw_gv hF rfl (wanted_none rfl) rfl rfl (fun w hx => gv_move rfl (hF.t rfl)) fun a hF => ?_
    refine dw_gv hF rfl (wanted_none rfl) rfl rfl (fun w hx => gv_assign rfl (ev_const _ _)) fun a hF => ?_
    refine dw_fl rfl ?_
    refine dw_gv hF rfl (wanted_none rfl) rfl rfl (fun w hx => gv_assign rfl (hF.t rfl)) fun a hF => ?_
    refine dw_nil ⟨(fa_cons ?_ fa_nil), (fa_cons ?_ fa_nil), fun a w hx hA hR hP => ?_⟩
    · intro s_ a w hsl hx hA hdp hP
      replace hF := hA _ hF
      obtain ⟨rl, _, _, hS⟩ := hP
      exact ⟨_, rfl, .inl ⟨show (0 : Nat) ∉ [3] from by decide, sx_gv (wanted_none rfl) (gv_loadAll (cs := [sV r2.a, sV r2.c, .bool r2.p]) rfl Tryd.underlying75 rfl Tryd.sz75 (hF.t rfl) hS (k := 0) rfl) rfl⟩⟩
    · intro s_ a w hsl hx hA hdp hP
      replace hF := hA _ hF
      refine ⟨_, 0, rfl, rfl, fun hs => ?_⟩
      subst hs
      obtain ⟨rl, q4, _, hS⟩ := hP
      refine ux_storeAgg (i := 0) (vs := [sV r2.a, sV r2.c, .bool r2.p]) (cs := rl) (wanted_none rfl) rfl Tryd.sz75 (hF.t rfl) ((hF.t rfl).trans (hdp _ (List.mem_of_getElem? (i := 0) rfl) (by kernel_rfl))) (by intro u hu; simp at hu; rcases hu with rfl | rfl | rfl <;> rfl) hS (k := 2) rfl (by rw [q4]; exact Nat.le_refl 3) fun w' hS' => ?_
      exact ⟨hS'.toExt (nw_cons rfl (nw_cons rfl (nw_cons rfl nw_nil))), ⟨_, by simp [q4], (fun _ => by rw [List.drop_of_length_le (by rw [q4]; exact Nat.le_refl 3)]; rfl), hS'⟩, (fa_cons id fa_nil)⟩
    replace hF := hA _ hF
    clear hA
    obtain ⟨rl, _, q3, hS⟩ := hP
    obtain rfl := q3 rfl
    replace hF : Fr 56 a [(2, .int .i64 1), (3, .pointer (some ⟨out, 0, none⟩)), (4, vD g2)] := hF.sub ⟨rfl, rfl, rfl, trivial⟩
    clear hR q3
    refine run_done (by decide) ?_
    refine then_normal (hKq18 _ _ ?_)
    refine wp_ret ?_
    refine retTCT (fn := Tryd.f33) (vs := [sV r2.a, sV r2.c, .bool r2.p]) hF rfl Tryd.underlying75 rfl Tryd.sz75 rfl rfl rfl hS (k := 2) rfl ?_
    refine ⟨?_, hS.toExt (nw_cons rfl (nw_cons rfl (nw_cons rfl nw_nil)))⟩
    rw [hnew]
    rfl
  ·
    obtain rfl : ok1 = false := h1
    obtain rfl : ok2 = false := h2
    have hnew : newR bl = (-1, rc0, 0) := by rw [hnw, if_pos ⟨rfl, rfl⟩]
    refine wp_seq_k fun Kq19 hKq19 => ?_
    -- region 4 (ref.go:77)
    refine wp_region_lit ?_
    refine wpList_stp (stp_gv hF (wanted_none rfl) rfl rfl (gv_move rfl (hF.t rfl)) fun a hF => ?_)
    refine wpList_stp (stp_gv hF (wanted_none rfl) rfl rfl (gv_not rfl (hF.t rfl)) fun a hF => ?_)
    refine wpList_stp (stp_gv hF (wanted_none rfl) rfl rfl (gv_move rfl (hF.t rfl)) fun a hF => ?_)
    refine wpList_stp (stp_gv hF (wanted_of hF rfl rfl (rfl)) rfl rfl (gv_move rfl (hF.t rfl)) fun a hF => ?_)
    refine wpList_stp (stp_gv hF (wanted_of hF rfl rfl (rfl)) rfl rfl (gv_not rfl (hF.t rfl)) fun a hF => ?_)
    refine wpList_stp (stp_gv hF (wanted_none rfl) rfl rfl (gv_pickT rfl (hF.t rfl) (hF.t rfl)) fun a hF => ?_)
    refine wpList_nil ?_
    refine then_normal (hKq19 _ _ ?_)
    refine wp_cond_true (hF.t rfl) ?_
    refine wp_seq_k fun Kq20 hKq20 => ?_
    -- region 5 (ref.go:78)
    refine wp_region_lit ?_
    refine wpList_stp (stp_gv hF (wanted_none rfl) rfl rfl (gv_build rfl (EvP.map EvP.nil) (build_rrec0 _)) fun a hF => ?_)
    refine wpList_stp (stp_gv hF (wanted_none rfl) rfl rfl (gv_assign rfl (ev_const _ _)) fun a hF => ?_)
    refine wpList_stp (stp_storeAll hF (wanted_none rfl) rfl rfl (Tryd.sz75.trans (congrArg some (rfl))) (hF.t rfl) (hF.t rfl) ((by intro u hu; simp at hu; rcases hu with rfl | rfl | rfl <;> rfl)) hS (k := 2) rfl (rfl) fun w hS => ?_)
    refine wpList_stp (stp_gv hF (wanted_none rfl) rfl rfl (gv_assign rfl (ev_const _ _)) fun a hF => ?_)
    refine wpList_nil ?_
    refine then_normal (hKq20 _ _ ?_)
    refine wp_ret ?_
    refine then_ret ?_
    refine retTCT (fn := Tryd.f33) (vs := [sV [], sV [], .bool false]) hF rfl Tryd.underlying75 rfl Tryd.sz75 rfl rfl rfl hS (k := 2) rfl ?_
    refine ⟨?_, hS.toExt (nw_cons rfl (nw_cons rfl (nw_cons rfl nw_nil)))⟩
    rw [hnew]
    rfl


end Go.Proofs.YtfhalnobaeogkaaDoor
