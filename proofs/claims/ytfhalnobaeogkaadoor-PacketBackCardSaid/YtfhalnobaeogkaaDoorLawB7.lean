/- What is proved: PacketBack returns true. -/
import Derived.Test.YtfhalnobaeogkaaDoorProg
import Derived.Test.YtfhalnobaeogkaaDoorFwSep
import Derived.KernelRfl
import Derived.Test.YtfhalnobaeogkaaDoorFwApp
import Derived.Test.YtfhalnobaeogkaaDoorFwWord
import Derived.Test.YtfhalnobaeogkaaDoorFwPkt
import Derived.Test.YtfhalnobaeogkaaDoorFwTok
import Derived.Test.YtfhalnobaeogkaaDoorFwFour
import Derived.Test.YtfhalnobaeogkaaDoorDig
import Derived.Test.YtfhalnobaeogkaaDoorSum
import Derived.Test.YtfhalnobaeogkaaDoorWire
import Derived.Test.YtfhalnobaeogkaaDoorPktW
import Derived.Test.YtfhalnobaeogkaaDoorPktR
import Derived.Test.YtfhalnobaeogkaaDoorLeaf
import Derived.Test.YtfhalnobaeogkaaDoorCip
import Derived.Test.YtfhalnobaeogkaaDoorMac
import Derived.Test.YtfhalnobaeogkaaDoorKey
import Derived.Test.YtfhalnobaeogkaaDoorPktK
import Derived.Test.YtfhalnobaeogkaaDoorLawN
import Derived.Test.YtfhalnobaeogkaaDoorCall
import Derived.Test.YtfhalnobaeogkaaDoorLawZ
import Derived.Test.YtfhalnobaeogkaaDoorLawA
import Derived.Test.YtfhalnobaeogkaaDoorCipL
import Derived.Test.YtfhalnobaeogkaaDoorPktS
import Derived.Test.YtfhalnobaeogkaaDoorShp
import Derived.Test.YtfhalnobaeogkaaDoorShp2
set_option linter.unusedVariables false
set_option linter.unusedSimpArgs false
namespace Go.Proofs.YtfhalnobaeogkaaDoor
open Go Go.RowKit Go.Fw




def zb (n : Int) : UInt8 := UInt8.ofNat (n % 256).toNat
theorem gv_conv_z_b {P : Program} {a : Act} {o : Oper} {w : World} {s d : TypeId} {x : Operand} {n : Int} (ho : o.op = .convert s d x) (hs : P.underlying s = some (.int .i64)) (hd : P.underlying d = some (.int .u8)) (hx : a.eval x = .int .i64 n) : Gv P o a w (vB (zb n)) := by
  have := gv_conv (w := w) ho hs hd hx
  have e : IntKind.u8.wrap n = ((zb n).toNat : Int) := by
    rw [zb, UInt8.toNat_ofNat']
    simp only [IntKind.wrap, IntKind.bits, IntKind.signed]
    simp
    omega
  rw [e] at this
  exact this
theorem perm_a {α : Type} (A X Y : List α) : (A ++ (X ++ Y)).Perm (Y ++ (A ++ X)) := by rw [← List.append_assoc]; exact List.perm_append_comm
theorem perm_b {α : Type} (A X Y : List α) : (Y ++ (A ++ X)).Perm (A ++ (X ++ Y)) := (perm_a A X Y).symm
theorem perm_c {α : Type} (d c : α) (X Y : List α) : (d :: (X ++ ([c] ++ Y))).Perm (Y ++ (d :: (X ++ [c]))) := by
  have e : d :: (X ++ ([c] ++ Y)) = (d :: (X ++ [c])) ++ Y := by simp
  rw [e]; exact List.perm_append_comm
theorem perm_d {α : Type} (a c d : α) (X Y : List α) : (a :: (Y ++ (d :: (X ++ [c])))).Perm (d :: c :: a :: (X ++ Y)) := by
  have h1 : (Y ++ (d :: (X ++ [c]))).Perm (d :: (Y ++ (X ++ [c]))) := List.perm_middle
  have h2 : (Y ++ (X ++ [c])).Perm (c :: (X ++ Y)) := by
    refine List.perm_append_comm.trans ?_
    rw [List.append_assoc]
    exact List.perm_middle
  exact ((h1.trans (h2.cons d)).cons a).trans ((List.Perm.swap d a _).trans ((List.Perm.swap c a _).cons d))
theorem pktG_le {h : HT} {pl dl : List UInt8} (h2 : pl.length ≤ 2048) : (pktG h pl dl).length ≤ 4096 := by
  have h8 := padn_le (n := pl.length) (u := 8)
  have h16 := padn_le (n := pl.length) (u := 16)
  unfold pktG
  split
  · rw [pktF_len (by omega)]; omega
  · rw [pktK_len]; omega




set_option maxHeartbeats 4000000 in
theorem back_true {v : Value} {cs : List CallE} {w0 : World} (hG : Glob w0) (hv : CRd w0 v cs) :
    Calls Tryd.prog 6 #[v] w0 fun e w' => e = .returned (.bool true) ∧ Ext w0 w' := by
  obtain ⟨A1, c1, hv1, _⟩ := hv.is
  subst hv1
  have hlen := hv.len
  refine calls_start 89 Tryd.func6 rfl Tryd.ntmps6 rfl fun a hF => ?_
  have hS := St.refl w0
  refine wp_seq_k fun Kq1 hKq1 => ?_
  -- region 0 (law.go:112)
  refine wp_region_lit ?_
  refine wpList_stp (stp_gv hF (wanted_none rfl) rfl rfl (gv_assign rfl (ev_const _ _)) fun a hF => ?_)
  refine wpList_nil ?_
  refine then_normal (hKq1 _ _ ?_)
  refine wp_seq_k fun Kq2 hKq2 => ?_
  refine wp_seq_k fun Kq3 hKq3 => ?_
  -- region 1 (law.go:113)
  refine wp_region_lit ?_
  refine wpList_stp (stp_call hF (wanted_none rfl) rfl rfl Tryd.ok14 rfl Evs.nil (fit_ok hG) fun e w h => ?_)
  obtain ⟨rfl, hx⟩ := h
  refine ⟨_, rfl, fun a hF => ?_⟩
  replace hS := hS.ext hx
  clear hx
  refine wpList_stp (stp_gv hF (wanted_none rfl) rfl rfl (gv_not rfl (hF.t rfl)) fun a hF => ?_)
  refine wpList_nil ?_
  refine then_normal (hKq3 _ _ ?_)
  refine wp_cond_false (hF.t rfl) ?_
  refine wp_skip ?_
  refine then_normal (hKq2 _ _ ?_)
  refine wp_seq_k fun Kq4 hKq4 => ?_
  refine wp_seq_k fun Kq5 hKq5 => ?_
  -- region 3 (law.go:116)
  refine wp_region_lit ?_
  refine wpList_stp (stp_gv hF (wanted_none rfl) rfl rfl (gv_move rfl (hF.t rfl)) fun a hF => ?_)
  refine wpList_stp (stp_call hF (wanted_none rfl) rfl rfl Tryd.ok22 rfl (Evs.cons (hF.t rfl) Evs.nil) (light_ok (hv.ext (hS.toExt nw_nil))) fun e w h => ?_)
  obtain ⟨rfl, hx⟩ := h
  refine ⟨_, rfl, fun a hF => ?_⟩
  replace hS := hS.ext hx
  clear hx
  refine wpList_stp (stp_gv hF (wanted_none rfl) rfl rfl (gv_not rfl (hF.t rfl)) fun a hF => ?_)
  rw [← decide_not] at hF
  refine wpList_nil ?_
  refine then_normal (hKq5 _ _ ?_)
  refine cond_dec (hF.t rfl) (fun h15 => ?_) (fun h15 => ?_)
  ·
    refine wp_seq_k fun Kq6 hKq6 => ?_
    -- region 4 (law.go:117)
    refine wp_region_lit ?_
    refine wpList_stp (stp_gv hF (wanted_none rfl) rfl rfl (gv_assign rfl (ev_const _ _)) fun a hF => ?_)
    refine wpList_nil ?_
    refine then_normal (hKq6 _ _ ?_)
    refine wp_ret ?_
    refine then_ret ?_
    refine ret1 (fn := Tryd.f6) (t := 2) hF rfl rfl ?_
    exact ⟨rfl, hS.toExt nw_nil⟩
  ·
    have hlt : lightN cs cs.length ≤ 100 := by omega
    refine wp_skip ?_
    refine then_normal (hKq4 _ _ ?_)
    refine wp_seq_k fun Kq7 hKq7 => ?_
    -- region 5 (law.go:119)
    refine wp_region_lit ?_
    refine wpList_stp (stp_alloc hF (wanted_none rfl) rfl rfl rfl Tryd.zv37 rfl hS fun xa a w hF hS => ?_)
    refine wpList_nil ?_
    refine then_normal (hKq7 _ _ ?_)
    refine wp_seq_k fun Kq8 hKq8 => ?_
    -- region 6 (law.go:120)
    refine wp_region_lit ?_
    refine wpList_stp (stp_alloc hF (wanted_none rfl) rfl rfl rfl Tryd.zv47 rfl hS fun xr a w hF hS => ?_)
    refine wpList_nil ?_
    refine then_normal (hKq8 _ _ ?_)
    refine wp_seq_k fun Kq9 hKq9 => ?_
    refine wp_seq_k fun Kq10 hKq10 => ?_
    -- region 7 (law.go:121)
    refine wp_region_lit ?_
    refine wpList_stp (stp_gv hF (wanted_none rfl) rfl rfl (gv_move rfl (hF.t rfl)) fun a hF => ?_)
    refine wpList_stp (stp_gv hF (wanted_none rfl) rfl rfl (gv_len rfl Tryd.underlying44 (hF.t rfl)) fun a hF => ?_)
    refine wpList_stp (stp_gv hF (wanted_none rfl) rfl rfl (gv_move rfl (ev_const _ _)) fun a hF => ?_)
    refine wpList_nil ?_
    refine then_normal (hKq10 _ _ ?_)
    refine wp_block ?_
    replace hS : St w0 w ([⟨true, some xa, wrt 0 (.pointer none) (.slice none 0 0) 0⟩] ++ [⟨true, some xr, rdr 0 (.pointer none) (.slice none 0 0) 0 (ownV none ([] : List UInt8).length (([] : List UInt8).length + ([] : List Value).length)) (.slice none 0 0) false⟩, rowE none [] []]) := ((hS.addNil (blk 5 (([] : List UInt8).map vB ++ []))).move (k := 1) rfl).move (k := 2) rfl
    refine wp_loop_n (fun q a w => ∃ (i : Nat) (h : HT) (X Y : List Ent), i ≤ cs.length ∧ q = cs.length - i ∧ h.n ≤ i ∧ WShape w0 xa h X ∧ RShape w0 xr h [] Y ∧ Fr 89 a [(3, .pointer (some ⟨xa, 0, none⟩)), (4, .pointer (some ⟨xr, 0, none⟩)), (16, .slice A1 cs.length c1), (17, vI cs.length), (18, vI i)] ∧ St w0 w (X ++ Y)) cs.length ⟨0, ⟨0, 0, none⟩, _, _, by omega, by omega, by show 0 ≤ 0; omega, WShape.plain 0 0, RShape.plain 0 0 [] none [] (fun _ => ⟨rfl, rfl⟩) (by simp), hF.sub ⟨rfl, rfl, rfl, rfl, rfl, trivial⟩, hS⟩ ?_
    rintro q a w ⟨i, h, X, Y, hi, hq, hni, hX, hY, hF, hS⟩
    have hll := light_len cs cs.length (Nat.le_refl _)
    have hXn := hX.nw
    have hYn := hY.nw
    have hXY := nw_app hXn hYn
    refine wp_seq_k fun Kq11 hKq11 => ?_
    -- region 8 (law.go:121)
    refine wp_region_lit ?_
    refine wpList_stp (stp_gv hF (wanted_none rfl) rfl rfl (gv_lss rfl (hF.t rfl) (hF.t rfl)) fun a hF => ?_)
    refine wpList_nil ?_
    refine then_normal (hKq11 _ _ ?_)
    refine wp_seq_k fun Kq12 hKq12 => ?_
    refine cond_dec (hF.t rfl) (fun h19 => ?_) (fun h19 => ?_)
    ·
      obtain ⟨b1, o1, ⟨kd, dv, bl, dr, nn⟩, hA1, hx1, hcell, hdv, hbl, hdr, hnn⟩ := hv.at (i := i) (by omega)
      obtain ⟨Ad, cd, hdv0, hd1, hd2, _⟩ := hdv.isB
      simp only at hdv0 hbl hdr hnn
      subst hdv0
      subst hA1
      have hsm := light_small hlt hx1
      simp only at hsm
      refine wp_skip ?_
      refine then_normal (hKq12 _ _ ?_)
      refine wp_seq_k fun Kq13 hKq13 => ?_
      refine wp_block ?_
      refine wp_seq_k fun Kq14 hKq14 => ?_
      -- region 9 (law.go:121)
      refine wp_region_lit ?_
      refine wpList_stp (stp_gv hF (wanted_none rfl) rfl rfl (gv_indexSl rfl Tryd.underlying44 Tryd.sz55 (hF.t rfl) (hF.t rfl) (by omega)) fun a hF => ?_)
      refine wpList_stp (stp_gv hF (wanted_none rfl) rfl rfl (gv_loadAgg (vs := [.int .i64 kd, .slice Ad bl.length cd, sV dr, .int .i64 nn]) rfl Tryd.underlying55 rfl (Tryd.sz55.trans (congrArg some (by rfl))) (hF.t rfl) (fun j u hu => cell_ext (hcell j u hu) (hS.toExt hXY))) fun a hF => ?_)
      refine wpList_stp (stp_alloc hF (wanted_none rfl) rfl rfl rfl Tryd.zv55 rfl hS fun cx a w hF hS => ?_)
      refine wpList_stp (stp_storeAll hF (wanted_none rfl) rfl rfl (Tryd.sz55.trans (congrArg some (by rfl))) (hF.t rfl) (hF.t rfl) (cells_one (x := ⟨kd, .slice Ad bl.length cd, bl, dr, nn⟩) hdv) hS (k := 0) rfl (by rfl) fun w hS => ?_)
      refine wpList_nil ?_
      refine then_normal (hKq14 _ _ ?_)
      refine wp_seq_k fun Kq15 hKq15 => ?_
      refine wp_seq_k fun Kq16 hKq16 => ?_
      -- region 10 (law.go:122)
      refine wp_region_lit ?_
      refine wpList_stp (stp_gv hF (wanted_none rfl) rfl rfl (gv_field (r := 0) rfl Tryd.underlying55 rfl rfl Tryd.sz3 (by decide) (hF.t rfl)) fun a hF => ?_)
      refine wpList_stp (stp_gv hF (wanted_none rfl) rfl rfl (gv_load rfl Tryd.underlying3 rfl (hF.t rfl) (cell_ix (j := 0) (hS.cell (k := 0) rfl (rfl)) (by omega))) fun a hF => ?_)
      refine wpList_stp (stp_gv hF (wanted_none rfl) rfl rfl (gv_eql rfl (hF.t rfl) (ev_const _ _)) fun a hF => ?_)
      refine wpList_nil ?_
      refine then_normal (hKq16 _ _ ?_)
      refine cond_dec (hF.t rfl) (fun h24 => ?_) (fun h24 => ?_)
      ·
        refine wp_seq_k fun Kq17 hKq17 => ?_
        -- region 11 (law.go:123)
        refine wp_region_lit ?_
        refine wpList_stp (stp_gv hF (wanted_none rfl) rfl rfl (gv_field (r := 0) rfl Tryd.underlying37 rfl rfl Tryd.sz35 (by decide) (hF.t rfl)) fun a hF => ?_)
        refine wpList_stp (stp_gv hF (wanted_none rfl) rfl rfl (gv_field (r := 3) rfl Tryd.underlying55 rfl rfl Tryd.sz3 (by decide) (hF.t rfl)) fun a hF => ?_)
        refine wpList_stp (stp_gv hF (wanted_none rfl) rfl rfl (gv_load rfl Tryd.underlying3 rfl (hF.t rfl) (cell_ix (j := 3) (hS.cell (k := 0) rfl (rfl)) (by omega))) fun a hF => ?_)
        refine wpList_stp (stp_gv hF (wanted_none rfl) rfl rfl (gv_conv_z_b rfl Tryd.underlying3 Tryd.underlying5 (hF.t rfl)) fun a hF => ?_)
        refine wpList_stp (stp_call hF (wanted_none rfl) rfl rfl Tryd.ok20 rfl (Evs.cons (hF.t rfl) Evs.nil) (keys_ok (c := zb nn)) fun e w h => ?_)
        obtain ⟨k1, rfl, hN⟩ := h
        refine ⟨_, rfl, fun a hF => ?_⟩
        replace hS := hS.join hN (nw_cons rfl nw_nil)
        simp only [List.cons_append, List.nil_append] at hS
        clear hN
        replace hS := (show St w0 w ([(⟨true, some k1, blkB 5 (kbs (zb nn) 64)⟩ : Ent), ⟨true, some cx, blk 55 [.int .i64 kd, .slice Ad bl.length cd, sV dr, .int .i64 nn]⟩] ++ (X ++ Y)) from hS).perm (List.perm_append_comm_assoc _ X Y)
        refine wpList_stp (stp_call hF (wanted_none rfl) rfl rfl Tryd.ok19 rfl (Evs.cons (hF.t rfl) (Evs.cons (hF.t rfl) Evs.nil)) (take_w hX (nw_cons rfl (nw_cons rfl hYn)) hS List.mem_cons_self) fun e w g => ?_)
        obtain ⟨rfl, X2, hX2, hS⟩ := g
        refine ⟨_, rfl, fun a hF => ?_⟩
        replace hS : St w0 w (⟨true, some cx, blk 55 [.int .i64 kd, .slice Ad bl.length cd, sV dr, .int .i64 nn]⟩ :: (X2 ++ Y)) := (hS.perm (List.perm_append_comm_assoc X2 [(⟨true, some k1, blkB 5 (kbs (zb nn) 64)⟩ : Ent), ⟨true, some cx, blk 55 [.int .i64 kd, .slice Ad bl.length cd, sV dr, .int .i64 nn]⟩] Y)).drop rfl
        refine wpList_nil ?_
        refine then_normal (hKq17 _ _ ?_)
        refine wp_seq_k fun Kq18 hKq18 => ?_
        -- region 12 (law.go:124)
        refine wp_region_lit ?_
        refine wpList_stp (stp_gv hF (wanted_none rfl) rfl rfl (gv_field (r := 0) rfl Tryd.underlying47 rfl rfl Tryd.sz35 (by decide) (hF.t rfl)) fun a hF => ?_)
        refine wpList_stp (stp_gv hF (wanted_none rfl) rfl rfl (gv_field (r := 3) rfl Tryd.underlying55 rfl rfl Tryd.sz3 (by decide) (hF.t rfl)) fun a hF => ?_)
        refine wpList_stp (stp_gv hF (wanted_none rfl) rfl rfl (gv_load rfl Tryd.underlying3 rfl (hF.t rfl) (cell_ix (j := 3) (hS.cell (k := 0) rfl (rfl)) (by omega))) fun a hF => ?_)
        refine wpList_stp (stp_gv hF (wanted_none rfl) rfl rfl (gv_conv_z_b rfl Tryd.underlying3 Tryd.underlying5 (hF.t rfl)) fun a hF => ?_)
        refine wpList_stp (stp_call hF (wanted_none rfl) rfl rfl Tryd.ok20 rfl (Evs.cons (hF.t rfl) Evs.nil) (keys_ok (c := zb nn)) fun e w h => ?_)
        obtain ⟨k2, rfl, hN⟩ := h
        refine ⟨_, rfl, fun a hF => ?_⟩
        replace hS := hS.join hN (nw_cons rfl nw_nil)
        simp only [List.cons_append, List.nil_append] at hS
        clear hN
        replace hS := (show St w0 w ([(⟨true, some k2, blkB 5 (kbs (zb nn) 64)⟩ : Ent), ⟨true, some cx, blk 55 [.int .i64 kd, .slice Ad bl.length cd, sV dr, .int .i64 nn]⟩] ++ (X2 ++ Y)) from hS).perm (perm_a _ X2 Y)
        refine wpList_stp (stp_call hF (wanted_none rfl) rfl rfl Tryd.ok19 rfl (Evs.cons (hF.t rfl) (Evs.cons (hF.t rfl) Evs.nil)) (take_r hY (nw_cons rfl (nw_cons rfl hX2.nw)) hS List.mem_cons_self) fun e w g => ?_)
        obtain ⟨rfl, Y2, hY2, hS⟩ := g
        refine ⟨_, rfl, fun a hF => ?_⟩
        replace hS : St w0 w (X2 ++ Y2) := ((hS.perm (perm_b [(⟨true, some k2, blkB 5 (kbs (zb nn) 64)⟩ : Ent), ⟨true, some cx, blk 55 [.int .i64 kd, .slice Ad bl.length cd, sV dr, .int .i64 nn]⟩] X2 Y2)).drop rfl).drop rfl
        refine wpList_nil ?_
        refine then_normal (hKq18 _ _ ?_)
        refine wp_exit ?_
        refine then_exit ?_
        refine block_exit ?_
        refine then_normal (hKq13 _ _ ?_)
        -- region 19 (law.go:121)
        refine wp_region_lit ?_
        refine wpList_stp (stp_gv hF (wanted_none rfl) rfl rfl (gv_nadd (n := 1) rfl (hF.t rfl) rfl (by omega)) fun a hF => ?_)
        refine wpList_stp (stp_gv hF (wanted_none rfl) rfl rfl (gv_move rfl (hF.t rfl)) fun a hF => ?_)
        refine wpList_nil ?_
        refine then_normal ?_
        exact ⟨q - 1, by omega, i + 1, takeH h (zb nn), X2, Y2, by omega, by omega, by show 0 ≤ i + 1; omega, hX2, hY2, hF.sub ⟨rfl, rfl, rfl, rfl, rfl, trivial⟩, hS⟩
      ·
        refine wp_skip ?_
        refine then_normal (hKq15 _ _ ?_)
        refine wp_seq_k fun Kq19 hKq19 => ?_
        refine wp_seq_k fun Kq20 hKq20 => ?_
        -- region 13 (law.go:127)
        refine wp_region_lit ?_
        refine wpList_stp (stp_gv hF (wanted_none rfl) rfl rfl (gv_field (r := 1) rfl Tryd.underlying55 rfl rfl Tryd.sz22 (by decide) (hF.t rfl)) fun a hF => ?_)
        refine wpList_stp (stp_gv hF (wanted_none rfl) rfl rfl (gv_load rfl Tryd.underlying22 rfl (hF.t rfl) (cell_ix (j := 1) (hS.cell (k := 0) rfl (rfl)) (by omega))) fun a hF => ?_)
        refine wpList_stp (stp_gv hF (wanted_none rfl) rfl rfl (gv_len rfl Tryd.underlying22 (hF.t rfl)) fun a hF => ?_)
        refine wpList_stp (stp_gv hF (wanted_none rfl) rfl rfl (gv_eql rfl (hF.t rfl) (ev_const _ _)) fun a hF => ?_)
        refine wpList_stp (stp_gv hF (wanted_none rfl) rfl rfl (gv_move rfl (hF.t rfl)) fun a hF => ?_)
        refine wpList_stp (stp_gvG' hF rfl rfl rfl rfl rfl (fun hg => gv_field (r := 1) rfl Tryd.underlying55 rfl rfl Tryd.sz22 (by decide) (hF.t rfl)) fun a hF => ?_)
        refine wpList_stp (stp_gvG' hF rfl rfl rfl rfl rfl (fun hg => gv_load rfl Tryd.underlying22 rfl ((hF.t rfl).trans (if_neg hg)) (cell_ix (j := 1) (hS.cell (k := 0) rfl (rfl)) (by omega))) fun a hF => ?_)
        refine wpList_stp (stp_gvG' hF rfl rfl rfl rfl rfl (fun hg => gv_len rfl Tryd.underlying22 ((hF.t rfl).trans (if_neg hg))) fun a hF => ?_)
        refine wpList_stp (stp_gvG' hF rfl rfl rfl rfl rfl (fun hg => gv_gtr rfl ((hF.t rfl).trans (if_neg hg)) (ev_const _ _)) fun a hF => ?_)
        refine wpList_stp (stp_gv hF (wanted_none rfl) rfl rfl (gv_pickOr rfl (hF.t rfl) (ev_const _ _) (hF.t rfl)) fun a hF => ?_)
        refine wpList_nil ?_
        refine then_normal (hKq20 _ _ ?_)
        refine cond_dec (hF.t rfl) (fun h46 => ?_) (fun h46 => ?_)
        ·
          refine wp_exit ?_
          refine then_exit ?_
          refine block_exit ?_
          refine then_normal (hKq13 _ _ ?_)
          -- region 19 (law.go:121)
          refine wp_region_lit ?_
          refine wpList_stp (stp_gv hF (wanted_none rfl) rfl rfl (gv_nadd (n := 1) rfl (hF.t rfl) rfl (by omega)) fun a hF => ?_)
          refine wpList_stp (stp_gv hF (wanted_none rfl) rfl rfl (gv_move rfl (hF.t rfl)) fun a hF => ?_)
          refine wpList_nil ?_
          refine then_normal ?_
          exact ⟨q - 1, by omega, i + 1, h, X, Y, by omega, by omega, by omega, hX, hY, hF.sub ⟨rfl, rfl, rfl, rfl, rfl, trivial⟩, hS.drop rfl⟩
        ·
          have hbl1 : 1 ≤ bl.length := by omega
          have hbl2 : bl.length ≤ 2048 := by omega
          refine wp_skip ?_
          refine then_normal (hKq19 _ _ ?_)
          refine wp_seq_k fun Kq21 hKq21 => ?_
          -- region 14 (law.go:130)
          refine wp_region_lit ?_
          refine wpList_stp (stp_gv hF (wanted_none rfl) rfl rfl (gv_field (r := 1) rfl Tryd.underlying55 rfl rfl Tryd.sz22 (by decide) (hF.t rfl)) fun a hF => ?_)
          refine wpList_stp (stp_gv hF (wanted_none rfl) rfl rfl (gv_load rfl Tryd.underlying22 rfl (hF.t rfl) (cell_ix (j := 1) (hS.cell (k := 0) rfl (rfl)) (by omega))) fun a hF => ?_)
          refine wpList_stp (stp_gv hF (wanted_none rfl) rfl rfl (gv_field (r := 2) rfl Tryd.underlying55 rfl rfl Tryd.sz9 (by decide) (hF.t rfl)) fun a hF => ?_)
          refine wpList_stp (stp_gv hF (wanted_none rfl) rfl rfl (gv_load rfl Tryd.underlying9 rfl (hF.t rfl) (cell_ix (j := 2) (hS.cell (k := 0) rfl (rfl)) (by omega))) fun a hF => ?_)
          replace hS := (show St w0 w ([⟨true, some cx, blk 55 [.int .i64 kd, .slice Ad bl.length cd, sV dr, .int .i64 nn]⟩] ++ (X ++ Y)) from hS).perm (List.perm_append_comm_assoc _ X Y)
          refine wpList_stp (stp_call hF (wanted_none rfl) rfl rfl Tryd.ok15 rfl (Evs.cons (hF.t rfl) (Evs.cons (hF.t rfl) (Evs.cons (hF.t rfl) Evs.nil))) (write_g (pl := bl) (dl := dr) hG hX (nw_cons rfl hYn) hS (SRd.old hdv) hbl1 hbl2 (by omega) (by omega)) fun e w g => ?_)
          obtain ⟨pv, X2, rfl, hX2, x, xp, rfl, xo, xc, hS⟩ := g
          refine ⟨_, rfl, fun a hF => ?_⟩
          refine wpList_stp (stp_gv hF (wanted_none rfl) rfl rfl (gv_move rfl (hF.t rfl)) fun a hF => ?_)
          refine wpList_stp (stp_gv hF (wanted_none rfl) rfl rfl (gv_extract rfl (hF.t rfl) rfl) fun a hF => ?_)
          refine wpList_stp (stp_gv hF (wanted_none rfl) rfl rfl (gv_extract rfl (hF.t rfl) rfl) fun a hF => ?_)
          refine wpList_stp (stp_gv hF (wanted_none rfl) rfl rfl (gv_assign rfl (hF.t rfl)) fun a hF => ?_)
          refine wpList_stp (stp_gv hF (wanted_none rfl) rfl rfl (gv_assign rfl (hF.t rfl)) fun a hF => ?_)
          refine wpList_nil ?_
          refine then_normal (hKq21 _ _ ?_)
          refine wp_seq_k fun Kq22 hKq22 => ?_
          -- region 15 (law.go:131)
          refine wp_region_lit ?_
          refine wpList_stp (stp_gv hF (wanted_none rfl) rfl rfl (gv_move rfl (hF.t rfl)) fun a hF => ?_)
          replace hS := (show St w0 w ((rowE x (pktG h bl dr) xp) :: (X2 ++ ([⟨true, some cx, blk 55 [.int .i64 kd, .slice Ad bl.length cd, sV dr, .int .i64 nn]⟩] ++ Y))) from hS).perm (perm_c _ _ X2 Y)
          have hpl := pktG_le (h := h) (pl := bl) (dl := dr) hbl2
          have hnT : ∀ e ∈ ((rowE x (pktG h bl dr) xp) :: (X2 ++ [⟨true, some cx, blk 55 [.int .i64 kd, .slice Ad bl.length cd, sV dr, .int .i64 nn]⟩])), e.nw = true := nw_cons rfl (nw_app hX2.nw (nw_cons rfl nw_nil))
          refine wpList_stp (stp_call hF (wanted_none rfl) rfl rfl Tryd.ok16 rfl (Evs.cons (hF.t rfl) (Evs.cons (hF.t rfl) Evs.nil)) (feed_g hY hnT hS (own_rd (l := pktG h bl dr) List.mem_cons_self xo rfl xc) (by simp; omega)) fun e w g => ?_)
          obtain ⟨rfl, Y2, hY2, hS⟩ := g
          refine ⟨_, rfl, fun a hF => ?_⟩
          rw [List.nil_append] at hY2
          refine wpList_nil ?_
          refine then_normal (hKq22 _ _ ?_)
          refine wp_seq_k fun Kq23 hKq23 => ?_
          -- region 16 (law.go:132)
          refine wp_region_lit ?_
          refine wpList_stp (stp_call hF (wanted_none rfl) rfl rfl Tryd.ok17 rfl (Evs.cons (hF.t rfl) Evs.nil) (read_g (pl := bl) (dl := dr) hG hY2 hnT hS hbl1 hbl2 (by omega)) fun e w g => ?_)
          obtain ⟨rv, o, op, W, Y3, rfl, hY3, hS, hrv⟩ := g
          refine ⟨_, rfl, fun a hF => ?_⟩
          replace hS : St w0 w (⟨true, some cx, blk 55 [.int .i64 kd, .slice Ad bl.length cd, sV dr, .int .i64 nn]⟩ :: rowE (some o) W op :: (X2 ++ Y3)) := (hS.perm (perm_d _ _ _ X2 Y3)).drop rfl
          have hnA : ∀ e ∈ (⟨true, some cx, blk 55 [.int .i64 kd, .slice Ad bl.length cd, sV dr, .int .i64 nn]⟩ : Ent) :: rowE (some o) W op :: (X2 ++ Y3), e.nw = true := nw_cons rfl (nw_cons rfl (nw_app hX2.nw hY3.nw))
          refine wpList_stp (stp_gv hF (wanted_none rfl) rfl rfl (gv_move rfl (hF.t rfl)) fun a hF => ?_)
          refine wpList_stp (stp_gv hF (wanted_none rfl) rfl rfl (gv_extract rfl (hF.t rfl) rfl) fun a hF => ?_)
          refine wpList_stp (stp_gv hF (wanted_none rfl) rfl rfl (gv_extract rfl (hF.t rfl) rfl) fun a hF => ?_)
          refine wpList_stp (stp_gv hF (wanted_none rfl) rfl rfl (gv_assign rfl (hF.t rfl)) fun a hF => ?_)
          refine wpList_stp (stp_gv hF (wanted_none rfl) rfl rfl (gv_assign rfl (hF.t rfl)) fun a hF => ?_)
          refine wpList_nil ?_
          refine then_normal (hKq23 _ _ ?_)
          refine wp_seq_k fun Kq24 hKq24 => ?_
          -- region 17 (law.go:133)
          refine wp_region_lit ?_
          refine wpList_stp (stp_gv hF (wanted_none rfl) rfl rfl (gv_move rfl (hF.t rfl)) fun a hF => ?_)
          refine wpList_stp (stp_gv hF (wanted_none rfl) rfl rfl (gv_move rfl (hF.t rfl)) fun a hF => ?_)
          refine wpList_stp (stp_gv hF (wanted_none rfl) rfl rfl (gv_nadd (m := 0) (n := 0) rfl (hF.t rfl) (hF.t rfl) (by omega)) fun a hF => ?_)
          refine wpList_stp (stp_gv hF (wanted_none rfl) rfl rfl (gv_neqF rfl (hF.t rfl) (ev_const _ _) (by decide)) fun a hF => ?_)
          refine wpList_stp (stp_gv hF (wanted_none rfl) rfl rfl (gv_move rfl (hF.t rfl)) fun a hF => ?_)
          refine wpList_stp (stp_gv hF (wanted_of hF rfl rfl (rfl)) rfl rfl (gv_move rfl (hF.t rfl)) fun a hF => ?_)
          refine wpList_stp (stp_gv hF (wanted_of hF rfl rfl (rfl)) rfl rfl (gv_convStr (l := bl) rfl Tryd.underlying22 Tryd.underlying5 Tryd.underlying9 (hF.t rfl) (hrv _ _ hS hnA (fun e he => by obtain rfl := List.mem_singleton.1 he; exact (List.mem_of_getElem? (i := 1) rfl)))) fun a hF => ?_)
          refine wpList_stp (stp_gv hF (wanted_of hF rfl rfl (rfl)) rfl rfl (gv_field (r := 1) rfl Tryd.underlying55 rfl rfl Tryd.sz22 (by decide) (hF.t rfl)) fun a hF => ?_)
          refine wpList_stp (stp_gv hF (wanted_of hF rfl rfl (rfl)) rfl rfl (gv_load rfl Tryd.underlying22 rfl (hF.t rfl) (cell_ix (j := 1) (hS.cell (k := 0) rfl (rfl)) (by omega))) fun a hF => ?_)
          refine wpList_stp (stp_gv hF (wanted_of hF rfl rfl (rfl)) rfl rfl (gv_convStr (l := bl) rfl Tryd.underlying22 Tryd.underlying5 Tryd.underlying9 (hF.t rfl) (hdv.ext (hS.toExt hnA))) fun a hF => ?_)
          refine wpList_stp (stp_gv hF (wanted_of hF rfl rfl (rfl)) rfl rfl (gv_strNeqF rfl (hF.t rfl) (hF.t rfl) rfl) fun a hF => ?_)
          refine wpList_stp (stp_gv hF (wanted_none rfl) rfl rfl (gv_pickF rfl (hF.t rfl) (hF.t rfl)) fun a hF => ?_)
          refine wpList_stp (stp_gv hF (wanted_none rfl) rfl rfl (gv_move rfl (hF.t rfl)) fun a hF => ?_)
          refine wpList_stp (stp_call hF (wanted_of hF rfl rfl (rfl)) rfl rfl Tryd.ok18 rfl (Evs.cons (hF.t rfl) Evs.nil) (left_g hY3 hS (fun e he => List.mem_cons_of_mem _ (List.mem_cons_of_mem _ (List.mem_append_right _ he)))) fun e w h => ?_)
          obtain ⟨rfl, hx⟩ := h
          refine ⟨_, rfl, fun a hF => ?_⟩
          replace hS := hS.ext hx
          clear hx
          refine wpList_stp (stp_gv hF (wanted_none rfl) rfl rfl (gv_pickF rfl (hF.t rfl) (hF.t rfl)) fun a hF => ?_)
          refine wpList_nil ?_
          refine then_normal (hKq24 _ _ ?_)
          refine wp_cond_false (hF.t rfl) ?_
          refine wp_skip ?_
          refine block_normal ?_
          refine then_normal (hKq13 _ _ ?_)
          -- region 19 (law.go:121)
          refine wp_region_lit ?_
          refine wpList_stp (stp_gv hF (wanted_none rfl) rfl rfl (gv_nadd (n := 1) rfl (hF.t rfl) rfl (by omega)) fun a hF => ?_)
          refine wpList_stp (stp_gv hF (wanted_none rfl) rfl rfl (gv_move rfl (hF.t rfl)) fun a hF => ?_)
          refine wpList_nil ?_
          refine then_normal ?_
          exact ⟨q - 1, by omega, i + 1, stepG h bl dr, X2, Y3, by omega, by omega, by show h.n + 1 ≤ i + 1; omega, hX2, hY3, hF.sub ⟨rfl, rfl, rfl, rfl, rfl, trivial⟩, (hS.drop rfl).drop rfl⟩
    ·
      refine wp_exit ?_
      refine then_exit ?_
      refine then_exit ?_
      refine block_exit ?_
      refine then_normal (hKq9 _ _ ?_)
      refine wp_seq_k fun Kq25 hKq25 => ?_
      -- region 20 (law.go:137)
      refine wp_region_lit ?_
      refine wpList_stp (stp_gv hF (wanted_none rfl) rfl rfl (gv_field (r := 0) rfl Tryd.underlying37 rfl rfl Tryd.sz35 (by decide) (hF.t rfl)) fun a hF => ?_)
      refine wpList_stp (stp_call hF (wanted_none rfl) rfl rfl Tryd.ok21 rfl (Evs.cons (hF.t rfl) Evs.nil) (num_ok (hX.cells hS (fun e he => List.mem_append_left _ he)).1) fun e w h => ?_)
      obtain ⟨rfl, hx⟩ := h
      refine ⟨_, rfl, fun a hF => ?_⟩
      replace hS := hS.ext hx
      clear hx
      refine wpList_stp (stp_gv hF (wanted_none rfl) rfl rfl (gv_field (r := 0) rfl Tryd.underlying47 rfl rfl Tryd.sz35 (by decide) (hF.t rfl)) fun a hF => ?_)
      refine wpList_stp (stp_call hF (wanted_none rfl) rfl rfl Tryd.ok21 rfl (Evs.cons (hF.t rfl) Evs.nil) (num_ok (hY.cells hS (fun e he => List.mem_append_right _ he)).1) fun e w h => ?_)
      obtain ⟨rfl, hx⟩ := h
      refine ⟨_, rfl, fun a hF => ?_⟩
      replace hS := hS.ext hx
      clear hx
      refine wpList_stp (stp_gv hF (wanted_none rfl) rfl rfl (gv_eqlT rfl (hF.t rfl) (hF.t rfl) (rfl)) fun a hF => ?_)
      refine wpList_stp (stp_gv hF (wanted_none rfl) rfl rfl (gv_move rfl (hF.t rfl)) fun a hF => ?_)
      refine wpList_stp (stp_gv hF (wanted_of hF rfl rfl (rfl)) rfl rfl (gv_field (r := 0) rfl Tryd.underlying37 rfl rfl Tryd.sz35 (by decide) (hF.t rfl)) fun a hF => ?_)
      refine wpList_stp (stp_call hF (wanted_of hF rfl rfl (rfl)) rfl rfl Tryd.ok24 rfl (Evs.cons (hF.t rfl) Evs.nil) (cnt_ok (hX.cells hS (fun e he => List.mem_append_left _ he)).2) fun e w h => ?_)
      obtain ⟨rfl, hx⟩ := h
      refine ⟨_, rfl, fun a hF => ?_⟩
      replace hS := hS.ext hx
      clear hx
      refine wpList_stp (stp_gv hF (wanted_of hF rfl rfl (rfl)) rfl rfl (gv_field (r := 0) rfl Tryd.underlying47 rfl rfl Tryd.sz35 (by decide) (hF.t rfl)) fun a hF => ?_)
      refine wpList_stp (stp_call hF (wanted_of hF rfl rfl (rfl)) rfl rfl Tryd.ok24 rfl (Evs.cons (hF.t rfl) Evs.nil) (cnt_ok (hY.cells hS (fun e he => List.mem_append_right _ he)).2.1) fun e w h => ?_)
      obtain ⟨rfl, hx⟩ := h
      refine ⟨_, rfl, fun a hF => ?_⟩
      replace hS := hS.ext hx
      clear hx
      refine wpList_stp (stp_gv hF (wanted_of hF rfl rfl (rfl)) rfl rfl (gv_eqlT rfl (hF.t rfl) (hF.t rfl) (rfl)) fun a hF => ?_)
      refine wpList_stp (stp_gv hF (wanted_none rfl) rfl rfl (gv_pickT rfl (hF.t rfl) (hF.t rfl)) fun a hF => ?_)
      refine wpList_stp (stp_gv hF (wanted_none rfl) rfl rfl (gv_assign rfl (hF.t rfl)) fun a hF => ?_)
      refine wpList_nil ?_
      refine then_normal (hKq25 _ _ ?_)
      refine wp_ret ?_
      refine ret1 (fn := Tryd.f6) (t := 2) hF rfl rfl ?_
      exact ⟨rfl, hS.toExt hXY⟩


end Go.Proofs.YtfhalnobaeogkaaDoor
