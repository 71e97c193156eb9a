/- What is proved: how a half of a disk is read. -/
import Derived.Test.YtfhalnobaeogkaaDoorProg
import Derived.Test.YtfhalnobaeogkaaDoorFwSep
import Derived.KernelRfl
import Derived.Test.YtfhalnobaeogkaaDoorFwSto
import Derived.Test.YtfhalnobaeogkaaDoorFwVlt
import Derived.Test.YtfhalnobaeogkaaDoorFwApp
import Derived.Test.YtfhalnobaeogkaaDoorFwWord
import Derived.Test.YtfhalnobaeogkaaDoorFwPkt
import Derived.Test.YtfhalnobaeogkaaDoorFwTok
import Derived.Test.YtfhalnobaeogkaaDoorDig
import Derived.Test.YtfhalnobaeogkaaDoorSum
import Derived.Test.YtfhalnobaeogkaaDoorWire
import Derived.Test.YtfhalnobaeogkaaDoorPktW
import Derived.Test.YtfhalnobaeogkaaDoorPktR
import Derived.Test.YtfhalnobaeogkaaDoorWireA
import Derived.Test.YtfhalnobaeogkaaDoorDisk
import Derived.Test.YtfhalnobaeogkaaDoorHead
set_option linter.unusedVariables false
set_option linter.unusedSimpArgs false
namespace Go.Proofs.YtfhalnobaeogkaaDoor
open Go Go.RowKit Go.Fw

theorem Tryd.sz63 : (Tryd.prog.info? 63).map (·.size) = some 3 := by kernel_rfl
theorem Tryd.zv63 : (Tryd.prog.info? 63).map (·.zero) = some (some (Value.agg ([Value.string .empty] ++ [Value.string .empty] ++ [Value.bool false]).toArray)) := by kernel_rfl
theorem Tryd.ok31 : CallOk Tryd.prog 31 := ⟨_, Tryd.func31, by kernel_rfl, by kernel_rfl⟩
theorem Tryd.ok32 : CallOk Tryd.prog 32 := ⟨_, Tryd.func32, by kernel_rfl, by kernel_rfl⟩
theorem Tryd.ok42 : CallOk Tryd.prog 42 := ⟨_, Tryd.func42, by kernel_rfl, by kernel_rfl⟩
theorem Tryd.ok61 : CallOk Tryd.prog 61 := ⟨_, Tryd.func61, by kernel_rfl, by kernel_rfl⟩
theorem Tryd.ok75 : CallOk Tryd.prog 75 := ⟨_, Tryd.func75, by kernel_rfl, by kernel_rfl⟩
theorem Tryd.ok76 : CallOk Tryd.prog 76 := ⟨_, Tryd.func76, by kernel_rfl, by kernel_rfl⟩
theorem Tryd.ok77 : CallOk Tryd.prog 77 := ⟨_, Tryd.func77, by kernel_rfl, by kernel_rfl⟩


theorem Tryd.methBlocks : MethOk Tryd.prog 65 "Blocks" 42 := ⟨by kernel_rfl, by kernel_rfl, Tryd.ok42⟩
theorem Tryd.methRead : MethOk Tryd.prog 65 "Read" 31 := ⟨by kernel_rfl, by kernel_rfl, Tryd.ok31⟩
theorem Tryd.methWrite : MethOk Tryd.prog 65 "Write" 32 := ⟨by kernel_rfl, by kernel_rfl, Tryd.ok32⟩
theorem Tryd.conc65 : Tryd.prog.concrete 65 = true := by kernel_rfl
/-- A record. -/
structure Rc where
  a : List UInt8
  c : List UInt8
  p : Bool
def rc0 : Rc := ⟨[], [], false⟩
def Rc.v (r : Rc) : Value := recV r.a r.c r.p
def hblk (l : List UInt8) (n i : Nat) : List UInt8 := blkF l (i * (n / 2))
def hs0 (B : List UInt8) : RSt := some ((B.take 16).drop 4)
def hgen (B : List UInt8) : UInt64 := (u32R (hs0 B)).1.toUInt64 <<< UInt64.ofNat 32 ||| (u32R (u32R (hs0 B)).2).1.toUInt64
def hsize (B : List UInt8) : Nat := (u32R (u32R (u32R (hs0 B)).2).2).1.toNat
def hdat (l : List UInt8) (n i : Nat) : List UInt8 := (l.drop (64 * (i * (n / 2) + 1))).take (hsize (hblk l n i))
def parseF (b : List UInt8) : Rc × Bool :=
  (⟨(textR (some b)).1, (textR (textR (some b)).2).1, decide ((byteR (textR (textR (some b)).2).2).1 ≠ 0)⟩, decide ((byteR (textR (textR (some b)).2).2).2 = some []))
/-- A half's record and generation; false: it can't be read. -/
def halfF (l : List UInt8) (n i : Nat) : Rc × UInt64 × Bool :=
  if (n / 2 - 1) * 64 < hsize (hblk l n i) then (rc0, 0, false)
  else if headF (hgen (hblk l n i)) (hdat l n i) ≠ hblk l n i then (rc0, 0, false)
  else ((parseF (hdat l n i)).1, hgen (hblk l n i), (parseF (hdat l n i)).2)
theorem rdF_in {D : Dk} {n q : Nat} (h : q < n) : rdF D n (q : Int) = blkF D.l q := by rw [rdF, if_neg (by omega)]; rfl
theorem build_rec0 (w : World) : (Instr.build 63 #[]).run Tryd.prog w = .ok (.agg [sV [], sV [], .bool false].toArray) w := by
  refine run_buildStr (pl := []) (places := #[(0, 1), (1, 1), (2, 1)]) Tryd.underlying63 Tryd.zv63 rfl (fun w => ?_) rfl
  simp [Fw.run_sizeOf Tryd.sz9, Fw.run_sizeOf Tryd.sz4]
theorem build_rec (a c : List UInt8) (p : Bool) (w : World) : (Instr.build 63 #[(0, sV a), (1, sV c), (2, .bool p)]).run Tryd.prog w = .ok (.agg [sV a, sV c, .bool p].toArray) w := by
  refine run_buildStr (pl := [(0, sV a), (1, sV c), (2, .bool p)]) (places := #[(0, 1), (1, 1), (2, 1)]) Tryd.underlying63 Tryd.zv63 rfl (fun w => ?_) ?_
  · simp [Fw.run_sizeOf Tryd.sz9, Fw.run_sizeOf Tryd.sz4]
  · rfl
theorem RdrS.cells {w00 w : World} {T : List Ent} {r : Nat} : ∀ {s : RSt}, RdrS w00 T r s w → ∃ A n c bad, St w00 w (⟨true, some r, wrd (.slice A n c) bad⟩ :: T) ∧ decide (bad = false ∧ n = 0) = decide (s = some [])
  | some xs, ⟨A, c, h1, h2, h3⟩ => ⟨A, _, c, false, h3, decide_eq_decide.2 ⟨fun h => by rw [List.length_eq_zero_iff.1 h.2], fun h => by injection h with h; rw [h]; exact ⟨rfl, rfl⟩⟩⟩
  | none, h => ⟨none, 0, 0, true, h, by rw [decide_eq_false (fun h => by cases h.1), decide_eq_false (fun h => by cases h)]⟩
theorem rend_cells {w0 : World} {r n c : Nat} {A : Option Addr} {bad ev : Bool} (h0 : w0.cell? ⟨r, 0, none⟩ = some (.slice A n c)) (h1 : w0.cell? ⟨r, 1, none⟩ = some (.bool bad)) (he : decide (bad = false ∧ n = 0) = ev) : Calls Tryd.prog 77 #[.pointer (some ⟨r, 0, none⟩)] w0 fun e w' => ∃ v, e = .returned v ∧ v = .bool ev ∧ Ext w0 w' := by
  cases bad with
  | true => exact (rend_bad h0 h1).mono fun e w' ⟨h, hx⟩ => ⟨_, h, by rw [← he, decide_eq_false (fun h => by cases h.1)], hx⟩
  | false => exact (rend_good h0 h1).mono fun e w' ⟨h, hx⟩ => ⟨_, h, by rw [← he]; congr 1; exact decide_eq_decide.2 ⟨fun h => ⟨rfl, h⟩, fun h => h.2⟩, hx⟩
theorem drop_step {l : List UInt8} {q j : Nat} : (l.drop (64 * q)).take (64 * j) ++ blkF l (q + j) = (l.drop (64 * q)).take (64 * (j + 1)) := by
  rw [blkF, show 64 * (j + 1) = 64 * j + 64 by omega, List.take_add, List.drop_drop, show 64 * q + 64 * j = 64 * (q + j) by omega]


set_option maxHeartbeats 1000000 in
theorem half_ok {d p n c i : Nat} {D : Dk} {w0 : World} (hG : Glob w0) (hD : DskW w0 d p n c D) (hK : DkOk n D) (hi : i < 2) :
    Calls Tryd.prog 59 #[.iface 65 (.pointer (some ⟨d, 0, none⟩)), vI i] w0 fun e w' => e = .returned (.tuple #[(halfF D.l n i).1.v, vD (halfF D.l n i).2.1, .bool (halfF D.l n i).2.2]) ∧ Ext w0 w' := by
  obtain ⟨hl, hn4, hn1, _, _, _⟩ := hK
  obtain ⟨m, hm⟩ : ∃ m, m = n / 2 := ⟨_, rfl⟩
  have hm2 : 2 ≤ m := by omega
  have him : i * m + m ≤ n := by
    have : i * m ≤ 1 * m := Nat.mul_le_mul_right m (by omega)
    omega
  obtain ⟨B, hB⟩ : ∃ B, B = hblk D.l n i := ⟨_, rfl⟩
  have hBl : B.length = 64 := by rw [hB, hblk, ← hm]; exact blkF_len hl (by omega)
  refine calls_start 82 Tryd.func59 rfl Tryd.ntmps59 rfl fun a hF => ?_
  have hS := St.refl w0
  refine wp_seq_k fun Kq1 hKq1 => ?_
  -- region 0 (vault.go:114)
  refine wp_region_lit ?_
  refine wpList_stp (stp_alloc hF (wanted_none rfl) rfl rfl rfl Tryd.zv63 rfl hS fun out a w hF hS => ?_)
  refine wpList_stp (stp_gv hF (wanted_none rfl) rfl rfl (gv_assign rfl (ev_const _ _)) fun a hF => ?_)
  refine wpList_stp (stp_gv hF (wanted_none rfl) rfl rfl (gv_assign rfl (ev_const _ _)) fun a hF => ?_)
  refine wpList_nil ?_
  refine then_normal (hKq1 _ _ ?_)
  refine wp_seq_k fun Kq2 hKq2 => ?_
  -- region 1 (vault.go:115)
  refine wp_region_lit ?_
  refine wpList_stp (stp_gv hF (wanted_none rfl) rfl rfl (gv_move rfl (hF.t rfl)) fun a hF => ?_)
  refine wpList_stp (stp_callI hF (wanted_none rfl) rfl rfl Tryd.methBlocks rfl (hF.t rfl) Evs.nil (blocks_ok (hD.ext (hS.toExt (nw_cons rfl nw_nil))).c0) fun e w h => ?_)
  obtain ⟨rfl, hx⟩ := h
  refine ⟨_, rfl, fun a hF => ?_⟩
  replace hS := hS.ext hx
  clear hx
  refine wpList_stp (stp_gv hF (wanted_none rfl) rfl rfl (gv_nquo (n := 2) rfl (hF.t rfl) rfl (by omega) (by omega)) fun a hF => ?_)
  rw [← hm] at hF
  refine wpList_stp (stp_gv hF (wanted_none rfl) rfl rfl (gv_assign rfl (hF.t rfl)) fun a hF => ?_)
  refine wpList_nil ?_
  refine then_normal (hKq2 _ _ ?_)
  refine wp_seq_k fun Kq3 hKq3 => ?_
  -- region 2 (vault.go:116)
  refine wp_region_lit ?_
  refine wpList_stp (stp_gv hF (wanted_none rfl) rfl rfl (gv_move rfl (hF.t rfl)) fun a hF => ?_)
  refine wpList_stp (stp_gv hF (wanted_none rfl) rfl rfl (gv_move rfl (hF.t rfl)) fun a hF => ?_)
  refine wpList_stp (stp_gv hF (wanted_none rfl) rfl rfl (gv_move rfl (hF.t rfl)) fun a hF => ?_)
  refine wpList_stp (stp_gv hF (wanted_none rfl) rfl rfl (gv_nmul rfl (hF.t rfl) (hF.t rfl) (by omega)) fun a hF => ?_)
  refine wpList_stp (stp_callI hF (wanted_none rfl) rfl rfl Tryd.methRead rfl (hF.t rfl) (Evs.cons (hF.t rfl) Evs.nil) (read_ok (i := ((i * m : Nat) : Int)) (hD.ext (hS.toExt (nw_cons rfl nw_nil))) hl) fun e w h => ?_)
  obtain ⟨rfl, hx⟩ := h
  refine ⟨_, rfl, fun a hF => ?_⟩
  replace hS := hS.ext hx
  clear hx
  rw [rdF_in (show i * m < n by omega), hm, ← hblk, ← hB, ← hm] at hF
  refine wpList_stp (stp_alloc hF (wanted_none rfl) rfl rfl rfl Tryd.zv72 rfl hS fun hh a w hF hS => ?_)
  refine wpList_stp (stp_storeAll hF (wanted_none rfl) rfl rfl (Tryd.sz72.trans (congrArg some (by rw [List.length_map, hBl]))) (hF.t rfl) (hF.t rfl) (one_B _) hS (k := 0) rfl (by rw [List.length_map, hBl]; rfl) fun w hS => ?_)
  refine wpList_nil ?_
  refine then_normal (hKq3 _ _ ?_)
  refine wp_seq_k fun Kq4 hKq4 => ?_
  -- region 3 (vault.go:117)
  refine wp_region_lit ?_
  refine wpList_stp (stp_gv hF (wanted_none rfl) rfl rfl (gv_sliceArr2 (lo := 4) (hi := 16) rfl Tryd.underlying72 Tryd.sz5 (hF.t rfl) rfl rfl (by omega) (by omega)) fun a hF => ?_)
  have hP : SRd w0 [⟨true, some hh, blkB 72 B⟩, ⟨true, some out, recO [] [] false⟩] (cut3V (some ⟨hh, 0, none⟩) 4 16 64) (((B.take 16).drop 4).map vB) := by
    rw [List.map_drop, List.map_take]
    exact SRd.cut3 (SRd.arr (T := [⟨true, some hh, blkB 72 B⟩, ⟨true, some out, recO [] [] false⟩]) List.mem_cons_self hBl (by omega)) (by omega) (by omega) (by omega) (by omega)
  have hPl : ((B.take 16).drop 4).length = 12 := by rw [List.length_drop, List.length_take]; omega
  refine wpList_stp (stp_call hF (wanted_none rfl) rfl rfl Tryd.ok48 rfl (Evs.cons (hF.t rfl) Evs.nil) from_ok fun e w h => ?_)
  obtain ⟨r, rfl, hN⟩ := h
  refine ⟨_, rfl, fun a hF => ?_⟩
  replace hS := hS.join hN (nw_cons rfl nw_nil)
  simp only [List.cons_append, List.nil_append] at hS
  have hR : RdrS w0 [⟨true, some hh, blkB 72 B⟩, ⟨true, some out, recO [] [] false⟩] r (hs0 B) w := ⟨_, 60, by rw [hPl]; omega, by rw [hPl]; exact hP, by rw [hPl]; exact hS⟩
  clear hS hN hP
  refine wpList_stp (stp_gv hF (wanted_none rfl) rfl rfl (gv_assign rfl (hF.t rfl)) fun a hF => ?_)
  refine wpList_nil ?_
  refine then_normal (hKq4 _ _ ?_)
  refine wp_seq_k fun Kq5 hKq5 => ?_
  -- region 4 (vault.go:118)
  refine wp_region_lit ?_
  refine wpList_stp (stp_gv hF (wanted_none rfl) rfl rfl (gv_move rfl (hF.t rfl)) fun a hF => ?_)
  refine wpList_stp (stp_call hF (wanted_none rfl) rfl rfl Tryd.ok49 rfl (Evs.cons (hF.t rfl) Evs.nil) (ru32_all (nw_cons rfl (nw_cons rfl nw_nil)) hR) fun e w h => ?_)
  obtain ⟨rfl, hR⟩ := h
  refine ⟨_, rfl, fun a hF => ?_⟩
  refine wpList_stp (stp_gv hF (wanted_none rfl) rfl rfl (gv_conv_w_d rfl Tryd.underlying32 Tryd.underlying76 (hF.t rfl)) fun a hF => ?_)
  refine wpList_stp (stp_gv hF (wanted_none rfl) rfl rfl (gv_d_shl (n := 32) rfl (hF.t rfl) rfl (by omega)) fun a hF => ?_)
  refine wpList_stp (stp_gv hF (wanted_none rfl) rfl rfl (gv_move rfl (hF.t rfl)) fun a hF => ?_)
  refine wpList_stp (stp_call hF (wanted_none rfl) rfl rfl Tryd.ok49 rfl (Evs.cons (hF.t rfl) Evs.nil) (ru32_all (nw_cons rfl (nw_cons rfl nw_nil)) hR) fun e w h => ?_)
  obtain ⟨rfl, hR⟩ := h
  refine ⟨_, rfl, fun a hF => ?_⟩
  refine wpList_stp (stp_gv hF (wanted_none rfl) rfl rfl (gv_conv_w_d rfl Tryd.underlying32 Tryd.underlying76 (hF.t rfl)) fun a hF => ?_)
  refine wpList_stp (stp_gv hF (wanted_none rfl) rfl rfl (gv_d_or rfl (hF.t rfl) (hF.t rfl)) fun a hF => ?_)
  refine wpList_stp (stp_gv hF (wanted_none rfl) rfl rfl (gv_assign rfl (hF.t rfl)) fun a hF => ?_)
  refine wpList_nil ?_
  refine then_normal (hKq5 _ _ ?_)
  refine wp_seq_k fun Kq6 hKq6 => ?_
  -- region 5 (vault.go:119)
  refine wp_region_lit ?_
  refine wpList_stp (stp_gv hF (wanted_none rfl) rfl rfl (gv_move rfl (hF.t rfl)) fun a hF => ?_)
  refine wpList_stp (stp_call hF (wanted_none rfl) rfl rfl Tryd.ok49 rfl (Evs.cons (hF.t rfl) Evs.nil) (ru32_all (nw_cons rfl (nw_cons rfl nw_nil)) hR) fun e w h => ?_)
  obtain ⟨rfl, hR⟩ := h
  refine ⟨_, rfl, fun a hF => ?_⟩
  refine wpList_stp (stp_gv hF (wanted_none rfl) rfl rfl (gv_conv_w_i rfl Tryd.underlying32 Tryd.underlying3 (hF.t rfl)) fun a hF => ?_)
  refine wpList_stp (stp_gv hF (wanted_none rfl) rfl rfl (gv_assign rfl (hF.t rfl)) fun a hF => ?_)
  refine wpList_nil ?_
  refine then_normal (hKq6 _ _ ?_)
  refine wp_seq_k fun Kq7 hKq7 => ?_
  refine wp_seq_k fun Kq8 hKq8 => ?_
  obtain ⟨vx, bx, hSx⟩ := hR.st
  have hS := hSx.drop rfl
  clear hSx hR
  obtain ⟨G, hGe⟩ : ∃ G, G = hgen B := ⟨_, rfl⟩
  obtain ⟨sz, hsz⟩ : ∃ sz, sz = hsize B := ⟨_, rfl⟩
  replace hF : Fr 82 a [(0, .iface 65 (.pointer (some ⟨d, 0, none⟩))), (1, vI i), (4, .pointer (some ⟨out, 0, none⟩)), (7, vI m), (8, .pointer (some ⟨hh, 0, none⟩)), (10, vD G), (11, vI sz), (5, vD 0), (6, .bool false)] := hF.sub ⟨rfl, rfl, rfl, rfl, rfl, by rw [hGe]; rfl, by rw [hsz]; rfl, rfl, rfl, trivial⟩
  -- region 6 (vault.go:120)
  refine wp_region_lit ?_
  refine wpList_stp (stp_gv hF (wanted_none rfl) rfl rfl (gv_move rfl (hF.t rfl)) fun a hF => ?_)
  refine wpList_stp (stp_gv hF (wanted_none rfl) rfl rfl (gv_move rfl (hF.t rfl)) fun a hF => ?_)
  refine wpList_stp (stp_gv hF (wanted_none rfl) rfl rfl (gv_nsub (n := 1) rfl (hF.t rfl) rfl (by omega) (by omega)) fun a hF => ?_)
  refine wpList_stp (stp_gv hF (wanted_none rfl) rfl rfl (gv_nmul (n := 64) rfl (hF.t rfl) rfl (by omega)) fun a hF => ?_)
  refine wpList_stp (stp_gv hF (wanted_none rfl) rfl rfl (gv_gtr rfl (hF.t rfl) (hF.t rfl)) fun a hF => ?_)
  refine wpList_nil ?_
  refine then_normal (hKq8 _ _ ?_)
  refine cond_dec (hF.t rfl) (fun h42 => ?_) (fun h42 => ?_)
  ·
    refine wp_seq_k fun Kq9 hKq9 => ?_
    -- region 7 (vault.go:121)
    refine wp_region_lit ?_
    refine wpList_stp (stp_gv hF (wanted_none rfl) rfl rfl (gv_build rfl (EvP.map EvP.nil) (build_rec0 _)) fun a hF => ?_)
    refine wpList_stp (stp_storeAll hF (wanted_none rfl) rfl rfl (Tryd.sz63.trans (congrArg some (rfl))) (hF.t rfl) (hF.t rfl) (by intro u hu; simp at hu; rcases hu with rfl | rfl | rfl <;> rfl) hS (k := 1) rfl (rfl) fun w hS => ?_)
    refine wpList_stp (stp_gv hF (wanted_none rfl) rfl rfl (gv_assign rfl (ev_const _ _)) fun a hF => ?_)
    refine wpList_stp (stp_gv hF (wanted_none rfl) rfl rfl (gv_assign rfl (ev_const _ _)) fun a hF => ?_)
    refine wpList_nil ?_
    refine then_normal (hKq9 _ _ ?_)
    refine wp_ret ?_
    refine then_ret ?_
    refine retCTT (fn := Tryd.f59) (vs := [sV [], sV [], .bool false]) hF rfl Tryd.underlying63 rfl Tryd.sz63 rfl rfl rfl hS (k := 1) rfl ?_
    refine ⟨?_, hS.toExt (nw_cons rfl (nw_cons rfl nw_nil))⟩
    rw [halfF, if_pos (by rw [← hB, ← hm, ← hsz]; omega)]
    rfl
  ·
    refine wp_skip ?_
    refine then_normal (hKq7 _ _ ?_)
    refine wp_seq_k fun Kq10 hKq10 => ?_
    replace hS := hS.addNil (blk 5 (([] : List UInt8).map vB ++ []))
    -- region 8 (vault.go:123)
    refine wp_region_lit ?_
    refine wpList_stp (stp_gv hF (wanted_none rfl) rfl rfl (gv_assign rfl (ev_const _ _)) fun a hF => ?_)
    refine wpList_nil ?_
    refine then_normal (hKq10 _ _ ?_)
    refine wp_seq_k fun Kq11 hKq11 => ?_
    refine wp_seq_k fun Kq12 hKq12 => ?_
    -- region 9 (vault.go:124)
    refine wp_region_lit ?_
    refine wpList_stp (stp_gv hF (wanted_none rfl) rfl rfl (gv_assign rfl (ev_const _ _)) fun a hF => ?_)
    refine wpList_nil ?_
    refine then_normal (hKq12 _ _ ?_)
    refine wp_block ?_
    refine wp_loop_n (fun nn a w => ∃ (j : Nat) (o : Option Nat) (op : List Value), nn = 1024 - j ∧ 64 * j < sz + 64 ∧ (o = none → ((D.l.drop (64 * (i * m + 1))).take (64 * j)) = [] ∧ op = []) ∧ (((D.l.drop (64 * (i * m + 1))).take (64 * j))).length + op.length ≤ 9223372036854775807 ∧ Fr 82 a [(0, .iface 65 (.pointer (some ⟨d, 0, none⟩))), (1, vI i), (4, .pointer (some ⟨out, 0, none⟩)), (7, vI m), (8, .pointer (some ⟨hh, 0, none⟩)), (10, vD G), (11, vI sz), (5, vD 0), (6, .bool false), (12, ownV o ((D.l.drop (64 * (i * m + 1))).take (64 * j)).length (((D.l.drop (64 * (i * m + 1))).take (64 * j)).length + op.length)), (13, vI (j + 1))] ∧ St w0 w [⟨true, o, blk 5 ((((D.l.drop (64 * (i * m + 1))).take (64 * j))).map vB ++ op)⟩, ⟨true, some hh, blkB 72 B⟩, ⟨true, some out, recO [] [] false⟩]) 1024 ⟨0, none, [], rfl, by omega, fun _ => ⟨rfl, rfl⟩, by simp, hF.sub ⟨rfl, rfl, rfl, rfl, rfl, rfl, rfl, rfl, rfl, rfl, rfl, trivial⟩, hS⟩ ?_
    rintro nn a w ⟨j, o, op, hnn, hj, oo, oc, hF, hS⟩
    have hjl : ((D.l.drop (64 * (i * m + 1))).take (64 * j)).length = 64 * j := by rw [List.length_take, List.length_drop, hl]; omega
    refine wp_seq_k fun Kq13 hKq13 => ?_
    refine wp_seq_k fun Kq14 hKq14 => ?_
    -- region 10 (vault.go:124)
    refine wp_region_lit ?_
    refine wpList_stp (stp_gv hF (wanted_none rfl) rfl rfl (gv_move rfl (hF.t rfl)) fun a hF => ?_)
    refine wpList_stp (stp_gv hF (wanted_none rfl) rfl rfl (gv_lenOwn rfl Tryd.underlying22 (hF.t rfl) (fun h => by rw [(oo h).1]; rfl)) fun a hF => ?_)
    refine wpList_stp (stp_gv hF (wanted_none rfl) rfl rfl (gv_move rfl (hF.t rfl)) fun a hF => ?_)
    refine wpList_stp (stp_gv hF (wanted_none rfl) rfl rfl (gv_lss rfl (hF.t rfl) (hF.t rfl)) fun a hF => ?_)
    refine wpList_nil ?_
    refine then_normal (hKq14 _ _ ?_)
    refine cond_dec (hF.t rfl) (fun h47 => ?_) (fun h47 => ?_)
    ·
      refine wp_skip ?_
      refine then_normal (hKq13 _ _ ?_)
      refine wp_seq_k fun Kq15 hKq15 => ?_
      refine wp_block ?_
      refine wp_seq_k fun Kq16 hKq16 => ?_
      -- region 12 (vault.go:125)
      refine wp_region_lit ?_
      refine wpList_stp (stp_gv hF (wanted_none rfl) rfl rfl (gv_move rfl (hF.t rfl)) fun a hF => ?_)
      refine wpList_stp (stp_gv hF (wanted_none rfl) rfl rfl (gv_move rfl (hF.t rfl)) fun a hF => ?_)
      refine wpList_stp (stp_gv hF (wanted_none rfl) rfl rfl (gv_move rfl (hF.t rfl)) fun a hF => ?_)
      refine wpList_stp (stp_gv hF (wanted_none rfl) rfl rfl (gv_nmul rfl (hF.t rfl) (hF.t rfl) (by omega)) fun a hF => ?_)
      refine wpList_stp (stp_gv hF (wanted_none rfl) rfl rfl (gv_move rfl (hF.t rfl)) fun a hF => ?_)
      refine wpList_stp (stp_gv hF (wanted_none rfl) rfl rfl (gv_nadd rfl (hF.t rfl) (hF.t rfl) (by omega)) fun a hF => ?_)
      refine wpList_stp (stp_callI hF (wanted_none rfl) rfl rfl Tryd.methRead rfl (hF.t rfl) (Evs.cons (hF.t rfl) Evs.nil) (read_ok (i := ((i * m + (j + 1) : Nat) : Int)) (hD.ext (hS.toExt (nw_cons rfl (nw_cons rfl (nw_cons rfl nw_nil))))) hl) fun e w h => ?_)
      obtain ⟨rfl, hx⟩ := h
      refine ⟨_, rfl, fun a hF => ?_⟩
      replace hS := hS.ext hx
      clear hx
      obtain ⟨X, hX⟩ : ∃ X, X = rdF D n ((i * m + (j + 1) : Nat) : Int) := ⟨_, rfl⟩
      have hXl : X.length = 64 := by rw [hX]; exact rdF_len hl _
      have hXe : X = blkF D.l (i * m + 1 + j) := by rw [hX, rdF_in (by omega)]; congr 1; omega
      rw [← hX] at hF
      refine wpList_stp (stp_alloc hF (wanted_none rfl) rfl rfl rfl Tryd.zv72 rfl hS fun x a w hF hS => ?_)
      refine wpList_stp (stp_storeAll hF (wanted_none rfl) rfl rfl (Tryd.sz72.trans (congrArg some (by rw [List.length_map, hXl]))) (hF.t rfl) (hF.t rfl) (one_B _) hS (k := 0) rfl (by rw [List.length_map, hXl]; rfl) fun w hS => ?_)
      refine wpList_nil ?_
      refine then_normal (hKq16 _ _ ?_)
      -- region 13 (vault.go:126)
      refine wp_region_lit ?_
      refine wpList_stp (stp_gv hF (wanted_none rfl) rfl rfl (gv_move rfl (hF.t rfl)) fun a hF => ?_)
      refine wpList_stp (stp_gv hF (wanted_none rfl) rfl rfl (gv_sliceArr rfl Tryd.underlying72 Tryd.sz5 (hF.t rfl)) fun a hF => ?_)
      refine wpList_stp (stp_appB (k := 1) hF (wanted_none rfl) rfl rfl rfl Tryd.underlying22 Tryd.ty5 rfl (hF.t rfl) (hF.t rfl) hS rfl oo oc ((SRd.arr (w0 := w0) List.mem_cons_self hXl (by omega)) w _ hS (nw_cons rfl (nw_cons rfl (nw_cons rfl (nw_cons rfl nw_nil)))) (fun e he => he)) (by rw [hXl]; omega) fun o op a w hF oo oc hS => ?_)
      refine wpList_stp (stp_gv hF (wanted_none rfl) rfl rfl (gv_assign rfl (hF.t rfl)) fun a hF => ?_)
      refine wpList_nil ?_
      refine block_normal ?_
      refine then_normal (hKq15 _ _ ?_)
      -- region 11 (vault.go:124)
      refine wp_region_lit ?_
      refine wpList_stp (stp_gv hF (wanted_none rfl) rfl rfl (gv_move rfl (hF.t rfl)) fun a hF => ?_)
      refine wpList_stp (stp_gv hF (wanted_none rfl) rfl rfl (gv_nadd (n := 1) rfl (hF.t rfl) rfl (by omega)) fun a hF => ?_)
      refine wpList_stp (stp_gv hF (wanted_none rfl) rfl rfl (gv_assign rfl (hF.t rfl)) fun a hF => ?_)
      refine wpList_nil ?_
      refine then_normal ?_
      replace hS := hS.drop rfl
      have hst : ((D.l.drop (64 * (i * m + 1))).take (64 * j)) ++ X = (D.l.drop (64 * (i * m + 1))).take (64 * (j + 1)) := by rw [hXe]; exact drop_step
      rw [hst] at hF oo oc hS
      exact ⟨nn - 1, by omega, j + 1, o, op, by omega, by omega, oo, oc, hF.sub ⟨rfl, rfl, rfl, rfl, rfl, rfl, rfl, rfl, rfl, rfl, rfl, trivial⟩, hS⟩
    ·
      refine wp_exit ?_
      refine then_exit ?_
      refine then_exit ?_
      refine block_exit ?_
      refine then_normal (hKq11 _ _ ?_)
      refine wp_seq_k fun Kq17 hKq17 => ?_
      have hjl : ((D.l.drop (64 * (i * m + 1))).take (64 * j)).length = 64 * j := by rw [List.length_take, List.length_drop, hl]; omega
      obtain ⟨Ao, hAo, hRo⟩ := own_open (w0 := w0) (t := 5) (T := [⟨true, o, blk 5 ((((D.l.drop (64 * (i * m + 1))).take (64 * j))).map vB ++ op)⟩, ⟨true, some hh, blkB 72 B⟩, ⟨true, some out, recO [] [] false⟩]) (ob := o) (l := ((D.l.drop (64 * (i * m + 1))).take (64 * j))) (pad := op) (n := 64 * j) List.mem_cons_self oo hjl (by rw [hjl] at oc; exact oc)
      rw [hjl] at hF h47 oc
      rw [hAo] at hF
      obtain ⟨bl, hble⟩ : ∃ bl, bl = (D.l.drop (64 * (i * m + 1))).take sz := ⟨_, rfl⟩
      have hbl : bl.length = sz := by rw [hble, List.length_take, List.length_drop, hl]; omega
      have hRb : SRd w0 [⟨true, o, blk 5 ((((D.l.drop (64 * (i * m + 1))).take (64 * j))).map vB ++ op)⟩, ⟨true, some hh, blkB 72 B⟩, ⟨true, some out, recO [] [] false⟩] (.slice Ao sz (64 * j + op.length)) (bl.map vB) := by
        have := hRo.cutHi (hi := sz) (by omega)
        rw [← List.map_take, List.take_take, Nat.min_eq_left (by omega), ← hble] at this
        exact this
      -- region 14 (vault.go:128)
      refine wp_region_lit ?_
      refine wpList_stp (stp_gv hF (wanted_none rfl) rfl rfl (gv_move rfl (hF.t rfl)) fun a hF => ?_)
      refine wpList_stp (stp_gv hF (wanted_none rfl) rfl rfl (gv_move rfl (hF.t rfl)) fun a hF => ?_)
      refine wpList_stp (stp_gv hF (wanted_none rfl) rfl rfl (gv_sliceHi rfl Tryd.underlying22 Tryd.sz5 (hF.t rfl) (hF.t rfl) (by omega)) fun a hF => ?_)
      refine wpList_stp (stp_gv hF (wanted_none rfl) rfl rfl (gv_assign rfl (hF.t rfl)) fun a hF => ?_)
      refine wpList_nil ?_
      refine then_normal (hKq17 _ _ ?_)
      refine wp_seq_k fun Kq18 hKq18 => ?_
      refine wp_seq_k fun Kq19 hKq19 => ?_
      -- region 15 (vault.go:129)
      refine Fw.wp_region_draw (by kernel_rfl) fun w hx => ?_
      replace hS := hS.ext hx
      clear hx
      refine run_head0 (n := 5) _ hF (by kernel_rfl) rfl ?_
      refine dw_gv hF rfl (wanted_none rfl) rfl rfl (fun w hx => gv_move rfl (hF.t rfl)) fun a hF => ?_
      refine dw_gv hF rfl (wanted_none rfl) rfl rfl (fun w hx => gv_move rfl (hF.t rfl)) fun a hF => ?_
      refine dw_call hF rfl (wanted_none rfl) rfl rfl Tryd.ok61 rfl (Evs.cons (hF.t rfl) (Evs.cons (hF.t rfl) Evs.nil)) (fun w hx => head_ok (hG.ext ((hS.ext hx).toExt (nw_cons rfl (nw_cons rfl (nw_cons rfl nw_nil))))) (hRb _ _ (hS.ext hx) (nw_cons rfl (nw_cons rfl (nw_cons rfl nw_nil))) (fun e he => he)) (by rw [hbl]; omega)) fun a hF => ?_
      refine dw_gv hF rfl (wanted_none rfl) rfl rfl (fun w hx => gv_loadAll rfl Tryd.underlying72 rfl (Tryd.sz72.trans (congrArg some (by rw [List.length_map, hBl]))) (hF.t rfl) (hS.ext hx) (k := 1) rfl) fun a hF => ?_
      refine dw_gv hF rfl (wanted_none rfl) rfl rfl (fun w hx => gv_aggNeq rfl Tryd.underlying72 Tryd.underlying5 Tryd.sz5 (by kernel_rfl) (hF.t rfl) (hF.t rfl) (headF_len _ _) hBl) fun a hF => ?_
      refine dw_nil fun a w hA hx => ?_
      replace hF := hA _ hF
      replace hS := hS.ext hx
      clear hA hx
      refine run_done (by decide) ?_
      refine then_normal (hKq19 _ _ ?_)
      refine cond_dec (hF.t rfl) (fun h67 => ?_) (fun h67 => ?_)
      ·
        refine wp_seq_k fun Kq20 hKq20 => ?_
        -- region 16 (vault.go:130)
        refine wp_region_lit ?_
        refine wpList_stp (stp_gv hF (wanted_none rfl) rfl rfl (gv_build rfl (EvP.map EvP.nil) (build_rec0 _)) fun a hF => ?_)
        refine wpList_stp (stp_storeAll hF (wanted_none rfl) rfl rfl (Tryd.sz63.trans (congrArg some (rfl))) (hF.t rfl) (hF.t rfl) (by intro u hu; simp at hu; rcases hu with rfl | rfl | rfl <;> rfl) hS (k := 2) rfl (rfl) fun w hS => ?_)
        refine wpList_stp (stp_gv hF (wanted_none rfl) rfl rfl (gv_assign rfl (ev_const _ _)) fun a hF => ?_)
        refine wpList_stp (stp_gv hF (wanted_none rfl) rfl rfl (gv_assign rfl (ev_const _ _)) fun a hF => ?_)
        refine wpList_nil ?_
        refine then_normal (hKq20 _ _ ?_)
        refine wp_ret ?_
        refine then_ret ?_
        refine retCTT (fn := Tryd.f59) (vs := [sV [], sV [], .bool false]) hF rfl Tryd.underlying63 rfl Tryd.sz63 rfl rfl rfl hS (k := 2) rfl ?_
        refine ⟨?_, hS.toExt (nw_cons rfl (nw_cons rfl (nw_cons rfl nw_nil)))⟩
        rw [halfF, if_neg (by rw [← hB, ← hm, ← hsz]; omega), if_pos (by rw [hdat, ← hB, ← hm, ← hsz, ← hGe, ← hble]; exact h67)]
        rfl
      ·
        refine wp_skip ?_
        refine then_normal (hKq18 _ _ ?_)
        refine wp_seq_k fun Kq21 hKq21 => ?_
        -- region 17 (vault.go:132)
        refine wp_region_lit ?_
        refine wpList_stp (stp_gv hF (wanted_none rfl) rfl rfl (gv_move rfl (hF.t rfl)) fun a hF => ?_)
        refine wpList_stp (stp_call hF (wanted_none rfl) rfl rfl Tryd.ok48 rfl (Evs.cons (hF.t rfl) Evs.nil) from_ok fun e w h => ?_)
        obtain ⟨r, rfl, hN⟩ := h
        refine ⟨_, rfl, fun a hF => ?_⟩
        replace hS := hS.join hN (nw_cons rfl nw_nil)
        simp only [List.cons_append, List.nil_append] at hS
        have hR : RdrS w0 [⟨true, o, blk 5 ((((D.l.drop (64 * (i * m + 1))).take (64 * j))).map vB ++ op)⟩, ⟨true, some hh, blkB 72 B⟩, ⟨true, some out, recO [] [] false⟩] r (some bl) w := ⟨_, 64 * j + op.length, by rw [hbl]; omega, by rw [hbl]; exact hRb, by rw [hbl]; exact hS⟩
        clear hS hN hRb
        refine wpList_stp (stp_gv hF (wanted_none rfl) rfl rfl (gv_assign rfl (hF.t rfl)) fun a hF => ?_)
        refine wpList_nil ?_
        refine then_normal (hKq21 _ _ ?_)
        refine wp_seq_k fun Kq22 hKq22 => ?_
        -- region 18 (vault.go:133)
        refine wp_region_lit ?_
        refine wpList_stp (stp_gv hF (wanted_none rfl) rfl rfl (gv_move rfl (hF.t rfl)) fun a hF => ?_)
        refine wpList_stp (stp_call hF (wanted_none rfl) rfl rfl Tryd.ok75 rfl (Evs.cons (hF.t rfl) Evs.nil) (rtext_ok (nw_cons rfl (nw_cons rfl (nw_cons rfl nw_nil))) hR (by rw [lenS, hbl]; omega)) fun e w h => ?_)
        obtain ⟨rfl, hR⟩ := h
        refine ⟨_, rfl, fun a hF => ?_⟩
        refine wpList_stp (stp_gv hF (wanted_none rfl) rfl rfl (gv_move rfl (hF.t rfl)) fun a hF => ?_)
        refine wpList_stp (stp_call hF (wanted_none rfl) rfl rfl Tryd.ok75 rfl (Evs.cons (hF.t rfl) Evs.nil) (rtext_ok (nw_cons rfl (nw_cons rfl (nw_cons rfl nw_nil))) hR (by have := lenS_text (some bl); rw [lenS, hbl] at this; omega)) fun e w h => ?_)
        obtain ⟨rfl, hR⟩ := h
        refine ⟨_, rfl, fun a hF => ?_⟩
        refine wpList_stp (stp_gv hF (wanted_none rfl) rfl rfl (gv_move rfl (hF.t rfl)) fun a hF => ?_)
        refine wpList_stp (stp_call hF (wanted_none rfl) rfl rfl Tryd.ok76 rfl (Evs.cons (hF.t rfl) Evs.nil) (rflag_ok (nw_cons rfl (nw_cons rfl (nw_cons rfl nw_nil))) hR) fun e w h => ?_)
        obtain ⟨rfl, hR⟩ := h
        refine ⟨_, rfl, fun a hF => ?_⟩
        obtain ⟨vx, bx, hSx⟩ := hR.st
        have hS := St.refl w
        refine wpList_stp (stp_gv hF (wanted_none rfl) rfl rfl (gv_build rfl (EvP.map (EvP.cons (hF.t rfl) (EvP.cons (hF.t rfl) (EvP.cons (hF.t rfl) EvP.nil)))) (build_rec _ _ _ _)) fun a hF => ?_)
        refine wpList_stp (stp_alloc hF (wanted_none rfl) rfl rfl rfl Tryd.zv63 rfl hS fun rr a w hF hS => ?_)
        refine wpList_stp (stp_storeAll hF (wanted_none rfl) rfl rfl (Tryd.sz63.trans (congrArg some (rfl))) (hF.t rfl) (hF.t rfl) (by intro u hu; simp at hu; rcases hu with rfl | rfl | rfl <;> rfl) hS (k := 0) rfl (rfl) fun w hS => ?_)
        refine wpList_nil ?_
        refine then_normal (hKq22 _ _ ?_)
        refine wp_seq_k fun Kq23 hKq23 => ?_
        have hxx := hS.toExt (nw_cons rfl nw_nil)
        clear hSx
        obtain ⟨A3, n3, c3, bad3, hSx, hev⟩ := hR.cells
        replace hS := hSx.join hS (nw_cons rfl nw_nil)
        simp only [List.cons_append, List.nil_append] at hS
        clear hxx hR hSx
        obtain ⟨ev, heve⟩ : ∃ ev, ev = decide ((byteR (textR (textR (some bl)).2).2).2 = some []) := ⟨_, rfl⟩
        rw [← heve] at hev
        -- region 19 (vault.go:134)
        refine Fw.wp_region_draw (by kernel_rfl) fun w hx => ?_
        replace hS := hS.ext hx
        clear hx
        refine run_headU (n := 7) _ [4] [4] (fun s_ x => ∃ ov : List Value, ov.length = 3 ∧ (s_ = 1 → ov = [sV (textR (some bl)).1, sV (textR (textR (some bl)).2).1, .bool (decide ((byteR (textR (textR (some bl)).2).2).1 ≠ 0))]) ∧ St w0 x [⟨true, some rr, blk 63 [sV (textR (some bl)).1, sV (textR (textR (some bl)).2).1, .bool (decide ((byteR (textR (textR (some bl)).2).2).1 ≠ 0))]⟩, ⟨true, some r, wrd (.slice A3 n3 c3) bad3⟩, ⟨true, o, blk 5 ((((D.l.drop (64 * (i * m + 1))).take (64 * j))).map vB ++ op)⟩, ⟨true, some hh, blkB 72 B⟩, ⟨true, some out, blk 63 ov⟩]) [(0, 78, FtE (.agg [sV (textR (some bl)).1, sV (textR (textR (some bl)).2).1, .bool (decide ((byteR (textR (textR (some bl)).2).2).1 ≠ 0))].toArray)), (3, 81, FtE (.bool ev)), (5, 5, FtE (vD G)), (6, 6, FtE (.bool ev))] hF (hS.toExt (nw_cons rfl (nw_cons rfl (nw_cons rfl (nw_cons rfl (nw_cons rfl nw_nil)))))) (⟨[sV [], sV [], .bool false], rfl, (fun h => by cases h), hS⟩) (fun _ _ _ ⟨ov, h1, h2, h3⟩ hx => ⟨ov, h1, h2, h3.ext hx⟩) (by kernel_rfl) rfl (fa_cons rfl (fa_cons rfl (fa_cons rfl (fa_cons rfl fa_nil)))) (fa_cons (FtE.lasts _) (fa_cons (FtE.lasts _) (fa_cons (FtE.lasts _) (fa_cons (FtE.lasts _) fa_nil)))) (fa_cons ⟨Nat.zero_le _, Nat.le_of_ble_eq_true rfl⟩ (fa_cons ⟨Nat.zero_le _, Nat.le_of_ble_eq_true rfl⟩ (fa_cons ⟨Nat.zero_le _, Nat.le_of_ble_eq_true rfl⟩ (fa_cons ⟨Nat.zero_le _, Nat.le_of_ble_eq_true rfl⟩ fa_nil)))) rfl (by kernel_rfl) (by kernel_rfl) ?_
        refine dw_fl rfl ?_
        refine dw_gv hF rfl (wanted_none rfl) rfl rfl (fun w hx => gv_move rfl (hF.t rfl)) fun a hF => ?_
        refine dw_gv hF rfl (wanted_none rfl) rfl rfl (fun w hx => gv_move rfl (hF.t rfl)) fun a hF => ?_
        refine dw_fl rfl ?_
        refine dw_fl rfl ?_
        refine dw_fl rfl ?_
        refine dw_fl rfl ?_
        refine dw_nil ⟨(fa_cons ?_ (fa_cons ?_ (fa_cons ?_ (fa_cons ?_ fa_nil)))), (fa_cons ?_ fa_nil), fun a w hx hA hR hP => ?_⟩
        · intro s_ a w hsl hx hA hdp hP
          replace hF := hA _ hF
          obtain ⟨ov, hov, _, hS⟩ := hP
          exact ⟨_, rfl, .inl ⟨show (0 : Nat) ∉ [4] from by decide, sx_gv (wanted_none rfl) (gv_loadAll (cs := [sV (textR (some bl)).1, sV (textR (textR (some bl)).2).1, .bool (decide ((byteR (textR (textR (some bl)).2).2).1 ≠ 0))]) rfl Tryd.underlying63 rfl Tryd.sz63 (hF.t rfl) hS (k := 0) rfl) rfl⟩⟩
        · intro s_ a w hsl hx hA hdp hP
          replace hF := hA _ hF
          obtain ⟨ov, hov, _, hS⟩ := hP
          exact ⟨_, rfl, .inl ⟨show (3 : Nat) ∉ [4] from by decide, sx_call (wanted_none rfl) Tryd.ok77 rfl (Evs.cons (hF.t rfl) Evs.nil) (rend_cells (hS.cell (k := 1) (i := 0) rfl rfl) (hS.cell (k := 1) (i := 1) rfl rfl) hev)⟩⟩
        · intro s_ a w hsl hx hA hdp hP
          replace hF := hA _ hF
          exact ⟨_, rfl, .inl ⟨show (5 : Nat) ∉ [4] from by decide, sx_gv (wanted_none rfl) (gv_assign rfl (hF.t rfl)) rfl⟩⟩
        · intro s_ a w hsl hx hA hdp hP
          replace hF := hA _ hF
          exact ⟨_, rfl, .inl ⟨show (6 : Nat) ∉ [4] from by decide, sx_gv (wanted_none rfl) (gv_assign rfl ((hF.t rfl).trans (hdp _ (List.mem_of_getElem? (i := 1) rfl) (by kernel_rfl)))) rfl⟩⟩
        · intro s_ a w hsl hx hA hdp hP
          replace hF := hA _ hF
          refine ⟨_, 0, rfl, rfl, fun hs => ?_⟩
          subst hs
          obtain ⟨ov, hov, _, hS⟩ := hP
          refine ux_storeAgg (i := 0) (vs := [sV (textR (some bl)).1, sV (textR (textR (some bl)).2).1, .bool (decide ((byteR (textR (textR (some bl)).2).2).1 ≠ 0))]) (cs := ov) (wanted_none rfl) rfl Tryd.sz63 (hF.t rfl) ((hF.t rfl).trans (hdp _ (List.mem_of_getElem? (i := 0) rfl) (by kernel_rfl))) (by intro u hu; simp at hu; rcases hu with rfl | rfl | rfl <;> rfl) hS (k := 4) rfl (by rw [hov]; exact Nat.le_refl 3) fun w' hS' => ?_
          exact ⟨hS'.toExt (nw_cons rfl (nw_cons rfl (nw_cons rfl (nw_cons rfl (nw_cons rfl nw_nil))))), ⟨_, by simp [hov], fun _ => by rw [List.drop_of_length_le (by rw [hov]; exact Nat.le_refl 3)]; rfl, hS'⟩, (fa_cons id (fa_cons id (fa_cons id (fa_cons id fa_nil))))⟩
        replace hF := hA _ hF
        clear hA
        obtain ⟨ov, _, hov, hS⟩ := hP
        obtain rfl := hov rfl
        have h5 := hR _ (List.mem_of_getElem? (i := 2) rfl)
        have h6 := hR _ (List.mem_of_getElem? (i := 3) rfl)
        replace hF : Fr 82 a [(4, .pointer (some ⟨out, 0, none⟩)), (5, vD G), (6, .bool ev)] := hF.sub ⟨rfl, congrArg some h5, congrArg some h6, trivial⟩
        clear hR h5 h6 hov
        refine run_done (by decide) ?_
        refine then_normal (hKq23 _ _ ?_)
        refine wp_ret ?_
        refine retCTT (fn := Tryd.f59) (vs := [sV _, sV _, .bool _]) hF rfl Tryd.underlying63 rfl Tryd.sz63 rfl rfl rfl hS (k := 4) rfl ?_
        refine ⟨?_, hS.toExt (nw_cons rfl (nw_cons rfl (nw_cons rfl (nw_cons rfl (nw_cons rfl nw_nil)))))⟩
        rw [halfF, if_neg (by rw [← hB, ← hm, ← hsz]; omega), if_neg (by rw [hdat, ← hB, ← hm, ← hsz, ← hGe, ← hble]; exact h67)]
        rw [hdat, ← hB, ← hm, ← hsz, ← hGe, ← hble]
        rw [heve]
        rfl


end Go.Proofs.YtfhalnobaeogkaaDoor
