/- What is proved: PacketApart returns true. -/
import Derived.Test.YtfhalnobaeogkaaDoorProg
import Derived.Test.YtfhalnobaeogkaaDoorFwSep
import Derived.KernelRfl
import Derived.Test.YtfhalnobaeogkaaDoorFwApp
import Derived.Test.YtfhalnobaeogkaaDoorFwWord
import Derived.Test.YtfhalnobaeogkaaDoorFwPkt
import Derived.Test.YtfhalnobaeogkaaDoorFwTok
import Derived.Test.YtfhalnobaeogkaaDoorFwFour
import Derived.Test.YtfhalnobaeogkaaDoorDig
import Derived.Test.YtfhalnobaeogkaaDoorSum
import Derived.Test.YtfhalnobaeogkaaDoorWire
import Derived.Test.YtfhalnobaeogkaaDoorPktW
import Derived.Test.YtfhalnobaeogkaaDoorPktR
import Derived.Test.YtfhalnobaeogkaaDoorLeaf
import Derived.Test.YtfhalnobaeogkaaDoorCip
import Derived.Test.YtfhalnobaeogkaaDoorMac
import Derived.Test.YtfhalnobaeogkaaDoorKey
import Derived.Test.YtfhalnobaeogkaaDoorPktK
import Derived.Test.YtfhalnobaeogkaaDoorLawN
import Derived.Test.YtfhalnobaeogkaaDoorCall
import Derived.Test.YtfhalnobaeogkaaDoorLawZ
set_option linter.unusedVariables false
set_option linter.unusedSimpArgs false
namespace Go.Proofs.YtfhalnobaeogkaaDoor
open Go Go.RowKit Go.Fw

theorem Tryd.ok22 : CallOk Tryd.prog 22 := ⟨_, Tryd.func22, by kernel_rfl, by kernel_rfl⟩
theorem Tryd.ok24 : CallOk Tryd.prog 24 := ⟨_, Tryd.func24, by kernel_rfl, by kernel_rfl⟩


/-- The state of a half under keys: its number, its stream. -/
structure HS where
  seq : UInt32
  C : List UInt8
  L : List UInt8
def wstep (K : List UInt8) (h : HS) (pl dl : List UInt8) : HS := if 1 ≤ pl.length ∧ pl.length ≤ 2048 then ⟨h.seq + 1, (kst K (h.C, h.L) (pktF h.seq pl dl 16).length).1, (kst K (h.C, h.L) (pktF h.seq pl dl 16).length).2⟩ else h
def wout (K ml : List UInt8) (h : HS) (pl dl : List UInt8) : List UInt8 := if 1 ≤ pl.length ∧ pl.length ≤ 2048 then pktK h.seq pl dl K h.C h.L ml else []
def werr (pl : List UInt8) : Int := if 1 ≤ pl.length ∧ pl.length ≤ 2048 then 0 else 2
def wcnt (pl : List UInt8) (n : Nat) : Nat := if 1 ≤ pl.length ∧ pl.length ≤ 2048 then n + 1 else n
theorem wstep_C {K : List UInt8} {h : HS} {pl dl : List UInt8} (hC : h.C.length = 16) : (wstep K h pl dl).C.length = 16 := by
  by_cases hp : 1 ≤ pl.length ∧ pl.length ≤ 2048
  · have e : (wstep K h pl dl).C = (kst K (h.C, h.L) (pktF h.seq pl dl 16).length).1 := by rw [wstep, if_pos hp]
    rw [e]
    generalize (pktF h.seq pl dl 16).length = m
    exact kst_len (s := (h.C, h.L)) hC m
  · rw [wstep, if_neg hp]; exact hC
theorem wcnt_seq {K : List UInt8} {h : HS} {pl dl : List UInt8} {n : Nat} (hn : n = h.seq.toNat) (hb : n < 4294967295) : wcnt pl n = (wstep K h pl dl).seq.toNat := by
  unfold wcnt wstep; split
  · show n + 1 = (h.seq + 1).toNat
    rw [UInt32.toNat_add, ← hn]
    show n + 1 = (n + 1) % 4294967296
    omega
  · exact hn
theorem wcnt_le (pl : List UInt8) (n : Nat) : wcnt pl n ≤ n + 1 := by unfold wcnt; split <;> omega
theorem write_any {w00 w : World} {T0 : List Ent} {b n s : Nat} {h : HS} {mac pv lv : Value} {pl dl K ml B : List UInt8} {okb : Option Nat} (hG : Glob w00) (hT0 : ∀ e ∈ T0, e.nw = true) (hS : St w00 w (⟨true, some b, wrt h.seq (.pointer (some ⟨s, 0, none⟩)) mac n⟩ :: ⟨true, some s, strm K h.C lv⟩ :: ⟨true, okb, blkB 129 B⟩ :: T0)) (hL : SRd w00 [⟨true, okb, blkB 129 B⟩] lv (h.L.map vB)) (hK : K.length = 176) (hC : h.C.length = 16) (hPl0 : SRd w00 T0 pv (pl.map vB)) (hM : SRd w00 T0 mac (ml.map vB)) (hml : ml.length = 32) (hd : dl.length ≤ 274877906944) (hn : n ≤ 4611686018427387904) :
    Calls Tryd.prog 15 #[.pointer (some ⟨b, 0, none⟩), pv, sV dl] w fun e w' => ∃ v lv1 okb1 B1, e = .returned (.tuple #[v, .int .i64 (werr pl)]) ∧
      ownP w00 5 (⟨true, some b, wrt (wstep K h pl dl).seq (.pointer (some ⟨s, 0, none⟩)) mac (wcnt pl n)⟩ :: ⟨true, some s, strm K (wstep K h pl dl).C lv1⟩ :: ⟨true, okb1, blkB 129 B1⟩ :: T0) (wout K ml h pl dl) v w' ∧ SRd w00 [⟨true, okb1, blkB 129 B1⟩] lv1 ((wstep K h pl dl).L.map vB) := by
  by_cases hp : 1 ≤ pl.length ∧ pl.length ≤ 2048
  · refine (write1_ok hG hT0 hS hL hK hC hPl0 hM hml hp.1 hp.2 hd hn).mono fun e w' g => ?_
    obtain ⟨v, lv1, okb1, B1, he, g1, g2⟩ := g
    have e1 : (wstep K h pl dl).seq = h.seq + 1 := by rw [wstep, if_pos hp]
    have e2 : (wstep K h pl dl).C = (kst K (h.C, h.L) (pktF h.seq pl dl 16).length).1 := by rw [wstep, if_pos hp]
    have e3 : (wstep K h pl dl).L = (kst K (h.C, h.L) (pktF h.seq pl dl 16).length).2 := by rw [wstep, if_pos hp]
    have e4 : wout K ml h pl dl = pktK h.seq pl dl K h.C h.L ml := by rw [wout, if_pos hp]
    have e5 : wcnt pl n = n + 1 := by rw [wcnt, if_pos hp]
    have e6 : werr pl = 0 := by rw [werr, if_pos hp]
    refine ⟨v, lv1, okb1, B1, by rw [e6]; exact he, ?_, ?_⟩
    · rw [e1, e2, e4, e5]; exact g1
    · rw [e3]; exact g2
  · refine (write_len (hPl0 w _ hS (nw_cons rfl (nw_cons rfl (nw_cons rfl hT0))) (fun e he => List.mem_cons_of_mem _ (List.mem_cons_of_mem _ (List.mem_cons_of_mem _ he)))) (by omega)).mono fun e w' g => ?_
    obtain ⟨he, hx⟩ := g
    have e1 : wstep K h pl dl = h := by rw [wstep, if_neg hp]
    have e4 : wout K ml h pl dl = [] := by rw [wout, if_neg hp]
    have e5 : wcnt pl n = n := by rw [wcnt, if_neg hp]
    have e6 : werr pl = 2 := by rw [werr, if_neg hp]
    rw [e1, e4, e5, e6]
    exact ⟨_, lv, okb, B, he, ⟨none, [], rfl, fun _ => ⟨rfl, rfl⟩, by simp, (hS.ext hx).addNil _⟩, hL⟩


set_option maxHeartbeats 4000000 in
theorem apart_true {v : Value} {cs : List CallE} {w0 : World} (hG : Glob w0) (hv : CRd w0 v cs) :
    Calls Tryd.prog 7 #[v] w0 fun e w' => e = .returned (.bool true) ∧ Ext w0 w' := by
  obtain ⟨A1, c1, hv1, _⟩ := hv.is
  subst hv1
  have hlen := hv.len
  refine calls_start 74 Tryd.func7 rfl Tryd.ntmps7 rfl fun a hF => ?_
  have hS := St.refl w0
  refine wp_seq_k fun Kq1 hKq1 => ?_
  -- region 0 (law.go:200)
  refine wp_region_lit ?_
  refine wpList_stp (stp_gv hF (wanted_none rfl) rfl rfl (gv_assign rfl (ev_const _ _)) fun a hF => ?_)
  refine wpList_nil ?_
  refine then_normal (hKq1 _ _ ?_)
  refine wp_seq_k fun Kq2 hKq2 => ?_
  refine wp_seq_k fun Kq3 hKq3 => ?_
  -- region 1 (law.go:201)
  refine wp_region_lit ?_
  refine wpList_stp (stp_call hF (wanted_none rfl) rfl rfl Tryd.ok14 rfl Evs.nil (fit_ok hG) fun e w h => ?_)
  obtain ⟨rfl, hx⟩ := h
  refine ⟨_, rfl, fun a hF => ?_⟩
  replace hS := hS.ext hx
  clear hx
  refine wpList_stp (stp_gv hF (wanted_none rfl) rfl rfl (gv_not rfl (hF.t rfl)) fun a hF => ?_)
  refine wpList_nil ?_
  refine then_normal (hKq3 _ _ ?_)
  refine wp_cond_false (hF.t rfl) ?_
  refine wp_skip ?_
  refine then_normal (hKq2 _ _ ?_)
  refine wp_seq_k fun Kq4 hKq4 => ?_
  refine wp_seq_k fun Kq5 hKq5 => ?_
  -- region 3 (law.go:204)
  refine wp_region_lit ?_
  refine wpList_stp (stp_gv hF (wanted_none rfl) rfl rfl (gv_move rfl (hF.t rfl)) fun a hF => ?_)
  refine wpList_stp (stp_call hF (wanted_none rfl) rfl rfl Tryd.ok22 rfl (Evs.cons (hF.t rfl) Evs.nil) (light_ok (hv.ext (hS.toExt nw_nil))) fun e w h => ?_)
  obtain ⟨rfl, hx⟩ := h
  refine ⟨_, rfl, fun a hF => ?_⟩
  replace hS := hS.ext hx
  clear hx
  refine wpList_stp (stp_gv hF (wanted_none rfl) rfl rfl (gv_not rfl (hF.t rfl)) fun a hF => ?_)
  rw [← decide_not] at hF
  refine wpList_nil ?_
  refine then_normal (hKq5 _ _ ?_)
  refine cond_dec (hF.t rfl) (fun h15 => ?_) (fun h15 => ?_)
  ·
    refine wp_seq_k fun Kq6 hKq6 => ?_
    -- region 4 (law.go:205)
    refine wp_region_lit ?_
    refine wpList_stp (stp_gv hF (wanted_none rfl) rfl rfl (gv_assign rfl (ev_const _ _)) fun a hF => ?_)
    refine wpList_nil ?_
    refine then_normal (hKq6 _ _ ?_)
    refine wp_ret ?_
    refine then_ret ?_
    refine ret1 (fn := Tryd.f7) (t := 2) hF rfl rfl ?_
    exact ⟨rfl, hS.toExt nw_nil⟩
  ·
    have hlt : lightN cs cs.length ≤ 100 := by omega
    refine wp_skip ?_
    refine then_normal (hKq4 _ _ ?_)
    refine wp_seq_k fun Kq7 hKq7 => ?_
    -- region 5 (law.go:207)
    refine wp_region_lit ?_
    refine wpList_stp (stp_alloc hF (wanted_none rfl) rfl rfl rfl Tryd.zv37 rfl hS fun xa a w hF hS => ?_)
    refine wpList_stp (stp_alloc hF (wanted_none rfl) rfl rfl rfl Tryd.zv37 rfl hS fun xb a w hF hS => ?_)
    refine wpList_nil ?_
    refine then_normal (hKq7 _ _ ?_)
    refine wp_seq_k fun Kq8 hKq8 => ?_
    -- region 6 (law.go:208)
    refine wp_region_lit ?_
    refine wpList_stp (stp_gv hF (wanted_none rfl) rfl rfl (gv_field (r := 0) rfl Tryd.underlying37 rfl rfl Tryd.sz35 (by decide) (hF.t rfl)) fun a hF => ?_)
    refine wpList_stp (stp_call hF (wanted_none rfl) rfl rfl Tryd.ok20 rfl (Evs.cons (ev_const _ _) Evs.nil) (keys_ok (c := 1)) fun e w h => ?_)
    obtain ⟨ba, rfl, hN⟩ := h
    refine ⟨_, rfl, fun a hF => ?_⟩
    replace hS := hS.join hN (nw_cons rfl nw_nil)
    simp only [List.cons_append, List.nil_append] at hS
    clear hN
    replace hS := hS.move (k := 2) rfl
    have hks := key_srd (w0 := w0) (T := [⟨true, some ba, blkB 5 (kbs 1 64)⟩]) (b := ba) (c := 1) List.mem_cons_self
    refine wpList_stp (stp_call hF (wanted_none rfl) rfl rfl Tryd.ok19 rfl (Evs.cons (hF.t rfl) (Evs.cons (hF.t rfl) Evs.nil)) (hand_ok (tt := 37) (seq := 0) (st := .pointer none) (mac := .slice none 0 0) (n := 0) (rest := []) (nw_cons rfl (nw_cons rfl nw_nil)) hS (hks.1.mono (fun e he => by obtain rfl := List.mem_singleton.1 he; exact List.mem_cons_self)) (hks.2.1.mono (fun e he => by obtain rfl := List.mem_singleton.1 he; exact List.mem_cons_self)) (hks.2.2.mono (fun e he => by obtain rfl := List.mem_singleton.1 he; exact List.mem_cons_self)) (kKey_len 1) (kIv_len 1) (kMac_len 1)) fun e w h => ?_)
    obtain ⟨rfl, sa, ma, mpa, mca, hS⟩ := h
    refine ⟨_, rfl, fun a hF => ?_⟩
    clear hks
    refine wpList_nil ?_
    refine then_normal (hKq8 _ _ ?_)
    refine wp_seq_k fun Kq9 hKq9 => ?_
    -- region 7 (law.go:209)
    refine wp_region_lit ?_
    refine wpList_stp (stp_gv hF (wanted_none rfl) rfl rfl (gv_field (r := 0) rfl Tryd.underlying37 rfl rfl Tryd.sz35 (by decide) (hF.t rfl)) fun a hF => ?_)
    refine wpList_stp (stp_call hF (wanted_none rfl) rfl rfl Tryd.ok20 rfl (Evs.cons (ev_const _ _) Evs.nil) (keys_ok (c := 1)) fun e w h => ?_)
    obtain ⟨bb, rfl, hN⟩ := h
    refine ⟨_, rfl, fun a hF => ?_⟩
    replace hS := hS.join hN (nw_cons rfl nw_nil)
    simp only [List.cons_append, List.nil_append] at hS
    clear hN
    replace hS := hS.move (k := 6) rfl
    have hks := key_srd (w0 := w0) (T := [⟨true, some bb, blkB 5 (kbs 1 64)⟩]) (b := bb) (c := 1) List.mem_cons_self
    refine wpList_stp (stp_call hF (wanted_none rfl) rfl rfl Tryd.ok19 rfl (Evs.cons (hF.t rfl) (Evs.cons (hF.t rfl) Evs.nil)) (hand_ok (tt := 37) (seq := 0) (st := .pointer none) (mac := .slice none 0 0) (n := 0) (rest := []) (nw_cons rfl (nw_cons rfl (nw_cons rfl (nw_cons rfl (nw_cons rfl (nw_cons rfl nw_nil)))))) hS (hks.1.mono (fun e he => by obtain rfl := List.mem_singleton.1 he; exact List.mem_cons_self)) (hks.2.1.mono (fun e he => by obtain rfl := List.mem_singleton.1 he; exact List.mem_cons_self)) (hks.2.2.mono (fun e he => by obtain rfl := List.mem_singleton.1 he; exact List.mem_cons_self)) (kKey_len 1) (kIv_len 1) (kMac_len 1)) fun e w h => ?_)
    obtain ⟨rfl, sb, mb, mpb, mcb, hS⟩ := h
    refine ⟨_, rfl, fun a hF => ?_⟩
    clear hks
    refine wpList_nil ?_
    refine then_normal (hKq9 _ _ ?_)
    refine wp_seq_k fun Kq10 hKq10 => ?_
    refine wp_seq_k fun Kq11 hKq11 => ?_
    -- region 8 (law.go:210)
    refine wp_region_lit ?_
    refine wpList_stp (stp_gv hF (wanted_none rfl) rfl rfl (gv_move rfl (hF.t rfl)) fun a hF => ?_)
    refine wpList_stp (stp_gv hF (wanted_none rfl) rfl rfl (gv_len rfl Tryd.underlying44 (hF.t rfl)) fun a hF => ?_)
    refine wpList_stp (stp_gv hF (wanted_none rfl) rfl rfl (gv_move rfl (ev_const _ _)) fun a hF => ?_)
    refine wpList_nil ?_
    refine then_normal (hKq11 _ _ ?_)
    refine wp_block ?_
    have hMa := own_rd (w0 := w0) (T := [⟨true, some ma, blk 5 ((kMac 1).map vB ++ mpa)⟩]) (ob := some ma) List.mem_cons_self (fun h => by cases h) (kMac_len 1) mca
    have hMb := own_rd (w0 := w0) (T := [⟨true, some mb, blk 5 ((kMac 1).map vB ++ mpb)⟩]) (ob := some mb) List.mem_cons_self (fun h => by cases h) (kMac_len 1) mcb
    replace hS := hS.move (k := 4) rfl
    replace hS := hS.move (k := 2) rfl
    replace hS := hS.move (k := 9) rfl
    replace hS := hS.move (k := 7) rfl
    replace hS := hS.move (k := 6) rfl
    replace hS := hS.move (k := 6) rfl
    replace hS := hS.move (k := 6) rfl
    replace hS := hS.move (k := 9) rfl
    replace hS := hS.move (k := 9) rfl
    replace hS := hS.move (k := 9) rfl
    refine wp_loop_n (fun q a w => ∃ (i n : Nat) (h : HS) (la lb : Value) (kba kbb : Option Nat) (Ba Bb : List UInt8), i ≤ cs.length ∧ q = cs.length - i ∧ n = h.seq.toNat ∧ n ≤ i ∧ h.C.length = 16 ∧ SRd w0 [⟨true, kba, blkB 129 Ba⟩] la (h.L.map vB) ∧ SRd w0 [⟨true, kbb, blkB 129 Bb⟩] lb (h.L.map vB) ∧ Fr 74 a [(0, .slice A1 cs.length c1), (3, .pointer (some ⟨xa, 0, none⟩)), (4, .pointer (some ⟨xb, 0, none⟩)), (22, .slice A1 cs.length c1), (23, vI cs.length), (24, vI i)] ∧ St w0 w (⟨true, some xa, wrt h.seq (.pointer (some ⟨sa, 0, none⟩)) (.slice (some ⟨ma, 0, none⟩) 32 (32 + mpa.length)) n⟩ :: ⟨true, some sa, strm (keys (kKey 1)) h.C la⟩ :: ⟨true, kba, blkB 129 Ba⟩ :: ⟨true, some xb, wrt h.seq (.pointer (some ⟨sb, 0, none⟩)) (.slice (some ⟨mb, 0, none⟩) 32 (32 + mpb.length)) n⟩ :: ⟨true, some sb, strm (keys (kKey 1)) h.C lb⟩ :: ⟨true, kbb, blkB 129 Bb⟩ :: ⟨true, some ma, blk 5 ((kMac 1).map vB ++ mpa)⟩ :: ⟨true, some ba, blkB 5 (kbs 1 64)⟩ :: ⟨true, some mb, blk 5 ((kMac 1).map vB ++ mpb)⟩ :: ⟨true, some bb, blkB 5 (kbs 1 64)⟩ :: [])) cs.length ⟨0, 0, ⟨0, kIv 1, []⟩, .slice none 0 0, .slice none 0 0, none, none, [], [], by omega, by omega, rfl, by omega, kIv_len 1, nil_left, nil_left, hF.sub ⟨rfl, rfl, rfl, rfl, rfl, rfl, trivial⟩, hS⟩ ?_
    rintro q a w ⟨i, n, h, la, lb, kba, kbb, Ba, Bb, hi, hq, hn0, hni, hC, hLa, hLb, hF, hS⟩
    have hll := light_len cs cs.length (Nat.le_refl _)
    refine wp_seq_k fun Kq12 hKq12 => ?_
    -- region 9 (law.go:210)
    refine wp_region_lit ?_
    refine wpList_stp (stp_gv hF (wanted_none rfl) rfl rfl (gv_lss rfl (hF.t rfl) (hF.t rfl)) fun a hF => ?_)
    refine wpList_nil ?_
    refine then_normal (hKq12 _ _ ?_)
    refine wp_seq_k fun Kq13 hKq13 => ?_
    refine cond_dec (hF.t rfl) (fun h25 => ?_) (fun h25 => ?_)
    ·
      obtain ⟨b1, o1, ⟨kd, dv, bl, dr, nn⟩, hA1, hx1, hcell, hdv, hbl, hdr, hnn⟩ := hv.at (i := i) (by omega)
      obtain ⟨Ad, cd, hdv0, hd1, hd2, _⟩ := hdv.isB
      simp only at hdv0 hbl hdr hnn
      subst hdv0
      subst hA1
      have hsm := light_small hlt hx1
      simp only at hsm
      refine wp_skip ?_
      refine then_normal (hKq13 _ _ ?_)
      refine wp_seq_k fun Kq14 hKq14 => ?_
      refine wp_block ?_
      refine wp_seq_k fun Kq15 hKq15 => ?_
      -- region 10 (law.go:210)
      refine wp_region_lit ?_
      refine wpList_stp (stp_gv hF (wanted_none rfl) rfl rfl (gv_indexSl rfl Tryd.underlying44 Tryd.sz55 (hF.t rfl) (hF.t rfl) (by omega)) fun a hF => ?_)
      refine wpList_stp (stp_gv hF (wanted_none rfl) rfl rfl (gv_loadAgg (vs := [.int .i64 kd, .slice Ad bl.length cd, sV dr, .int .i64 nn]) rfl Tryd.underlying55 rfl (Tryd.sz55.trans (congrArg some (by rfl))) (hF.t rfl) (fun j u hu => cell_ext (hcell j u hu) (hS.toExt (nw_cons rfl (nw_cons rfl (nw_cons rfl (nw_cons rfl (nw_cons rfl (nw_cons rfl (nw_cons rfl (nw_cons rfl (nw_cons rfl (nw_cons rfl nw_nil))))))))))))) fun a hF => ?_)
      refine wpList_stp (stp_alloc hF (wanted_none rfl) rfl rfl rfl Tryd.zv55 rfl hS fun cx a w hF hS => ?_)
      refine wpList_stp (stp_storeAll hF (wanted_none rfl) rfl rfl (Tryd.sz55.trans (congrArg some (by rfl))) (hF.t rfl) (hF.t rfl) (cells_one (x := ⟨kd, .slice Ad bl.length cd, bl, dr, nn⟩) hdv) hS (k := 0) rfl (by rfl) fun w hS => ?_)
      refine wpList_nil ?_
      refine then_normal (hKq15 _ _ ?_)
      refine wp_seq_k fun Kq16 hKq16 => ?_
      refine wp_seq_k fun Kq17 hKq17 => ?_
      -- region 11 (law.go:211)
      refine wp_region_lit ?_
      refine wpList_stp (stp_gv hF (wanted_none rfl) rfl rfl (gv_field (r := 0) rfl Tryd.underlying55 rfl rfl Tryd.sz3 (by decide) (hF.t rfl)) fun a hF => ?_)
      refine wpList_stp (stp_gv hF (wanted_none rfl) rfl rfl (gv_load rfl Tryd.underlying3 rfl (hF.t rfl) (cell_ix (j := 0) (hS.cell (k := 0) rfl (rfl)) (by omega))) fun a hF => ?_)
      refine wpList_stp (stp_gv hF (wanted_none rfl) rfl rfl (gv_neq rfl (hF.t rfl) (ev_const _ _)) fun a hF => ?_)
      refine wpList_nil ?_
      refine then_normal (hKq17 _ _ ?_)
      refine cond_dec (hF.t rfl) (fun h30 => ?_) (fun h30 => ?_)
      ·
        refine wp_exit ?_
        refine then_exit ?_
        refine block_exit ?_
        refine then_normal (hKq14 _ _ ?_)
        -- region 16 (law.go:210)
        refine wp_region_lit ?_
        refine wpList_stp (stp_gv hF (wanted_none rfl) rfl rfl (gv_nadd (n := 1) rfl (hF.t rfl) rfl (by omega)) fun a hF => ?_)
        refine wpList_stp (stp_gv hF (wanted_none rfl) rfl rfl (gv_move rfl (hF.t rfl)) fun a hF => ?_)
        refine wpList_nil ?_
        refine then_normal ?_
        exact ⟨q - 1, by omega, i + 1, n, h, la, lb, kba, kbb, Ba, Bb, by omega, by omega, hn0, by omega, hC, hLa, hLb, hF.sub ⟨rfl, rfl, rfl, rfl, rfl, rfl, trivial⟩, hS.drop rfl⟩
      ·
        refine wp_skip ?_
        refine then_normal (hKq16 _ _ ?_)
        refine wp_seq_k fun Kq18 hKq18 => ?_
        -- region 12 (law.go:214)
        refine wp_region_lit ?_
        refine wpList_stp (stp_gv hF (wanted_none rfl) rfl rfl (gv_field (r := 1) rfl Tryd.underlying55 rfl rfl Tryd.sz22 (by decide) (hF.t rfl)) fun a hF => ?_)
        refine wpList_stp (stp_gv hF (wanted_none rfl) rfl rfl (gv_load rfl Tryd.underlying22 rfl (hF.t rfl) (cell_ix (j := 1) (hS.cell (k := 0) rfl (rfl)) (by omega))) fun a hF => ?_)
        refine wpList_stp (stp_gv hF (wanted_none rfl) rfl rfl (gv_field (r := 2) rfl Tryd.underlying55 rfl rfl Tryd.sz9 (by decide) (hF.t rfl)) fun a hF => ?_)
        refine wpList_stp (stp_gv hF (wanted_none rfl) rfl rfl (gv_load rfl Tryd.underlying9 rfl (hF.t rfl) (cell_ix (j := 2) (hS.cell (k := 0) rfl (rfl)) (by omega))) fun a hF => ?_)
        replace hS := hS.move (k := 3) rfl
        replace hS := hS.move (k := 3) rfl
        replace hS := hS.move (k := 3) rfl
        refine wpList_stp (stp_call hF (wanted_none rfl) rfl rfl Tryd.ok15 rfl (Evs.cons (hF.t rfl) (Evs.cons (hF.t rfl) (Evs.cons (hF.t rfl) Evs.nil))) (write_any (h := h) (pl := bl) (dl := dr) (ml := kMac 1) hG (nw_cons rfl (nw_cons rfl (nw_cons rfl (nw_cons rfl (nw_cons rfl (nw_cons rfl (nw_cons rfl (nw_cons rfl nw_nil)))))))) hS hLa (keys_len _) hC (SRd.old hdv) (hMa.mono (fun e he => by obtain rfl := List.mem_singleton.1 he; exact (List.mem_of_getElem? (i := 4) rfl))) (kMac_len 1) (by omega) (by omega)) fun e w h => ?_)
        clear hLa
        obtain ⟨v, la, kba, Ba, rfl, ⟨x, xp, rfl, xo, xc, hS⟩, hLa⟩ := h
        refine ⟨_, rfl, fun a hF => ?_⟩
        refine wpList_stp (stp_gv hF (wanted_none rfl) rfl rfl (gv_move rfl (hF.t rfl)) fun a hF => ?_)
        refine wpList_stp (stp_gv hF (wanted_none rfl) rfl rfl (gv_extract rfl (hF.t rfl) rfl) fun a hF => ?_)
        refine wpList_stp (stp_gv hF (wanted_none rfl) rfl rfl (gv_extract rfl (hF.t rfl) rfl) fun a hF => ?_)
        refine wpList_stp (stp_gv hF (wanted_none rfl) rfl rfl (gv_assign rfl (hF.t rfl)) fun a hF => ?_)
        refine wpList_stp (stp_gv hF (wanted_none rfl) rfl rfl (gv_assign rfl (hF.t rfl)) fun a hF => ?_)
        refine wpList_nil ?_
        refine then_normal (hKq18 _ _ ?_)
        refine wp_seq_k fun Kq19 hKq19 => ?_
        -- region 13 (law.go:215)
        refine Fw.wp_region_draw (by kernel_rfl) fun w hx => ?_
        replace hS := hS.ext hx
        replace hS := hS.move (k := 7) rfl
        replace hS := hS.move (k := 7) rfl
        replace hS := hS.move (k := 7) rfl
        clear hx
        refine run_headT (n := 11) _ [2, 5] (fun s_ w => stays w0 ⟨true, some cx, blk 55 [.int .i64 kd, .slice Ad bl.length cd, sV dr, .int .i64 nn]⟩ ⟨true, some cx, blk 55 [.int .i64 kd, .slice Ad bl.length cd, sV dr, .int .i64 nn]⟩ [] w ∧ (s_ = 0 → St w0 w (⟨true, some xb, wrt h.seq (.pointer (some ⟨sb, 0, none⟩)) (.slice (some ⟨mb, 0, none⟩) 32 (32 + mpb.length)) n⟩ :: ⟨true, some sb, strm (keys (kKey 1)) h.C lb⟩ :: ⟨true, kbb, blkB 129 Bb⟩ :: ⟨true, x, blk 5 ((wout (keys (kKey 1)) (kMac 1) h bl dr).map vB ++ xp)⟩ :: ⟨true, some xa, wrt (wstep (keys (kKey 1)) h bl dr).seq (.pointer (some ⟨sa, 0, none⟩)) (.slice (some ⟨ma, 0, none⟩) 32 (32 + mpa.length)) (wcnt bl n)⟩ :: ⟨true, some sa, strm (keys (kKey 1)) (wstep (keys (kKey 1)) h bl dr).C la⟩ :: ⟨true, kba, blkB 129 Ba⟩ :: ⟨true, some cx, blk 55 [.int .i64 kd, .slice Ad bl.length cd, sV dr, .int .i64 nn]⟩ :: ⟨true, some ma, blk 5 ((kMac 1).map vB ++ mpa)⟩ :: ⟨true, some ba, blkB 5 (kbs 1 64)⟩ :: ⟨true, some mb, blk 5 ((kMac 1).map vB ++ mpb)⟩ :: ⟨true, some bb, blkB 5 (kbs 1 64)⟩ :: []))) [(1, 41, FtE (.slice Ad bl.length cd)), (4, 44, FtE (sV dr)), (2, 42, fun s_ v w => 1 ≤ s_ ∧ (s_ = 1 → ownP w0 5 (⟨true, some xb, wrt h.seq (.pointer (some ⟨sb, 0, none⟩)) (.slice (some ⟨mb, 0, none⟩) 32 (32 + mpb.length)) n⟩ :: ⟨true, some sb, strm (keys (kKey 1)) h.C lb⟩ :: ⟨true, kbb, blkB 129 Bb⟩ :: ⟨true, x, blk 5 ((wout (keys (kKey 1)) (kMac 1) h bl dr).map vB ++ xp)⟩ :: ⟨true, some xa, wrt (wstep (keys (kKey 1)) h bl dr).seq (.pointer (some ⟨sa, 0, none⟩)) (.slice (some ⟨ma, 0, none⟩) 32 (32 + mpa.length)) (wcnt bl n)⟩ :: ⟨true, some sa, strm (keys (kKey 1)) (wstep (keys (kKey 1)) h bl dr).C la⟩ :: ⟨true, kba, blkB 129 Ba⟩ :: ⟨true, some cx, blk 55 [.int .i64 kd, .slice Ad bl.length cd, sV dr, .int .i64 nn]⟩ :: ⟨true, some ma, blk 5 ((kMac 1).map vB ++ mpa)⟩ :: ⟨true, some ba, blkB 5 (kbs 1 64)⟩ :: ⟨true, some mb, blk 5 ((kMac 1).map vB ++ mpb)⟩ :: ⟨true, some bb, blkB 5 (kbs 1 64)⟩ :: []) bl v w)), (5, 45, fun s_ v w => s_ = 2 ∧ ∃ (CP : Ent) (v1 : Value), CP.nw = true ∧ v = .tuple #[v1, .int .i64 (werr bl)] ∧ ∃ lb1 kbb1 Bb1, ownP w0 5 (⟨true, some xb, wrt (wstep (keys (kKey 1)) h bl dr).seq (.pointer (some ⟨sb, 0, none⟩)) (.slice (some ⟨mb, 0, none⟩) 32 (32 + mpb.length)) (wcnt bl n)⟩ :: ⟨true, some sb, strm (keys (kKey 1)) (wstep (keys (kKey 1)) h bl dr).C lb1⟩ :: ⟨true, kbb1, blkB 129 Bb1⟩ :: CP :: ⟨true, x, blk 5 ((wout (keys (kKey 1)) (kMac 1) h bl dr).map vB ++ xp)⟩ :: ⟨true, some xa, wrt (wstep (keys (kKey 1)) h bl dr).seq (.pointer (some ⟨sa, 0, none⟩)) (.slice (some ⟨ma, 0, none⟩) 32 (32 + mpa.length)) (wcnt bl n)⟩ :: ⟨true, some sa, strm (keys (kKey 1)) (wstep (keys (kKey 1)) h bl dr).C la⟩ :: ⟨true, kba, blkB 129 Ba⟩ :: ⟨true, some cx, blk 55 [.int .i64 kd, .slice Ad bl.length cd, sV dr, .int .i64 nn]⟩ :: ⟨true, some ma, blk 5 ((kMac 1).map vB ++ mpa)⟩ :: ⟨true, some ba, blkB 5 (kbs 1 64)⟩ :: ⟨true, some mb, blk 5 ((kMac 1).map vB ++ mpb)⟩ :: ⟨true, some bb, blkB 5 (kbs 1 64)⟩ :: []) (wout (keys (kKey 1)) (kMac 1) h bl dr) v1 w ∧ SRd w0 [⟨true, kbb1, blkB 129 Bb1⟩] lb1 ((wstep (keys (kKey 1)) h bl dr).L.map vB)), (6, 39, fun s_ v w => s_ = 2 ∧ ∃ (CP : Ent) (v1 : Value), CP.nw = true ∧ v = .tuple #[v1, .int .i64 (werr bl)] ∧ ∃ lb1 kbb1 Bb1, ownP w0 5 (⟨true, some xb, wrt (wstep (keys (kKey 1)) h bl dr).seq (.pointer (some ⟨sb, 0, none⟩)) (.slice (some ⟨mb, 0, none⟩) 32 (32 + mpb.length)) (wcnt bl n)⟩ :: ⟨true, some sb, strm (keys (kKey 1)) (wstep (keys (kKey 1)) h bl dr).C lb1⟩ :: ⟨true, kbb1, blkB 129 Bb1⟩ :: CP :: ⟨true, x, blk 5 ((wout (keys (kKey 1)) (kMac 1) h bl dr).map vB ++ xp)⟩ :: ⟨true, some xa, wrt (wstep (keys (kKey 1)) h bl dr).seq (.pointer (some ⟨sa, 0, none⟩)) (.slice (some ⟨ma, 0, none⟩) 32 (32 + mpa.length)) (wcnt bl n)⟩ :: ⟨true, some sa, strm (keys (kKey 1)) (wstep (keys (kKey 1)) h bl dr).C la⟩ :: ⟨true, kba, blkB 129 Ba⟩ :: ⟨true, some cx, blk 55 [.int .i64 kd, .slice Ad bl.length cd, sV dr, .int .i64 nn]⟩ :: ⟨true, some ma, blk 5 ((kMac 1).map vB ++ mpa)⟩ :: ⟨true, some ba, blkB 5 (kbs 1 64)⟩ :: ⟨true, some mb, blk 5 ((kMac 1).map vB ++ mpb)⟩ :: ⟨true, some bb, blkB 5 (kbs 1 64)⟩ :: []) (wout (keys (kKey 1)) (kMac 1) h bl dr) v1 w ∧ SRd w0 [⟨true, kbb1, blkB 129 Bb1⟩] lb1 ((wstep (keys (kKey 1)) h bl dr).L.map vB)), (7, 46, fun s_ v w => s_ = 2 ∧ ∃ (CP : Ent), CP.nw = true ∧ ∃ lb1 kbb1 Bb1, ownP w0 5 (⟨true, some xb, wrt (wstep (keys (kKey 1)) h bl dr).seq (.pointer (some ⟨sb, 0, none⟩)) (.slice (some ⟨mb, 0, none⟩) 32 (32 + mpb.length)) (wcnt bl n)⟩ :: ⟨true, some sb, strm (keys (kKey 1)) (wstep (keys (kKey 1)) h bl dr).C lb1⟩ :: ⟨true, kbb1, blkB 129 Bb1⟩ :: CP :: ⟨true, x, blk 5 ((wout (keys (kKey 1)) (kMac 1) h bl dr).map vB ++ xp)⟩ :: ⟨true, some xa, wrt (wstep (keys (kKey 1)) h bl dr).seq (.pointer (some ⟨sa, 0, none⟩)) (.slice (some ⟨ma, 0, none⟩) 32 (32 + mpa.length)) (wcnt bl n)⟩ :: ⟨true, some sa, strm (keys (kKey 1)) (wstep (keys (kKey 1)) h bl dr).C la⟩ :: ⟨true, kba, blkB 129 Ba⟩ :: ⟨true, some cx, blk 55 [.int .i64 kd, .slice Ad bl.length cd, sV dr, .int .i64 nn]⟩ :: ⟨true, some ma, blk 5 ((kMac 1).map vB ++ mpa)⟩ :: ⟨true, some ba, blkB 5 (kbs 1 64)⟩ :: ⟨true, some mb, blk 5 ((kMac 1).map vB ++ mpb)⟩ :: ⟨true, some bb, blkB 5 (kbs 1 64)⟩ :: []) (wout (keys (kKey 1)) (kMac 1) h bl dr) v w ∧ SRd w0 [⟨true, kbb1, blkB 129 Bb1⟩] lb1 ((wstep (keys (kKey 1)) h bl dr).L.map vB)), (8, 47, FtE (.int .i64 (werr bl))), (9, 9, fun s_ v w => s_ = 2 ∧ ∃ (CP : Ent), CP.nw = true ∧ ∃ lb1 kbb1 Bb1, ownP w0 5 (⟨true, some xb, wrt (wstep (keys (kKey 1)) h bl dr).seq (.pointer (some ⟨sb, 0, none⟩)) (.slice (some ⟨mb, 0, none⟩) 32 (32 + mpb.length)) (wcnt bl n)⟩ :: ⟨true, some sb, strm (keys (kKey 1)) (wstep (keys (kKey 1)) h bl dr).C lb1⟩ :: ⟨true, kbb1, blkB 129 Bb1⟩ :: CP :: ⟨true, x, blk 5 ((wout (keys (kKey 1)) (kMac 1) h bl dr).map vB ++ xp)⟩ :: ⟨true, some xa, wrt (wstep (keys (kKey 1)) h bl dr).seq (.pointer (some ⟨sa, 0, none⟩)) (.slice (some ⟨ma, 0, none⟩) 32 (32 + mpa.length)) (wcnt bl n)⟩ :: ⟨true, some sa, strm (keys (kKey 1)) (wstep (keys (kKey 1)) h bl dr).C la⟩ :: ⟨true, kba, blkB 129 Ba⟩ :: ⟨true, some cx, blk 55 [.int .i64 kd, .slice Ad bl.length cd, sV dr, .int .i64 nn]⟩ :: ⟨true, some ma, blk 5 ((kMac 1).map vB ++ mpa)⟩ :: ⟨true, some ba, blkB 5 (kbs 1 64)⟩ :: ⟨true, some mb, blk 5 ((kMac 1).map vB ++ mpb)⟩ :: ⟨true, some bb, blkB 5 (kbs 1 64)⟩ :: []) (wout (keys (kKey 1)) (kMac 1) h bl dr) v w ∧ SRd w0 [⟨true, kbb1, blkB 129 Bb1⟩] lb1 ((wstep (keys (kKey 1)) h bl dr).L.map vB)), (10, 10, FtE (.int .i64 (werr bl)))] hF (hS.toExt (nw_cons rfl (nw_cons rfl (nw_cons rfl (nw_cons rfl (nw_cons rfl (nw_cons rfl (nw_cons rfl (nw_cons rfl (nw_cons rfl (nw_cons rfl (nw_cons rfl (nw_cons rfl nw_nil))))))))))))) (⟨⟨_, hS, (nw_cons rfl (nw_cons rfl (nw_cons rfl (nw_cons rfl (nw_cons rfl (nw_cons rfl (nw_cons rfl (nw_cons rfl (nw_cons rfl (nw_cons rfl (nw_cons rfl (nw_cons rfl nw_nil)))))))))))), (List.mem_of_getElem? (i := 7) rfl), (List.mem_of_getElem? (i := 7) rfl), (fun e he => by cases he)⟩, fun _ => hS⟩) (fun _ _ _ h hx => ⟨h.1.ext hx, fun hs => (h.2 hs).ext hx⟩) (by kernel_rfl) rfl (fa_cons rfl (fa_cons rfl (fa_cons rfl (fa_cons rfl (fa_cons rfl (fa_cons rfl (fa_cons rfl (fa_cons rfl (fa_cons rfl fa_nil))))))))) (fa_cons (FtE.lasts _) (fa_cons (FtE.lasts _) (fa_cons (fun _ _ _ _ h hx => ⟨h.1, fun hs => (h.2 hs).ext hx⟩) (fa_cons (fun _ _ _ _ h hx => ⟨h.1, by obtain ⟨CP, v1, hc, hv, a1, a2, a3, h1, h2⟩ := h.2; exact ⟨CP, v1, hc, hv, a1, a2, a3, h1.ext hx, h2⟩⟩) (fa_cons (fun _ _ _ _ h hx => ⟨h.1, by obtain ⟨CP, v1, hc, hv, a1, a2, a3, h1, h2⟩ := h.2; exact ⟨CP, v1, hc, hv, a1, a2, a3, h1.ext hx, h2⟩⟩) (fa_cons (fun _ _ _ _ h hx => ⟨h.1, by obtain ⟨CP, hc, a1, a2, a3, h1, h2⟩ := h.2; exact ⟨CP, hc, a1, a2, a3, h1.ext hx, h2⟩⟩) (fa_cons (FtE.lasts _) (fa_cons (fun _ _ _ _ h hx => ⟨h.1, by obtain ⟨CP, hc, a1, a2, a3, h1, h2⟩ := h.2; exact ⟨CP, hc, a1, a2, a3, h1.ext hx, h2⟩⟩) (fa_cons (FtE.lasts _) fa_nil))))))))) (fa_cons ⟨Nat.zero_le _, Nat.le_of_ble_eq_true rfl⟩ (fa_cons ⟨Nat.zero_le _, Nat.le_of_ble_eq_true rfl⟩ (fa_cons ⟨Nat.zero_le _, Nat.le_of_ble_eq_true rfl⟩ (fa_cons ⟨Nat.zero_le _, Nat.le_of_ble_eq_true rfl⟩ (fa_cons ⟨Nat.zero_le _, Nat.le_of_ble_eq_true rfl⟩ (fa_cons ⟨Nat.zero_le _, Nat.le_of_ble_eq_true rfl⟩ (fa_cons ⟨Nat.zero_le _, Nat.le_of_ble_eq_true rfl⟩ (fa_cons ⟨Nat.zero_le _, Nat.le_of_ble_eq_true rfl⟩ (fa_cons ⟨Nat.zero_le _, Nat.le_of_ble_eq_true rfl⟩ fa_nil))))))))) rfl (by kernel_rfl) ?_
        refine dw_gv hF rfl (wanted_none rfl) rfl rfl (fun w hx => gv_field (r := 1) rfl Tryd.underlying55 rfl rfl Tryd.sz22 (by decide) (hF.t rfl)) fun a hF => ?_
        refine dw_fl rfl ?_
        refine dw_fl rfl ?_
        refine dw_gv hF rfl (wanted_none rfl) rfl rfl (fun w hx => gv_field (r := 2) rfl Tryd.underlying55 rfl rfl Tryd.sz9 (by decide) (hF.t rfl)) fun a hF => ?_
        refine dw_fl rfl ?_
        refine dw_fl rfl ?_
        refine dw_fl rfl ?_
        refine dw_fl rfl ?_
        refine dw_fl rfl ?_
        refine dw_fl rfl ?_
        refine dw_fl rfl ?_
        refine dw_nil ⟨(fa_cons ?_ (fa_cons ?_ (fa_cons ?_ (fa_cons ?_ (fa_cons ?_ (fa_cons ?_ (fa_cons ?_ (fa_cons ?_ (fa_cons ?_ fa_nil))))))))), fun a w hx hA hR hP => ?_⟩
        · intro s_ a w hsl hx hA hdp hP
          replace hF := hA _ hF
          exact ⟨_, rfl, .inl ⟨show (1 : Nat) ∉ [2, 5] from by decide, sx_gv (wanted_none rfl) (gv_load rfl Tryd.underlying22 rfl (hF.t rfl) (hP.1.cell (i := 1) rfl)) rfl⟩⟩
        · intro s_ a w hsl hx hA hdp hP
          replace hF := hA _ hF
          exact ⟨_, rfl, .inl ⟨show (4 : Nat) ∉ [2, 5] from by decide, sx_gv (wanted_none rfl) (gv_load rfl Tryd.underlying9 rfl (hF.t rfl) (hP.1.cell (i := 2) rfl)) rfl⟩⟩
        · intro s_ a w hsl hx hA hdp hP
          replace hF := hA _ hF
          refine ⟨_, rfl, .inr ⟨0, rfl, fun hs => ?_⟩⟩
          subst hs
          have hS := (hP.2 rfl).addNil (blk 5 (([] : List UInt8).map vB ++ []))
          have hR : Rd w (.slice Ad bl.length cd) (bl.map vB) := hdv.ext (hS.toExt (nw_cons rfl (nw_cons rfl (nw_cons rfl (nw_cons rfl (nw_cons rfl (nw_cons rfl (nw_cons rfl (nw_cons rfl (nw_cons rfl (nw_cons rfl (nw_cons rfl (nw_cons rfl (nw_cons rfl nw_nil))))))))))))))
          refine tx_appB (ob := none) (l := []) (pad := []) (k := 0) (wanted_none rfl) rfl Tryd.underlying22 Tryd.ty5 rfl (ev_const _ _) ((hF.t rfl).trans (hdp _ (List.mem_of_getElem? (i := 0) rfl) (by kernel_rfl))) hS rfl (fun _ => ⟨rfl, rfl⟩) (by simp) hR (by simp; omega) fun o op w' h2 h3 h4 => ?_
          simp only [List.nil_append] at h2 h3 h4 ⊢
          exact ⟨h4.toExt (nw_cons rfl (nw_cons rfl (nw_cons rfl (nw_cons rfl (nw_cons rfl (nw_cons rfl (nw_cons rfl (nw_cons rfl (nw_cons rfl (nw_cons rfl (nw_cons rfl (nw_cons rfl (nw_cons rfl nw_nil))))))))))))), ⟨⟨_, h4, (nw_cons rfl (nw_cons rfl (nw_cons rfl (nw_cons rfl (nw_cons rfl (nw_cons rfl (nw_cons rfl (nw_cons rfl (nw_cons rfl (nw_cons rfl (nw_cons rfl (nw_cons rfl (nw_cons rfl nw_nil))))))))))))), (List.mem_of_getElem? (i := 8) rfl), (List.mem_of_getElem? (i := 8) rfl), (fun e he => by cases he)⟩, fun h => by cases h⟩, ⟨by omega, fun _ => ⟨o, op, rfl, h2, h3, h4⟩⟩, (fa_cons id (fa_cons id (fa_cons (fun h => absurd h.1 (by decide)) (fa_cons (fun h => absurd h.1 (by decide)) (fa_cons (fun h => absurd h.1 (by decide)) (fa_cons (fun h => absurd h.1 (by decide)) (fa_cons id (fa_cons (fun h => absurd h.1 (by decide)) (fa_cons id fa_nil)))))))))⟩
        · intro s_ a w hsl hx hA hdp hP
          replace hF := hA _ hF
          refine ⟨_, rfl, .inr ⟨1, rfl, fun hs => ?_⟩⟩
          subst hs
          obtain ⟨o, op, hv, ho, hc, hS⟩ := ((hdp _ (List.mem_of_getElem? (i := 2) rfl) (by kernel_rfl))).2 rfl
          replace hS := ((hS.move (k := 3) rfl).move (k := 3) rfl).move (k := 3) rfl
          refine tx_call (wanted_none rfl) Tryd.ok15 rfl (Evs.cons (hF.t rfl) (Evs.cons ((hF.t rfl).trans hv) (Evs.cons ((hF.t rfl).trans (hdp _ (List.mem_of_getElem? (i := 1) rfl) (by kernel_rfl))) Evs.nil))) ((write_any (pl := bl) (dl := dr) (ml := kMac 1) hG (nw_cons rfl (nw_cons rfl (nw_cons rfl (nw_cons rfl (nw_cons rfl (nw_cons rfl (nw_cons rfl (nw_cons rfl (nw_cons rfl (nw_cons rfl nw_nil)))))))))) hS hLb (keys_len _) hC (own_rd (ob := o) List.mem_cons_self ho rfl hc) (hMb.mono (fun e he => by obtain rfl := List.mem_singleton.1 he; exact (List.mem_of_getElem? (i := 8) rfl))) (kMac_len 1) (by omega) (by omega)).mono fun e w' h => ?_)
          obtain ⟨v1, lb1, kbb1, Bb1, he, hO, hL1⟩ := h
          obtain ⟨y, yp, hyv, hyo, hyc, hS1⟩ := hO
          exact ⟨_, he, hS1.toExt (nw_cons rfl (nw_cons rfl (nw_cons rfl (nw_cons rfl (nw_cons rfl (nw_cons rfl (nw_cons rfl (nw_cons rfl (nw_cons rfl (nw_cons rfl (nw_cons rfl (nw_cons rfl (nw_cons rfl (nw_cons rfl nw_nil)))))))))))))), ⟨⟨_, hS1, (nw_cons rfl (nw_cons rfl (nw_cons rfl (nw_cons rfl (nw_cons rfl (nw_cons rfl (nw_cons rfl (nw_cons rfl (nw_cons rfl (nw_cons rfl (nw_cons rfl (nw_cons rfl (nw_cons rfl (nw_cons rfl nw_nil)))))))))))))), (List.mem_of_getElem? (i := 9) rfl), (List.mem_of_getElem? (i := 9) rfl), (fun e he => by cases he)⟩, fun h => by cases h⟩, ⟨rfl, _, v1, rfl, rfl, lb1, kbb1, Bb1, ⟨y, yp, hyv, hyo, hyc, hS1⟩, hL1⟩, (fa_cons id (fa_cons id (fa_cons (fun _ => ⟨by omega, fun h => by cases h⟩) (fa_cons (fun h => absurd h.1 (by decide)) (fa_cons (fun h => absurd h.1 (by decide)) (fa_cons (fun h => absurd h.1 (by decide)) (fa_cons id (fa_cons (fun h => absurd h.1 (by decide)) (fa_cons id fa_nil)))))))))⟩
        · intro s_ a w hsl hx hA hdp hP
          replace hF := hA _ hF
          exact ⟨_, rfl, .inl ⟨show (6 : Nat) ∉ [2, 5] from by decide, sx_gv (wanted_none rfl) (gv_move rfl (hF.t rfl)) (hdp _ (List.mem_of_getElem? (i := 3) rfl) (by kernel_rfl))⟩⟩
        · intro s_ a w hsl hx hA hdp hP
          replace hF := hA _ hF
          obtain ⟨hs, CP, v1, hc, hv, h5⟩ := (hdp _ (List.mem_of_getElem? (i := 4) rfl) (by kernel_rfl))
          exact ⟨_, rfl, .inl ⟨show (7 : Nat) ∉ [2, 5] from by decide, sx_gv (wanted_none rfl) (gv_extract (v := v1) rfl ((hF.t rfl).trans hv) rfl) ⟨hs, CP, hc, h5⟩⟩⟩
        · intro s_ a w hsl hx hA hdp hP
          replace hF := hA _ hF
          obtain ⟨hs, CP, v1, hc, hv, h5⟩ := (hdp _ (List.mem_of_getElem? (i := 4) rfl) (by kernel_rfl))
          exact ⟨_, rfl, .inl ⟨show (8 : Nat) ∉ [2, 5] from by decide, sx_gv (wanted_none rfl) (gv_extract rfl ((hF.t rfl).trans hv) rfl) rfl⟩⟩
        · intro s_ a w hsl hx hA hdp hP
          replace hF := hA _ hF
          exact ⟨_, rfl, .inl ⟨show (9 : Nat) ∉ [2, 5] from by decide, sx_gv (wanted_none rfl) (gv_assign rfl (hF.t rfl)) (hdp _ (List.mem_of_getElem? (i := 5) rfl) (by kernel_rfl))⟩⟩
        · intro s_ a w hsl hx hA hdp hP
          replace hF := hA _ hF
          exact ⟨_, rfl, .inl ⟨show (10 : Nat) ∉ [2, 5] from by decide, sx_gv (wanted_none rfl) (gv_assign rfl ((hF.t rfl).trans (hdp _ (List.mem_of_getElem? (i := 6) rfl) (by kernel_rfl)))) rfl⟩⟩
        replace hF := hA _ hF
        clear hA
        clear hP
        have h10 := hR _ (List.mem_of_getElem? (i := 8) rfl)
        obtain ⟨_, CP, hCP, lb1, kbb1, Bb1, ⟨y, yp, hyv, yo, yc, hS⟩, hLb1⟩ := hR _ (List.mem_of_getElem? (i := 7) rfl)
        replace hF : Fr 74 a [(0, .slice (some ⟨b1, o1, none⟩) cs.length c1), (3, .pointer (some ⟨xa, 0, none⟩)), (4, .pointer (some ⟨xb, 0, none⟩)), (22, .slice (some ⟨b1, o1, none⟩) cs.length c1), (23, vI cs.length), (24, vI i), (6, .pointer (some ⟨cx, 0, none⟩)), (7, ownV x (wout (keys (kKey 1)) (kMac 1) h bl dr).length ((wout (keys (kKey 1)) (kMac 1) h bl dr).length + xp.length)), (8, .int .i64 (werr bl)), (9, ownV y (wout (keys (kKey 1)) (kMac 1) h bl dr).length ((wout (keys (kKey 1)) (kMac 1) h bl dr).length + yp.length)), (10, .int .i64 (werr bl))] := hF.sub ⟨rfl, rfl, rfl, rfl, rfl, rfl, rfl, rfl, rfl, congrArg some hyv, congrArg some h10, trivial⟩
        clear hR hyv h10
        refine run_done (by decide) ?_
        refine then_normal (hKq19 _ _ ?_)
        refine wp_seq_k fun Kq20 hKq20 => ?_
        -- region 14 (law.go:216)
        refine wp_region_lit ?_
        refine wpList_stp (stp_gv hF (wanted_none rfl) rfl rfl (gv_move rfl (hF.t rfl)) fun a hF => ?_)
        refine wpList_stp (stp_gv hF (wanted_none rfl) rfl rfl (gv_move rfl (hF.t rfl)) fun a hF => ?_)
        refine wpList_stp (stp_gv hF (wanted_none rfl) rfl rfl (gv_neqF rfl (hF.t rfl) (hF.t rfl) (fun h => h rfl)) fun a hF => ?_)
        refine wpList_stp (stp_gv hF (wanted_none rfl) rfl rfl (gv_move rfl (hF.t rfl)) fun a hF => ?_)
        refine wpList_stp (stp_gv hF (wanted_of hF rfl rfl (rfl)) rfl rfl (gv_move rfl (hF.t rfl)) fun a hF => ?_)
        refine wpList_stp (stp_gv hF (wanted_of hF rfl rfl (rfl)) rfl rfl (gv_convStr rfl Tryd.underlying22 Tryd.underlying5 Tryd.underlying9 (hF.t rfl) (rd_own (l := wout (keys (kKey 1)) (kMac 1) h bl dr) hS (List.mem_of_getElem? (i := 5) rfl) (nw_cons rfl (nw_cons rfl (nw_cons rfl (nw_cons rfl (nw_cons hCP (nw_cons rfl (nw_cons rfl (nw_cons rfl (nw_cons rfl (nw_cons rfl (nw_cons rfl (nw_cons rfl (nw_cons rfl (nw_cons rfl nw_nil)))))))))))))) xo rfl xc)) fun a hF => ?_)
        refine wpList_stp (stp_gv hF (wanted_of hF rfl rfl (rfl)) rfl rfl (gv_move rfl (hF.t rfl)) fun a hF => ?_)
        refine wpList_stp (stp_gv hF (wanted_of hF rfl rfl (rfl)) rfl rfl (gv_convStr rfl Tryd.underlying22 Tryd.underlying5 Tryd.underlying9 (hF.t rfl) (rd_own (l := wout (keys (kKey 1)) (kMac 1) h bl dr) hS (List.mem_of_getElem? (i := 0) rfl) (nw_cons rfl (nw_cons rfl (nw_cons rfl (nw_cons rfl (nw_cons hCP (nw_cons rfl (nw_cons rfl (nw_cons rfl (nw_cons rfl (nw_cons rfl (nw_cons rfl (nw_cons rfl (nw_cons rfl (nw_cons rfl nw_nil)))))))))))))) yo rfl yc)) fun a hF => ?_)
        refine wpList_stp (stp_gv hF (wanted_of hF rfl rfl (rfl)) rfl rfl (gv_strNeqF rfl (hF.t rfl) (hF.t rfl) rfl) fun a hF => ?_)
        refine wpList_stp (stp_gv hF (wanted_none rfl) rfl rfl (gv_pickF rfl (hF.t rfl) (hF.t rfl)) fun a hF => ?_)
        refine wpList_stp (stp_gv hF (wanted_none rfl) rfl rfl (gv_move rfl (hF.t rfl)) fun a hF => ?_)
        refine wpList_stp (stp_gv hF (wanted_of hF rfl rfl (rfl)) rfl rfl (gv_field (r := 0) rfl Tryd.underlying37 rfl rfl Tryd.sz35 (by decide) (hF.t rfl)) fun a hF => ?_)
        refine wpList_stp (stp_call hF (wanted_of hF rfl rfl (rfl)) rfl rfl Tryd.ok21 rfl (Evs.cons (hF.t rfl) Evs.nil) (num_ok (s := (wstep (keys (kKey 1)) h bl dr).seq) (hS.cell (k := 6) (i := 0) rfl rfl)) fun e w h => ?_)
        obtain ⟨rfl, hx⟩ := h
        refine ⟨_, rfl, fun a hF => ?_⟩
        replace hS := hS.ext hx
        clear hx
        refine wpList_stp (stp_gv hF (wanted_of hF rfl rfl (rfl)) rfl rfl (gv_field (r := 0) rfl Tryd.underlying37 rfl rfl Tryd.sz35 (by decide) (hF.t rfl)) fun a hF => ?_)
        refine wpList_stp (stp_call hF (wanted_of hF rfl rfl (rfl)) rfl rfl Tryd.ok21 rfl (Evs.cons (hF.t rfl) Evs.nil) (num_ok (s := (wstep (keys (kKey 1)) h bl dr).seq) (hS.cell (k := 1) (i := 0) rfl rfl)) fun e w h => ?_)
        obtain ⟨rfl, hx⟩ := h
        refine ⟨_, rfl, fun a hF => ?_⟩
        replace hS := hS.ext hx
        clear hx
        refine wpList_stp (stp_gv hF (wanted_of hF rfl rfl (rfl)) rfl rfl (gv_neqF rfl (hF.t rfl) (hF.t rfl) (fun h => h rfl)) fun a hF => ?_)
        refine wpList_stp (stp_gv hF (wanted_none rfl) rfl rfl (gv_pickF rfl (hF.t rfl) (hF.t rfl)) fun a hF => ?_)
        refine wpList_stp (stp_gv hF (wanted_none rfl) rfl rfl (gv_move rfl (hF.t rfl)) fun a hF => ?_)
        refine wpList_stp (stp_gv hF (wanted_of hF rfl rfl (rfl)) rfl rfl (gv_field (r := 0) rfl Tryd.underlying37 rfl rfl Tryd.sz35 (by decide) (hF.t rfl)) fun a hF => ?_)
        refine wpList_stp (stp_call hF (wanted_of hF rfl rfl (rfl)) rfl rfl Tryd.ok24 rfl (Evs.cons (hF.t rfl) Evs.nil) (cnt_ok (n := wcnt bl n) (hS.cell (k := 6) (i := 3) rfl rfl)) fun e w h => ?_)
        obtain ⟨rfl, hx⟩ := h
        refine ⟨_, rfl, fun a hF => ?_⟩
        replace hS := hS.ext hx
        clear hx
        refine wpList_stp (stp_gv hF (wanted_of hF rfl rfl (rfl)) rfl rfl (gv_field (r := 0) rfl Tryd.underlying37 rfl rfl Tryd.sz35 (by decide) (hF.t rfl)) fun a hF => ?_)
        refine wpList_stp (stp_call hF (wanted_of hF rfl rfl (rfl)) rfl rfl Tryd.ok21 rfl (Evs.cons (hF.t rfl) Evs.nil) (num_ok (s := (wstep (keys (kKey 1)) h bl dr).seq) (hS.cell (k := 6) (i := 0) rfl rfl)) fun e w h => ?_)
        obtain ⟨rfl, hx⟩ := h
        refine ⟨_, rfl, fun a hF => ?_⟩
        replace hS := hS.ext hx
        clear hx
        refine wpList_stp (stp_gv hF (wanted_of hF rfl rfl (rfl)) rfl rfl (gv_conv_w_i rfl Tryd.underlying32 Tryd.underlying3 (hF.t rfl)) fun a hF => ?_)
        refine wpList_stp (stp_gv hF (wanted_of hF rfl rfl (rfl)) rfl rfl (gv_neqF rfl (hF.t rfl) (hF.t rfl) (fun h => h (by rw [wcnt_seq (K := keys (kKey 1)) (dl := dr) hn0 (by omega)]))) fun a hF => ?_)
        refine wpList_stp (stp_gv hF (wanted_none rfl) rfl rfl (gv_pickF rfl (hF.t rfl) (hF.t rfl)) fun a hF => ?_)
        refine wpList_nil ?_
        refine then_normal (hKq20 _ _ ?_)
        refine wp_cond_false (hF.t rfl) ?_
        refine wp_skip ?_
        refine block_normal ?_
        refine then_normal (hKq14 _ _ ?_)
        -- region 16 (law.go:210)
        refine wp_region_lit ?_
        refine wpList_stp (stp_gv hF (wanted_none rfl) rfl rfl (gv_nadd (n := 1) rfl (hF.t rfl) rfl (by omega)) fun a hF => ?_)
        refine wpList_stp (stp_gv hF (wanted_none rfl) rfl rfl (gv_move rfl (hF.t rfl)) fun a hF => ?_)
        refine wpList_nil ?_
        refine then_normal ?_
        replace hS := hS.drop rfl
        replace hS := (hS.move (k := 3) rfl).drop hCP
        replace hS := (hS.move (k := 3) rfl).drop rfl
        replace hS := (hS.move (k := 6) rfl).drop rfl
        replace hS := ((hS.move (k := 5) rfl).move (k := 5) rfl).move (k := 5) rfl
        have hwl := wcnt_le bl n
        exact ⟨q - 1, by omega, i + 1, wcnt bl n, wstep (keys (kKey 1)) h bl dr, la, lb1, kba, kbb1, Ba, Bb1, by omega, by omega, wcnt_seq hn0 (by omega), by omega, wstep_C hC, hLa, hLb1, hF.sub ⟨rfl, rfl, rfl, rfl, rfl, rfl, trivial⟩, hS⟩
    ·
      refine wp_exit ?_
      refine then_exit ?_
      refine then_exit ?_
      refine block_exit ?_
      refine then_normal (hKq10 _ _ ?_)
      refine wp_seq_k fun Kq21 hKq21 => ?_
      -- region 17 (law.go:220)
      refine wp_region_lit ?_
      refine wpList_stp (stp_gv hF (wanted_none rfl) rfl rfl (gv_assign rfl (ev_const _ _)) fun a hF => ?_)
      refine wpList_nil ?_
      refine then_normal (hKq21 _ _ ?_)
      refine wp_ret ?_
      refine ret1 (fn := Tryd.f7) (t := 2) hF rfl rfl ?_
      exact ⟨rfl, hS.toExt (nw_cons rfl (nw_cons rfl (nw_cons rfl (nw_cons rfl (nw_cons rfl (nw_cons rfl (nw_cons rfl (nw_cons rfl (nw_cons rfl (nw_cons rfl nw_nil))))))))))⟩


end Go.Proofs.YtfhalnobaeogkaaDoor
