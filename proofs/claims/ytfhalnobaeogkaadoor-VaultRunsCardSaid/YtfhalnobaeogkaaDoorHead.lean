/- What is proved: the contracts of the bytes of a record, and of the head of a half. -/
import Derived.Test.YtfhalnobaeogkaaDoorProg
import Derived.Test.YtfhalnobaeogkaaDoorFwSep
import Derived.KernelRfl
import Derived.Test.YtfhalnobaeogkaaDoorFwSto
import Derived.Test.YtfhalnobaeogkaaDoorFwVlt
import Derived.Test.YtfhalnobaeogkaaDoorFwApp
import Derived.Test.YtfhalnobaeogkaaDoorFwWord
import Derived.Test.YtfhalnobaeogkaaDoorFwPkt
import Derived.Test.YtfhalnobaeogkaaDoorFwTok
import Derived.Test.YtfhalnobaeogkaaDoorDig
import Derived.Test.YtfhalnobaeogkaaDoorSum
import Derived.Test.YtfhalnobaeogkaaDoorWire
import Derived.Test.YtfhalnobaeogkaaDoorPktW
import Derived.Test.YtfhalnobaeogkaaDoorPktR
import Derived.Test.YtfhalnobaeogkaaDoorWireA
import Derived.Test.YtfhalnobaeogkaaDoorDisk
set_option linter.unusedVariables false
set_option linter.unusedSimpArgs false
namespace Go.Proofs.YtfhalnobaeogkaaDoor
open Go Go.RowKit Go.Fw

theorem Tryd.sz9 : (Tryd.prog.info? 9).map (·.size) = some 1 := by kernel_rfl
theorem Tryd.ok78 : CallOk Tryd.prog 78 := ⟨_, Tryd.func78, by kernel_rfl, by kernel_rfl⟩
theorem Tryd.ok79 : CallOk Tryd.prog 79 := ⟨_, Tryd.func79, by kernel_rfl, by kernel_rfl⟩

theorem u32_full {w00 w : World} {T : List Ent} {A : Option Addr} {l : List UInt8} {x : UInt32} (hT : ∀ e ∈ T, e.nw = true) (hS : St w00 w T) (hP : SRd w00 T (.slice A l.length l.length) (l.map vB)) (h0 : 0 < l.length) (hn : l.length ≤ 1099511627776) :
    Calls Tryd.prog 45 #[.slice A l.length l.length, vW x] w fun e w' => ∃ o' op', e = .returned (ownV o' (l ++ u32B x).length ((l ++ u32B x).length + op'.length)) ∧ (o' = none → (l ++ u32B x) = [] ∧ op' = []) ∧ ((l ++ u32B x)).length + op'.length ≤ 9223372036854775807 ∧ St w00 w' (⟨true, o', blk 5 ((l ++ u32B x).map vB ++ op')⟩ :: T) := by
  refine calls_start 19 Tryd.func45 rfl Tryd.ntmps45 rfl fun a hF => ?_
  refine wp_seq_k fun Kq1 hKq1 => ?_
  -- region 0 (wire.go:11)
  refine wp_region_lit ?_
  refine wpList_stp (stp_gv hF (wanted_none rfl) rfl rfl (gv_assign rfl (ev_const _ _)) fun a hF => ?_)
  refine wpList_nil ?_
  refine then_normal (hKq1 _ _ ?_)
  refine wp_seq_k fun Kq2 hKq2 => ?_
  -- region 1 (wire.go:12)
  refine wp_region_lit ?_
  refine wpList_stp (stp_gv hF (wanted_none rfl) rfl rfl (gv_move rfl (hF.t rfl)) fun a hF => ?_)
  refine wpList_stp (stp_gv hF (wanted_none rfl) rfl rfl (gv_move rfl (hF.t rfl)) fun a hF => ?_)
  refine wpList_stp (stp_gv hF (wanted_none rfl) rfl rfl (gv_w_shr (n := 24) rfl (hF.t rfl) rfl (by omega)) fun a hF => ?_)
  refine wpList_stp (stp_gv hF (wanted_none rfl) rfl rfl (gv_conv_w_b rfl Tryd.underlying32 Tryd.underlying5 (hF.t rfl)) fun a hF => ?_)
  refine wpList_stp (stp_gv hF (wanted_none rfl) rfl rfl (gv_move rfl (hF.t rfl)) fun a hF => ?_)
  refine wpList_stp (stp_gv hF (wanted_none rfl) rfl rfl (gv_w_shr (n := 16) rfl (hF.t rfl) rfl (by omega)) fun a hF => ?_)
  refine wpList_stp (stp_gv hF (wanted_none rfl) rfl rfl (gv_conv_w_b rfl Tryd.underlying32 Tryd.underlying5 (hF.t rfl)) fun a hF => ?_)
  refine wpList_stp (stp_gv hF (wanted_none rfl) rfl rfl (gv_move rfl (hF.t rfl)) fun a hF => ?_)
  refine wpList_stp (stp_gv hF (wanted_none rfl) rfl rfl (gv_w_shr (n := 8) rfl (hF.t rfl) rfl (by omega)) fun a hF => ?_)
  refine wpList_stp (stp_gv hF (wanted_none rfl) rfl rfl (gv_conv_w_b rfl Tryd.underlying32 Tryd.underlying5 (hF.t rfl)) fun a hF => ?_)
  refine wpList_stp (stp_gv hF (wanted_none rfl) rfl rfl (gv_move rfl (hF.t rfl)) fun a hF => ?_)
  refine wpList_stp (stp_gv hF (wanted_none rfl) rfl rfl (gv_conv_w_b rfl Tryd.underlying32 Tryd.underlying5 (hF.t rfl)) fun a hF => ?_)
  refine wpList_stp (stp_build4 hF (wanted_none rfl) rfl rfl rfl Tryd.underlying22 Tryd.ty5 (hF.t rfl) (hF.t rfl) (hF.t rfl) (hF.t rfl) hS fun zb a w hF hS => ?_)
  have hR : Rd w (.slice (some ⟨zb, 0, none⟩) 4 4) ((u32B x).map vB) := rd_blkB hS List.mem_cons_self rfl (by omega)
  have hl := hP w _ (hS.drop rfl) hT (fun e he => he)
  refine wpList_stp (stp_appFull hF (wanted_none rfl) rfl rfl rfl Tryd.underlying22 Tryd.ty5 rfl (hF.t rfl) (hF.t rfl) hS hl h0 hR (by rw [u32B_len]; omega) (by rw [u32B_len]; omega) fun o op a w hF oc hS => ?_)
  replace hS := hS.drop2 rfl
  refine wpList_stp (stp_gv hF (wanted_none rfl) rfl rfl (gv_assign rfl (hF.t rfl)) fun a hF => ?_)
  refine wpList_nil ?_
  refine then_normal (hKq2 _ _ ?_)
  refine wp_ret ?_
  refine ret1 (fn := Tryd.f45) (t := 4) hF rfl rfl ?_
  exact ⟨some o, op, rfl, (fun h => by cases h), oc, hS⟩


def recB (a c : List UInt8) (p : Bool) : List UInt8 := textB a ++ textB c ++ [if p then 1 else 0]
theorem recB_len (a c : List UInt8) (p : Bool) : (recB a c p).length = a.length + c.length + 9 := by
  simp only [recB, List.length_append, textB_len, List.length_cons, List.length_nil]; omega
def mun : List UInt8 := [77, 85, 78, 73]
def hdr (g : UInt64) (n : Nat) : List UInt8 := mun ++ u32B (g >>> UInt64.ofNat 32).toUInt32 ++ u32B g.toUInt32 ++ u32B (UInt32.ofNat n)
theorem hdr_len (g : UInt64) (n : Nat) : (hdr g n).length = 16 := rfl
/-- The head of a half. -/
def headF (g : UInt64) (b : List UInt8) : List UInt8 := hdr g b.length ++ sum256 (hdr g b.length ++ b) ++ ((hdr g b.length).take 12).drop 4 ++ List.replicate 8 0
theorem headF_len (g : UInt64) (b : List UInt8) : (headF g b).length = 64 := by
  simp only [headF, List.length_append, sum256_len, hdr_len, List.length_drop, List.length_take, List.length_replicate]; omega
abbrev recO (a c : List UInt8) (p : Bool) : Obj := blk 63 [sV a, sV c, .bool p]


theorem bytes_ok {al cl : List UInt8} {p : Bool} {w0 : World} (ha : al.length ≤ 137438953472) (hc : cl.length ≤ 137438953472) :
    Calls Tryd.prog 60 #[recV al cl p] w0 fun e w' => ∃ o op, e = .returned (ownV o (recB al cl p).length ((recB al cl p).length + op.length)) ∧ (o = none → (recB al cl p) = [] ∧ op = []) ∧ ((recB al cl p)).length + op.length ≤ 9223372036854775807 ∧ ∃ r, St w0 w' [⟨true, o, blk 5 ((recB al cl p).map vB ++ op)⟩, ⟨true, some r, recO al cl p⟩] := by
  refine calls_start 12 Tryd.func60 rfl Tryd.ntmps60 rfl fun a hF => ?_
  have hS := St.refl w0
  refine wp_seq_k fun Kq1 hKq1 => ?_
  -- region 0 (vault.go:100)
  refine wp_region_lit ?_
  refine wpList_stp (stp_box (cs := [sV al, sV cl, .bool p]) hF (wanted_none rfl) rfl rfl rfl (hF.t rfl) rfl hS fun r a w hF hS => ?_)
  refine wpList_stp (stp_gv hF (wanted_none rfl) rfl rfl (gv_assign rfl (ev_const _ _)) fun a hF => ?_)
  refine wpList_nil ?_
  refine then_normal (hKq1 _ _ ?_)
  refine wp_seq_k fun Kq2 hKq2 => ?_
  -- region 1 (vault.go:101)
  refine Fw.wp_region_draw (by kernel_rfl) fun w hx => ?_
  replace hS := hS.ext hx
  clear hx
  refine run_headT (n := 10) _ [2, 5, 8] (fun s_ x => s_ = 0 → St w x []) [(2, 5, fun s_ v x => 1 ≤ s_ ∧ (s_ = 1 → ownP w 5 [] (textB al) v x)), (5, 8, fun s_ v x => 2 ≤ s_ ∧ (s_ = 2 → ownP w 5 [] (textB al ++ textB cl) v x)), (8, 11, fun s_ v x => 3 ≤ s_ ∧ (s_ = 3 → ownP w 5 [] (recB al cl p) v x)), (9, 2, fun s_ v x => 3 ≤ s_ ∧ (s_ = 3 → ownP w 5 [] (recB al cl p) v x))] hF (Ext.refl _) (fun _ => St.refl _) (fun _ _ _ h hx hs => (h hs).ext hx) (by kernel_rfl) rfl (fa_cons rfl (fa_cons rfl (fa_cons rfl (fa_cons rfl fa_nil)))) (fa_cons (fun _ _ _ _ h hx => ⟨h.1, fun hs => (h.2 hs).ext hx⟩) (fa_cons (fun _ _ _ _ h hx => ⟨h.1, fun hs => (h.2 hs).ext hx⟩) (fa_cons (fun _ _ _ _ h hx => ⟨h.1, fun hs => (h.2 hs).ext hx⟩) (fa_cons (fun _ _ _ _ h hx => ⟨h.1, fun hs => (h.2 hs).ext hx⟩) fa_nil)))) (fa_cons ⟨Nat.zero_le _, Nat.le_of_ble_eq_true rfl⟩ (fa_cons ⟨Nat.zero_le _, Nat.le_of_ble_eq_true rfl⟩ (fa_cons ⟨Nat.zero_le _, Nat.le_of_ble_eq_true rfl⟩ (fa_cons ⟨Nat.zero_le _, Nat.le_of_ble_eq_true rfl⟩ fa_nil)))) rfl (by kernel_rfl) ?_
  refine dw_gv hF rfl (wanted_none rfl) rfl rfl (fun w hx => gv_field (r := 0) rfl Tryd.underlying63 rfl rfl Tryd.sz9 (by decide) (hF.t rfl)) fun a hF => ?_
  refine dw_gv hF rfl (wanted_none rfl) rfl rfl (fun w hx => gv_load rfl Tryd.underlying9 rfl (hF.t rfl) (cell_ix (j := 0) ((hS.ext hx).cell (k := 0) rfl rfl) (by omega))) fun a hF => ?_
  refine dw_fl rfl ?_
  refine dw_gv hF rfl (wanted_none rfl) rfl rfl (fun w hx => gv_field (r := 1) rfl Tryd.underlying63 rfl rfl Tryd.sz9 (by decide) (hF.t rfl)) fun a hF => ?_
  refine dw_gv hF rfl (wanted_none rfl) rfl rfl (fun w hx => gv_load rfl Tryd.underlying9 rfl (hF.t rfl) (cell_ix (j := 1) ((hS.ext hx).cell (k := 0) rfl rfl) (by omega))) fun a hF => ?_
  refine dw_fl rfl ?_
  refine dw_gv hF rfl (wanted_none rfl) rfl rfl (fun w hx => gv_field (r := 2) rfl Tryd.underlying63 rfl rfl Tryd.sz4 (by decide) (hF.t rfl)) fun a hF => ?_
  refine dw_gv hF rfl (wanted_none rfl) rfl rfl (fun w hx => gv_load rfl Tryd.underlying4 rfl (hF.t rfl) (cell_ix (j := 2) ((hS.ext hx).cell (k := 0) rfl rfl) (by omega))) fun a hF => ?_
  refine dw_fl rfl ?_
  refine dw_fl rfl ?_
  refine dw_nil ⟨(fa_cons ?_ (fa_cons ?_ (fa_cons ?_ (fa_cons ?_ fa_nil)))), fun a w hx hA hR hP => ?_⟩
  · intro s_ a w hsl hx hA hdp hP
    replace hF := hA _ hF
    refine ⟨_, rfl, .inr ⟨0, rfl, fun hs => ?_⟩⟩
    subst hs
    have hS1 := (hP rfl).addNil (blk 5 (([] : List UInt8).map vB ++ []))
    refine tx_call (wanted_none rfl) Tryd.ok79 rfl (Evs.cons (ev_const _ _) (Evs.cons (hF.t rfl) Evs.nil)) ((text_ok (o := none) (l := ([] : List UInt8)) (op := []) (sl := al) nw_nil hS1 (fun _ => ⟨rfl, rfl⟩) (by simp) (by simp) (by omega)).mono fun e w' h => ?_)
    obtain ⟨o, op, he, ho, hc, hS2⟩ := h
    simp only [List.nil_append] at he ho hc hS2
    exact ⟨_, he, hS2.toExt (nw_cons rfl nw_nil), (fun h => by cases h), ⟨by omega, fun _ => ⟨o, op, rfl, ho, hc, hS2⟩⟩, (fa_cons (fun h => absurd h.1 (by omega)) (fa_cons (fun h => absurd h.1 (by omega)) (fa_cons (fun h => absurd h.1 (by omega)) (fa_cons (fun h => absurd h.1 (by omega)) fa_nil))))⟩
  · intro s_ a w hsl hx hA hdp hP
    replace hF := hA _ hF
    refine ⟨_, rfl, .inr ⟨1, rfl, fun hs => ?_⟩⟩
    subst hs
    obtain ⟨o1, op1, hv1, ho1, hc1, hS1⟩ := ((hdp _ (List.mem_of_getElem? (i := 0) rfl) (by kernel_rfl))).2 rfl
    refine tx_call (wanted_none rfl) Tryd.ok79 rfl (Evs.cons ((hF.t rfl).trans hv1) (Evs.cons (hF.t rfl) Evs.nil)) ((text_ok (o := o1) (l := textB al) (op := op1) (sl := cl) nw_nil hS1 ho1 hc1 (by rw [textB_len]; omega) (by omega)).mono fun e w' h => ?_)
    obtain ⟨o, op, he, ho, hc, hS2⟩ := h
    exact ⟨_, he, hS2.toExt (nw_cons rfl nw_nil), (fun h => by cases h), ⟨by omega, fun _ => ⟨o, op, rfl, ho, hc, hS2⟩⟩, (fa_cons (fun _ => ⟨by omega, fun h => by omega⟩) (fa_cons (fun h => absurd h.1 (by omega)) (fa_cons (fun h => absurd h.1 (by omega)) (fa_cons (fun h => absurd h.1 (by omega)) fa_nil))))⟩
  · intro s_ a w hsl hx hA hdp hP
    replace hF := hA _ hF
    refine ⟨_, rfl, .inr ⟨2, rfl, fun hs => ?_⟩⟩
    subst hs
    obtain ⟨o1, op1, hv1, ho1, hc1, hS1⟩ := ((hdp _ (List.mem_of_getElem? (i := 1) rfl) (by kernel_rfl))).2 rfl
    refine tx_call (wanted_none rfl) Tryd.ok78 rfl (Evs.cons ((hF.t rfl).trans hv1) (Evs.cons (hF.t rfl) Evs.nil)) ((flag_ok (o := o1) (l := textB al ++ textB cl) (op := op1) (p := p) nw_nil hS1 ho1 hc1 (by rw [List.length_append, textB_len, textB_len]; omega)).mono fun e w' h => ?_)
    obtain ⟨o, op, he, ho, hc, hS2⟩ := h
    exact ⟨_, he, hS2.toExt (nw_cons rfl nw_nil), (fun h => by cases h), ⟨by omega, fun _ => ⟨o, op, rfl, ho, hc, hS2⟩⟩, (fa_cons (fun _ => ⟨by omega, fun h => by omega⟩) (fa_cons (fun _ => ⟨by omega, fun h => by omega⟩) (fa_cons (fun h => absurd h.1 (by omega)) (fa_cons (fun h => absurd h.1 (by omega)) fa_nil))))⟩
  · intro s_ a w hsl hx hA hdp hP
    replace hF := hA _ hF
    exact ⟨_, rfl, .inl ⟨show (9 : Nat) ∉ [2, 5, 8] from by decide, sx_gv (wanted_none rfl) (gv_assign rfl (hF.t rfl)) (hdp _ (List.mem_of_getElem? (i := 2) rfl) (by kernel_rfl))⟩⟩
  replace hF := hA _ hF
  clear hA
  clear hP
  obtain ⟨_, h9⟩ := hR _ (List.mem_of_getElem? (i := 3) rfl)
  obtain ⟨o, op, hv, ho, hoc, hS2⟩ := h9 rfl
  replace hS := hS.join hS2 (nw_cons rfl nw_nil)
  simp only [List.cons_append, List.nil_append] at hS
  replace hF : Fr 12 a [(2, ownV o (recB al cl p).length ((recB al cl p).length + op.length))] := hF.sub ⟨congrArg some hv, trivial⟩
  clear hv hR h9 hS2
  refine run_done (by decide) ?_
  refine then_normal (hKq2 _ _ ?_)
  refine wp_ret ?_
  refine ret1 (fn := Tryd.f60) (t := 2) hF rfl rfl ?_
  exact ⟨o, op, rfl, ho, hoc, r, hS⟩

set_option maxHeartbeats 1000000 in
theorem head_ok {g : UInt64} {bv : Value} {bl : List UInt8} {w0 : World} (hG : Glob w0) (hb : Rd w0 bv (bl.map vB)) (hn : bl.length ≤ 1099511627) :
    Calls Tryd.prog 61 #[vD g, bv] w0 fun e w' => e = .returned (.agg ((headF g bl).map vB).toArray) ∧ Ext w0 w' := by
  obtain ⟨Ab, cb, rfl, hb1, hb2, hbc⟩ := hb.isB
  clear hbc
  refine calls_start 36 Tryd.func61 rfl Tryd.ntmps61 rfl fun a hF => ?_
  have hS := St.refl w0
  refine wp_seq_k fun Kq1 hKq1 => ?_
  -- region 0 (vault.go:105)
  refine wp_region_lit ?_
  refine wpList_stp (stp_alloc hF (wanted_none rfl) rfl rfl rfl Tryd.zv72 rfl hS fun out a w hF hS => ?_)
  refine wpList_nil ?_
  refine then_normal (hKq1 _ _ ?_)
  refine wp_seq_k fun Kq2 hKq2 => ?_
  -- region 1 (vault.go:106)
  refine wp_region_lit ?_
  refine wpList_stp (stp_build4 hF (wanted_none rfl) rfl rfl rfl Tryd.underlying22 Tryd.ty5 (v0 := 77) (v1 := 85) (v2 := 78) (v3 := 73) rfl rfl rfl rfl hS fun mb a w hF hS => ?_)
  refine wpList_stp (stp_convConst (k := 0) hF (wanted_none rfl) rfl rfl rfl Tryd.underlying22 Tryd.underlying5 (hF.t rfl) hS rfl fun a w hF hS => ?_)
  refine wpList_stp (stp_gv hF (wanted_none rfl) rfl rfl (gv_move rfl (hF.t rfl)) fun a hF => ?_)
  refine wpList_stp (stp_gv hF (wanted_none rfl) rfl rfl (gv_d_shr (n := 32) rfl (hF.t rfl) rfl (by omega)) fun a hF => ?_)
  refine wpList_stp (stp_gv hF (wanted_none rfl) rfl rfl (gv_conv_d_w rfl Tryd.underlying76 Tryd.underlying32 (hF.t rfl)) fun a hF => ?_)
  refine wpList_stp (stp_call hF (wanted_none rfl) rfl rfl Tryd.ok45 rfl (Evs.cons (hF.t rfl) (Evs.cons (hF.t rfl) Evs.nil)) (u32_full (l := mun) (nw_cons rfl (nw_cons rfl nw_nil)) hS (rdXE (f := true) (nw := true) (e := 5) (l := mun) List.mem_cons_self (by decide)) (by decide) (by decide)) fun e w h => ?_)
  obtain ⟨h, hp, rfl, ho, hc, hS⟩ := h
  refine ⟨_, rfl, fun a hF => ?_⟩
  refine wpList_stp (stp_gv hF (wanted_none rfl) rfl rfl (gv_move rfl (hF.t rfl)) fun a hF => ?_)
  refine wpList_stp (stp_gv hF (wanted_none rfl) rfl rfl (gv_conv_d_w rfl Tryd.underlying76 Tryd.underlying32 (hF.t rfl)) fun a hF => ?_)
  refine wpList_stp (stp_call hF (wanted_none rfl) rfl rfl Tryd.ok45 rfl (Evs.cons (hF.t rfl) (Evs.cons (hF.t rfl) Evs.nil)) (u32_ok (nw_cons rfl (nw_cons rfl nw_nil)) hS ho hc (by rw [List.length_append, u32B_len]; decide)) fun e w h => ?_)
  obtain ⟨h, hp, rfl, ho, hc, hS⟩ := h
  refine ⟨_, rfl, fun a hF => ?_⟩
  refine wpList_stp (stp_gv hF (wanted_none rfl) rfl rfl (gv_move rfl (hF.t rfl)) fun a hF => ?_)
  refine wpList_stp (stp_gv hF (wanted_none rfl) rfl rfl (gv_len rfl Tryd.underlying22 (hF.t rfl)) fun a hF => ?_)
  refine wpList_stp (stp_gv hF (wanted_none rfl) rfl rfl (gv_conv_i_w rfl Tryd.underlying3 Tryd.underlying32 (hF.t rfl)) fun a hF => ?_)
  refine wpList_stp (stp_call hF (wanted_none rfl) rfl rfl Tryd.ok45 rfl (Evs.cons (hF.t rfl) (Evs.cons (hF.t rfl) Evs.nil)) (u32_ok (nw_cons rfl (nw_cons rfl nw_nil)) hS ho hc (by rw [List.length_append, List.length_append, u32B_len, u32B_len]; decide)) fun e w h => ?_)
  obtain ⟨h, hp, rfl, ho, hc, hS⟩ := h
  refine ⟨_, rfl, fun a hF => ?_⟩
  rw [show mun ++ u32B (g >>> UInt64.ofNat 32).toUInt32 ++ u32B g.toUInt32 ++ u32B (UInt32.ofNat bl.length) = hdr g bl.length from rfl] at hF ho hc hS
  obtain ⟨HD, hHD⟩ : ∃ HD, HD = hdr g bl.length := ⟨_, rfl⟩
  have hHl : HD.length = 16 := by rw [hHD]; rfl
  rw [← hHD] at hF ho hc hS
  obtain ⟨h, rfl⟩ := own_some ho (by omega)
  refine wpList_stp (stp_gv hF (wanted_none rfl) rfl rfl (gv_assign rfl (hF.t rfl)) fun a hF => ?_)
  refine wpList_nil ?_
  refine then_normal (hKq2 _ _ ?_)
  refine wp_seq_k fun Kq3 hKq3 => ?_
  -- region 2 (vault.go:107)
  refine wp_region_lit ?_
  refine wpList_stp (stp_gv hF (wanted_none rfl) rfl rfl (gv_move rfl (hF.t rfl)) fun a hF => ?_)
  replace hS := hS.addNil (blk 5 (([] : List UInt8).map vB ++ []))
  refine wpList_stp (stp_appB (ob := none) (l := []) (pad := []) (k := 0) hF (wanted_none rfl) rfl rfl rfl Tryd.underlying22 Tryd.ty5 rfl (ev_const _ _) (hF.t rfl) hS rfl (fun _ => ⟨rfl, rfl⟩) (by simp) ((own_rd (w0 := w0) (ob := some h) (l := HD) List.mem_cons_self ho rfl hc) w _ (hS.drop rfl) (nw_cons rfl (nw_cons rfl (nw_cons rfl nw_nil))) (fun e he => he)) (by simp; omega) fun h2 h2p a w hF h2o h2c hS => ?_)
  simp only [List.nil_append] at hF h2o h2c hS
  refine wpList_stp (stp_gv hF (wanted_none rfl) rfl rfl (gv_move rfl (hF.t rfl)) fun a hF => ?_)
  refine wpList_stp (stp_appB (k := 0) hF (wanted_none rfl) rfl rfl rfl Tryd.underlying22 Tryd.ty5 rfl (hF.t rfl) (hF.t rfl) hS rfl h2o h2c (hb.ext (hS.toExt (nw_cons rfl (nw_cons rfl (nw_cons rfl (nw_cons rfl nw_nil)))))) (by omega) fun h2 h2p a w hF h2o h2c hS => ?_)
  refine wpList_stp (stp_call hF (wanted_none rfl) rfl rfl Tryd.ok65 rfl (Evs.cons (hF.t rfl) Evs.nil) (sum_ok (hG.ext (hS.toExt (nw_cons rfl (nw_cons rfl (nw_cons rfl (nw_cons rfl nw_nil)))))) ((own_rd (w0 := w0) (ob := h2) (l := HD ++ bl) List.mem_cons_self h2o rfl h2c) w _ hS (nw_cons rfl (nw_cons rfl (nw_cons rfl (nw_cons rfl nw_nil)))) (fun e he => he)) (by rw [List.length_append]; omega)) fun e w h => ?_)
  obtain ⟨rfl, hx⟩ := h
  refine ⟨_, rfl, fun a hF => ?_⟩
  replace hS := hS.ext hx
  clear hx
  refine wpList_stp (stp_alloc hF (wanted_none rfl) rfl rfl rfl Tryd.zv94 rfl hS fun s a w hF hS => ?_)
  refine wpList_stp (stp_storeAll hF (wanted_none rfl) rfl rfl (Tryd.sz94.trans (congrArg some (by rw [List.length_map, sum256_len]))) (hF.t rfl) (hF.t rfl) (one_B _) hS (k := 0) rfl (by rw [List.length_map, sum256_len]; rfl) fun w hS => ?_)
  refine wpList_nil ?_
  obtain ⟨SM, hSM⟩ : ∃ SM, SM = sum256 (HD ++ bl) := ⟨_, rfl⟩
  have hSl : SM.length = 32 := by rw [hSM]; exact sum256_len _
  rw [← hSM] at hS
  refine then_normal (hKq3 _ _ ?_)
  refine wp_seq_k fun Kq4 hKq4 => ?_
  -- region 3 (vault.go:108)
  refine wp_region_lit ?_
  refine wpList_stp (stp_alloc hF (wanted_none rfl) rfl rfl rfl Tryd.zv72 rfl hS fun x a w hF hS => ?_)
  refine wpList_nil ?_
  refine then_normal (hKq4 _ _ ?_)
  refine wp_seq_k fun Kq5 hKq5 => ?_
  -- region 4 (vault.go:109)
  refine Fw.wp_region_draw (by kernel_rfl) fun w hx => ?_
  replace hS := hS.ext hx
  clear hx
  refine run_headT (n := 8) _ [7] (fun s_ x => True) [(4, 30, fun s_ v y => s_ = 0 → ownP w 5 [] (HD ++ SM) v y), (7, 33, fun s_ v y => s_ = 1 ∧ ownP w 5 [] (HD ++ SM ++ (HD.take 12).drop 4) v y)] hF (Ext.refl _) (trivial) (fun _ _ _ h hx => h) (by kernel_rfl) rfl (fa_cons rfl (fa_cons rfl fa_nil)) (fa_cons (fun _ _ _ _ h hx hs => (h hs).ext hx) (fa_cons (fun _ _ _ _ h hx => ⟨h.1, h.2.ext hx⟩) fa_nil)) (fa_cons ⟨Nat.zero_le _, Nat.le_of_ble_eq_true rfl⟩ (fa_cons ⟨Nat.zero_le _, Nat.le_of_ble_eq_true rfl⟩ fa_nil)) rfl (by kernel_rfl) ?_
  refine dw_gv hF rfl (wanted_none rfl) rfl rfl (fun w hx => gv_sliceArr rfl Tryd.underlying72 Tryd.sz5 (hF.t rfl)) fun a hF => ?_
  refine dw_gv hF rfl (wanted_none rfl) rfl rfl (fun w hx => gv_move rfl (hF.t rfl)) fun a hF => ?_
  refine dw_gv hF rfl (wanted_none rfl) rfl rfl (fun w hx => gv_sliceHM (h := 16) (mx := 16) rfl Tryd.underlying22 Tryd.sz5 (hF.t rfl) rfl rfl (by omega) (by omega)) fun a hF => ?_
  refine dw_gv hF rfl (wanted_none rfl) rfl rfl (fun w hx => gv_sliceArr rfl Tryd.underlying94 Tryd.sz5 (hF.t rfl)) fun a hF => ?_
  refine dw_fl rfl ?_
  refine dw_gv hF rfl (wanted_none rfl) rfl rfl (fun w hx => gv_move rfl (hF.t rfl)) fun a hF => ?_
  refine dw_gv hF rfl (wanted_none rfl) rfl rfl (fun w hx => gv_slice2 (l := 4) (h := 12) rfl Tryd.underlying22 Tryd.sz5 (hF.t rfl) rfl rfl (by omega) (by omega)) fun a hF => ?_
  refine dw_fl rfl ?_
  refine dw_nil ⟨(fa_cons ?_ (fa_cons ?_ fa_nil)), fun a w hx hA hR hP => ?_⟩
  · intro s_ a w hsl hx hA hdp hP
    replace hF := hA _ hF
    have hR1 : Rd w (.slice (some ⟨h, 0, none⟩) 16 16) (HD.map vB) := by
      have := (SRd.cutHM (h := 16) (mx := 16) (own_rd (w0 := w0) (ob := some h) (l := HD) (n := 16) (List.mem_of_getElem? (i := 3) rfl) ho hHl (by rw [hHl] at hc; exact hc)) (by omega) (by omega) (by omega)) w _ (hS.ext hx) (nw_cons rfl (nw_cons rfl (nw_cons rfl (nw_cons rfl (nw_cons rfl (nw_cons rfl nw_nil)))))) (fun e he => he)
      rw [← List.map_take, List.take_of_length_le (by omega)] at this
      exact this
    have hR2 : Rd w (.slice (some ⟨s, 0, none⟩) 32 32) (SM.map vB) := (SRd.arr (w0 := w0) (List.mem_of_getElem? (i := 1) rfl) hSl (by omega)) w _ (hS.ext hx) (nw_cons rfl (nw_cons rfl (nw_cons rfl (nw_cons rfl (nw_cons rfl (nw_cons rfl nw_nil)))))) (fun e he => he)
    have hx0 := hx
    refine ⟨_, rfl, .inl ⟨show (4 : Nat) ∉ [7] from by decide, sx_appFull (w00 := w) (l := HD) (ml := SM) (wanted_none rfl) rfl Tryd.underlying22 Tryd.ty5 rfl ((hF.t rfl).trans (by rw [hHl])) ((hF.t rfl).trans rfl) (by rw [hHl]; exact hR1) (by omega) hR2 (by omega) (by omega) fun b pad w' g1 g2 _ => ?_⟩⟩
    have := ((St.refl _).ext hx0).join g2 (nw_cons rfl nw_nil)
    exact ⟨some b, pad, rfl, (fun h => by cases h), g1, this⟩
  · intro s_ a w hsl hx hA hdp hP
    replace hF := hA _ hF
    refine ⟨_, rfl, .inr ⟨0, rfl, fun hs => ?_⟩⟩
    subst hs
    obtain ⟨o1, op1, hv1, ho1, hc1, hS1⟩ := ((hdp _ (List.mem_of_getElem? (i := 0) rfl) (by kernel_rfl))) rfl
    have hR3 : Rd w (cut3V (some ⟨h, 0, none⟩) 4 12 (16 + hp.length)) (((HD.take 12).drop 4).map vB) := by
      rw [List.map_drop, List.map_take]
      exact (SRd.cut3 (l := 4) (h := 12) (own_rd (w0 := w0) (ob := some h) (l := HD) (n := 16) (List.mem_of_getElem? (i := 3) rfl) ho hHl (by rw [hHl] at hc; exact hc)) (by omega) (by omega) (by omega) (by omega)) w _ (hS.ext hx) (nw_cons rfl (nw_cons rfl (nw_cons rfl (nw_cons rfl (nw_cons rfl (nw_cons rfl nw_nil)))))) (fun e he => he)
    refine tx_appB (k := 0) (wanted_none rfl) rfl Tryd.underlying22 Tryd.ty5 rfl ((hF.t rfl).trans hv1) ((hF.t rfl).trans (by rw [hHl])) hS1 rfl ho1 hc1 hR3 (by rw [List.length_append, List.length_drop, List.length_take]; omega) fun o op w' h2 h3 h4 => ?_
    exact ⟨h4.toExt (nw_cons rfl nw_nil), trivial, ⟨rfl, o, op, rfl, h2, h3, h4⟩, (fa_cons (fun _ h => by omega) (fa_cons (fun h => absurd h.1 (by decide)) fa_nil))⟩
  replace hF := hA _ hF
  clear hA
  clear hP
  obtain ⟨_, o2, op2, hv, oo2, oc2, hS2⟩ := hR _ (List.mem_of_getElem? (i := 1) rfl)
  replace hS := hS.join hS2 (nw_cons rfl nw_nil)
  simp only [List.cons_append, List.nil_append] at hS
  obtain ⟨L2, hL2⟩ : ∃ L2, L2 = HD ++ SM ++ (HD.take 12).drop 4 := ⟨_, rfl⟩
  have hL2l : L2.length = 56 := by rw [hL2]; simp only [List.length_append, List.length_drop, List.length_take]; omega
  rw [← hL2] at hv oo2 oc2 hS
  replace hF : Fr 36 a [(4, .pointer (some ⟨out, 0, none⟩)), (7, .pointer (some ⟨x, 0, none⟩)), (26, .slice (some ⟨x, 0, none⟩) 64 64), (33, ownV o2 L2.length (L2.length + op2.length))] := hF.sub ⟨rfl, rfl, rfl, congrArg some hv, trivial⟩
  clear hv hR hS2
  have hR : Rd w (ownV o2 L2.length (L2.length + op2.length)) (L2.map vB) := (own_rd (w0 := w0) (ob := o2) (l := L2) List.mem_cons_self oo2 rfl oc2) w _ hS (nw_cons rfl (nw_cons rfl (nw_cons rfl (nw_cons rfl (nw_cons rfl (nw_cons rfl (nw_cons rfl nw_nil))))))) (fun e he => he)
  refine run_stp (by kernel_rfl) rfl (stp_copyAt (k := 1) (n := 64) (ml := L2) (cs := (List.replicate 64 (0 : UInt8)).map vB) hF (wanted_none rfl) rfl rfl rfl Tryd.underlying22 Tryd.sz5 (hF.t rfl) (hF.t rfl) hS rfl (by rw [List.length_map, List.length_replicate]; omega) hR fun a w hF hS => ?_)
  have hee : ((List.replicate 64 (0 : UInt8)).map vB).take 0 ++ (L2.take 64).map vB ++ ((List.replicate 64 (0 : UInt8)).map vB).drop (0 + min L2.length 64) = (headF g bl).map vB := by
    rw [hL2l, List.take_of_length_le (show L2.length ≤ 64 by omega), headF, ← hHD, ← hSM, ← hL2, List.map_append]
    rfl
  rw [hee] at hS
  refine run_done (by decide) ?_
  refine then_normal (hKq5 _ _ ?_)
  refine wp_seq_k fun Kq6 hKq6 => ?_
  -- region 5 (vault.go:110)
  refine wp_region_lit ?_
  refine wpList_stp (stp_gv hF (wanted_none rfl) rfl rfl (gv_loadAll rfl Tryd.underlying72 rfl (Tryd.sz72.trans (congrArg some (by rw [List.length_map, headF_len]))) (hF.t rfl) hS (k := 1) rfl) fun a hF => ?_)
  refine wpList_stp (stp_storeAll hF (wanted_none rfl) rfl rfl (Tryd.sz72.trans (congrArg some (by rw [List.length_map, headF_len]))) (hF.t rfl) (hF.t rfl) (one_B _) hS (k := 6) rfl (by rw [List.length_map, headF_len]; rfl) fun w hS => ?_)
  refine wpList_nil ?_
  refine then_normal (hKq6 _ _ ?_)
  refine wp_ret ?_
  refine retCell (fn := Tryd.f61) hF rfl Tryd.underlying72 rfl (Tryd.sz72.trans (congrArg some (by rw [List.length_map, headF_len]))) rfl hS (k := 6) rfl ⟨rfl, hS.toExt (nw_cons rfl (nw_cons rfl (nw_cons rfl (nw_cons rfl (nw_cons rfl (nw_cons rfl (nw_cons rfl nw_nil)))))))⟩


end Go.Proofs.YtfhalnobaeogkaaDoor
