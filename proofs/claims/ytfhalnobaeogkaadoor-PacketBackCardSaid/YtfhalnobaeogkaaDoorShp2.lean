/- What is proved: what is written can be fed and is read as it was, with or without keys. -/
import Derived.Test.YtfhalnobaeogkaaDoorProg
import Derived.Test.YtfhalnobaeogkaaDoorFwSep
import Derived.KernelRfl
import Derived.Test.YtfhalnobaeogkaaDoorFwApp
import Derived.Test.YtfhalnobaeogkaaDoorFwWord
import Derived.Test.YtfhalnobaeogkaaDoorFwPkt
import Derived.Test.YtfhalnobaeogkaaDoorFwTok
import Derived.Test.YtfhalnobaeogkaaDoorFwFour
import Derived.Test.YtfhalnobaeogkaaDoorDig
import Derived.Test.YtfhalnobaeogkaaDoorSum
import Derived.Test.YtfhalnobaeogkaaDoorWire
import Derived.Test.YtfhalnobaeogkaaDoorPktW
import Derived.Test.YtfhalnobaeogkaaDoorPktR
import Derived.Test.YtfhalnobaeogkaaDoorLeaf
import Derived.Test.YtfhalnobaeogkaaDoorCip
import Derived.Test.YtfhalnobaeogkaaDoorMac
import Derived.Test.YtfhalnobaeogkaaDoorKey
import Derived.Test.YtfhalnobaeogkaaDoorPktK
import Derived.Test.YtfhalnobaeogkaaDoorLawN
import Derived.Test.YtfhalnobaeogkaaDoorCipL
import Derived.Test.YtfhalnobaeogkaaDoorPktS
import Derived.Test.YtfhalnobaeogkaaDoorShp
import Derived.Test.YtfhalnobaeogkaaDoorLawZ
set_option linter.unusedVariables false
set_option linter.unusedSimpArgs false
namespace Go.Proofs.YtfhalnobaeogkaaDoor
open Go Go.RowKit Go.Fw



theorem feed1_ok {w00 w : World} {T : List Ent} {r n : Nat} {seq : UInt32} {st mac hd bv : Value} {l bl : List UInt8} {g : Option Nat} {gp : List Value} (hT : ∀ e ∈ T, e.nw = true) (go : g = none → l = [] ∧ gp = []) (gc : l.length + gp.length ≤ 9223372036854775807) (hS : St w00 w (⟨true, some r, rdr seq st mac n (ownV g l.length (l.length + gp.length)) hd false⟩ :: rowE g l gp :: T)) (hb : SRd w00 T bv (bl.map vB)) (hn : l.length + bl.length ≤ 1099511627776) :
    Calls Tryd.prog 16 #[.pointer (some ⟨r, 0, none⟩), bv] w fun e w' => e = .returned (.tuple #[]) ∧ ∃ g gp, (g = none → l ++ bl = [] ∧ gp = []) ∧ (l ++ bl).length + gp.length ≤ 9223372036854775807 ∧ St w00 w' (⟨true, some r, rdr seq st mac n (ownV g (l ++ bl).length ((l ++ bl).length + gp.length)) hd false⟩ :: rowE g (l ++ bl) gp :: T) := by
  obtain ⟨Ab, cb, hbv, hb1, hb2, _⟩ := (hb w _ hS (nw_cons rfl (nw_cons rfl hT)) (fun e he => List.mem_cons_of_mem _ (List.mem_cons_of_mem _ he))).isB
  subst hbv
  refine calls_start 22 Tryd.func16 rfl Tryd.ntmps16 rfl fun a hF => ?_
  refine wp_seq_k fun Kq1 hKq1 => ?_
  -- region 0 (packet.go:88)
  refine wp_region_lit ?_
  refine wpList_stp (stp_gv hF (wanted_none rfl) rfl rfl (gv_move rfl (hF.t rfl)) fun a hF => ?_)
  refine wpList_stp (stp_gv hF (wanted_none rfl) rfl rfl (gv_neqNil rfl Tryd.underlying25 (hF.t rfl) (ev_const _ _)) fun a hF => ?_)
  refine wpList_stp (stp_gv hF (wanted_none rfl) rfl rfl (gv_move rfl (hF.t rfl)) fun a hF => ?_)
  refine wpList_stp (stp_gv hF (wanted_of hF rfl rfl (rfl)) rfl rfl (gv_move rfl (hF.t rfl)) fun a hF => ?_)
  refine wpList_stp (stp_gv hF (wanted_of hF rfl rfl (rfl)) rfl rfl (gv_nilCheck rfl (hF.t rfl)) fun a hF => ?_)
  refine wpList_stp (stp_gv hF (wanted_of hF rfl rfl (rfl)) rfl rfl (gv_field (r := 6) rfl Tryd.underlying47 rfl rfl Tryd.sz4 (by decide) (hF.t rfl)) fun a hF => ?_)
  refine wpList_stp (stp_gv hF (wanted_of hF rfl rfl (rfl)) rfl rfl (gv_load rfl Tryd.underlying4 rfl (hF.t rfl) (cell_ix (j := 6) (hS.cell (k := 0) rfl (rfl)) (by omega))) fun a hF => ?_)
  refine wpList_stp (stp_gv hF (wanted_of hF rfl rfl (rfl)) rfl rfl (gv_not rfl (hF.t rfl)) fun a hF => ?_)
  refine wpList_stp (stp_gv hF (wanted_none rfl) rfl rfl (gv_pickT rfl (hF.t rfl) (hF.t rfl)) fun a hF => ?_)
  refine wpList_nil ?_
  refine then_normal (hKq1 _ _ ?_)
  refine wp_cond_true (hF.t rfl) ?_
  -- region 1 (packet.go:89)
  refine wp_region_lit ?_
  refine wpList_stp (stp_gv hF (wanted_none rfl) rfl rfl (gv_move rfl (hF.t rfl)) fun a hF => ?_)
  refine wpList_stp (stp_gv hF (wanted_none rfl) rfl rfl (gv_move rfl (hF.t rfl)) fun a hF => ?_)
  refine wpList_stp (stp_gv hF (wanted_none rfl) rfl rfl (gv_nilCheck rfl (hF.t rfl)) fun a hF => ?_)
  refine wpList_stp (stp_gv hF (wanted_none rfl) rfl rfl (gv_field (r := 4) rfl Tryd.underlying47 rfl rfl Tryd.sz22 (by decide) (hF.t rfl)) fun a hF => ?_)
  refine wpList_stp (stp_gv hF (wanted_none rfl) rfl rfl (gv_load rfl Tryd.underlying22 rfl (hF.t rfl) (cell_ix (j := 4) (hS.cell (k := 0) rfl (rfl)) (by omega))) fun a hF => ?_)
  refine wpList_stp (stp_gv hF (wanted_none rfl) rfl rfl (gv_move rfl (hF.t rfl)) fun a hF => ?_)
  refine wpList_stp (stp_appB (ml := bl) (k := 1) hF (wanted_none rfl) rfl rfl rfl Tryd.underlying22 Tryd.ty5 rfl (hF.t rfl) (hF.t rfl) hS rfl go gc (hb _ _ hS (nw_cons rfl (nw_cons rfl hT)) (fun e he => List.mem_cons_of_mem _ (List.mem_cons_of_mem _ he))) (by omega) fun g gp a w hF go gc hS => ?_)
  refine wpList_stp (stp_gv hF (wanted_none rfl) rfl rfl (gv_nilCheck rfl (hF.t rfl)) fun a hF => ?_)
  refine wpList_stp (stp_gv hF (wanted_none rfl) rfl rfl (gv_field (r := 4) rfl Tryd.underlying47 rfl rfl Tryd.sz22 (by decide) (hF.t rfl)) fun a hF => ?_)
  refine wpList_stp (stp_storeAt (4) hF (wanted_none rfl) rfl rfl Tryd.sz22 (hF.t rfl) (by omega) (hF.t rfl) (own_one _ _ _) hS (k := 0) rfl (by simp) fun w hS => ?_)
  refine wpList_nil ?_
  refine end0 (fn := Tryd.f16) hF rfl ?_
  exact ⟨rfl, g, gp, go, gc, hS⟩


theorem feed_g {w00 w : World} {r : Nat} {h : HT} {l bl : List UInt8} {X T : List Ent} {bv : Value} (hX : RShape w00 r h l X) (hT : ∀ e ∈ T, e.nw = true) (hS : St w00 w (X ++ T)) (hb : SRd w00 T bv (bl.map vB)) (hn : l.length + bl.length ≤ 1099511627776) :
    Calls Tryd.prog 16 #[.pointer (some ⟨r, 0, none⟩), bv] w fun e w' => e = .returned (.tuple #[]) ∧ ∃ X', RShape w00 r h (l ++ bl) X' ∧ St w00 w' (X' ++ T) := by
  cases hX with
  | plain seq n _ g gp go gc =>
    refine (feed1_ok hT go gc hS hb hn).mono fun e w' q => ?_
    obtain ⟨he, g, gp, go, gc, hS⟩ := q
    exact ⟨he, _, RShape.plain seq n (l ++ bl) g gp go gc, hS⟩
  | keyed seq n K C L ml _ g gp s m mp okb B lv go gc hK hC hml hm hL =>
    refine (feed1_ok (T := ⟨true, some s, strm K C lv⟩ :: kbE okb B :: macE m ml mp :: T) (nw_cons rfl (nw_cons rfl (nw_cons rfl hT))) go gc hS (hb.mono fun e he => List.mem_cons_of_mem _ (List.mem_cons_of_mem _ (List.mem_cons_of_mem _ he))) hn).mono fun e w' q => ?_
    obtain ⟨he, g, gp, go, gc, hS⟩ := q
    exact ⟨he, _, RShape.keyed seq n K C L ml (l ++ bl) g gp s m mp okb B lv go gc hK hC hml hm hL, hS⟩
theorem u32_round2 : ∀ a, a < 64 → ∀ b, b < 64 → u32A (u32B (UInt32.ofNat (64 * a + b))) 4 = UInt32.ofNat (64 * a + b) := by decide +kernel
theorem u32_round (n : Nat) (h : n < 4096) : u32A (u32B (UInt32.ofNat n)) 4 = UInt32.ofNat n := by
  have := u32_round2 (n / 64) (by omega) (n % 64) (by omega)
  rwa [show 64 * (n / 64) + n % 64 = n by omega] at this
theorem u32A_congr {l l' : List UInt8} (h : ∀ i, i < 4 → l.getD i 0 = l'.getD i 0) : u32A l 4 = u32A l' 4 := by
  simp only [u32A]
  rw [h 0 (by omega), h 1 (by omega), h 2 (by omega), h 3 (by omega)]
structure PkF (seq : UInt32) (pl dl : List UInt8) (u : Nat) (P : List UInt8) : Prop where
  len : P.length = 5 + pl.length + padn pl.length u
  num : ∀ k, 4 ≤ k → (u32A (P.take k) 4).toNat + 4 = P.length
  pad : (P.getD 4 0).toNat = padn pl.length u
  pay : (P.take (P.length - padn pl.length u)).drop 5 = pl
theorem pkf {seq : UInt32} {pl dl : List UInt8} {u : Nat} (hu : u ≤ 16) (h2 : pl.length ≤ 2048) : PkF seq pl dl u (pktF seq pl dl u) := by
  have hlen := pktF_len (seq := seq) (pl := pl) (dl := dl) (u := u) (by omega)
  have hpd := padn_le (n := pl.length) (u := u)
  have hD : ((drawF dl seq.toUInt64).take (padn pl.length u)).length = padn pl.length u := by rw [List.length_take, drawF_len]; omega
  refine ⟨hlen, fun k hk => ?_, ?_, ?_⟩
  · have hc : u32A ((pktF seq pl dl u).take k) 4 = u32A (u32B (UInt32.ofNat (1 + pl.length + padn pl.length u))) 4 := u32A_congr fun i hi => by
      rw [take_getD (by omega), pktF, List.append_assoc, List.append_assoc]
      rw [List.getD_eq_getElem?_getD, List.getElem?_append_left (by rw [u32B_len]; omega), ← List.getD_eq_getElem?_getD]
    rw [hc, u32_round _ (by omega), UInt32.toNat_ofNat', hlen]
    omega
  · have : (pktF seq pl dl u).getD 4 0 = UInt8.ofNat (padn pl.length u) := by
      rw [pktF, List.append_assoc, List.append_assoc, List.getD_eq_getElem?_getD, List.getElem?_append_right (by rw [u32B_len]; omega), u32B_len]; rfl
    rw [this, UInt8.toNat_ofNat']
    omega
  · rw [hlen, show 5 + pl.length + padn pl.length u - padn pl.length u = 5 + pl.length by omega, pktF]
    have h5 : (u32B (UInt32.ofNat (1 + pl.length + padn pl.length u)) ++ [UInt8.ofNat (padn pl.length u)] : List UInt8).length = 5 := by rw [List.length_append, u32B_len]; rfl
    rw [List.take_left' (by rw [List.length_append, h5]), List.drop_left' h5]
theorem read_g {w00 w : World} {r : Nat} {h : HT} {X T : List Ent} {pl dl : List UInt8} (hG : Glob w00) (hX : RShape w00 r h (pktG h pl dl) X) (hT : ∀ e ∈ T, e.nw = true) (hS : St w00 w (X ++ T)) (h1 : 1 ≤ pl.length) (h2 : pl.length ≤ 2048) (hn : h.n ≤ 4611686018427387904) :
    Calls Tryd.prog 17 #[.pointer (some ⟨r, 0, none⟩)] w fun e w' => ∃ v o op W X', e = .returned (.tuple #[v, .int .i64 0]) ∧ RShape w00 r (stepG h pl dl) [] X' ∧ St w00 w' (rowE (some o) W op :: (X' ++ T)) ∧ SRd w00 [rowE (some o) W op] v (pl.map vB) := by
  cases hX with
  | plain seq n _ g gp go gc =>
    have f := pkf (seq := seq) (pl := pl) (dl := dl) (u := 8) (by omega) h2
    have hp8 := padn8 pl.length
    have e0 : pktG ⟨seq, n, none⟩ pl dl = pktF seq pl dl 8 := rfl
    rw [e0] at hS go gc
    generalize pktF seq pl dl 8 = P at f hS go gc
    obtain ⟨fl, fn, fp, fy⟩ := f
    generalize padn pl.length 8 = pad at *
    obtain ⟨A, hA, hR⟩ := own_open (w0 := w00) (T := rowE g P gp :: T) (ob := g) (l := P) (pad := gp) List.mem_cons_self go rfl gc
    have hS' : St w00 w (⟨true, some r, rdr seq (.pointer none) (.slice none 0 0) n (.slice A P.length (P.length + gp.length)) (.slice none 0 0) false⟩ :: rowE g P gp :: T) := by rw [← hA]; exact hS
    refine (next0_ok (T := rowE g P gp :: T) (bl := P) (L := P.length) (pad := pad) (nw_cons rfl hT) hS' hR (by omega) ⟨fn 8 (by omega), by omega, by omega, by omega, Nat.le_refl _, fp, by omega, by omega⟩ hn (by omega)).mono fun e w' q => ?_
    obtain ⟨o, op, g2, gp2, he, go2, gc2, oc, hS⟩ := q
    rw [List.drop_length] at go2 gc2 hS
    rw [List.take_length] at hS
    refine ⟨_, o, op, P, _, he, RShape.plain (seq + 1) (n + 1) [] g2 gp2 go2 gc2, ((hS.move (k := 2) rfl).move (k := 3) rfl).drop rfl, ?_⟩
    have := SRd.cut3 (l := 5) (h := P.length - pad) (mx := P.length - pad) (own_rd (w0 := w00) (T := [rowE (some o) P op]) (ob := some o) (l := P) List.mem_cons_self (fun h => by cases h) rfl oc) (by omega) (by omega) (by omega) (by omega)
    rw [← List.map_take, ← List.map_drop, fy] at this
    exact this
  | keyed seq n K C L ml _ g gp s m mp okb B lv go gc hK hC hml hm hL =>
    have f := pkf (seq := seq) (pl := pl) (dl := dl) (u := 16) (by omega) h2
    have hp8 := padn16 pl.length
    have e0 : pktG ⟨seq, n, some ⟨K, C, L, ml⟩⟩ pl dl = outT K (C, L) (pktF seq pl dl 16) (pktF seq pl dl 16).length ++ codeF seq ml (pktF seq pl dl 16) := rfl
    have e1 : stepG ⟨seq, n, some ⟨K, C, L, ml⟩⟩ pl dl = ⟨seq + 1, n + 1, some ⟨K, (kst K (C, L) (pktF seq pl dl 16).length).1, (kst K (C, L) (pktF seq pl dl 16).length).2, ml⟩⟩ := rfl
    rw [e0] at hS go gc
    rw [e1]
    generalize pktF seq pl dl 16 = P at f hS go gc ⊢
    obtain ⟨fl, fn, fp, fy⟩ := f
    generalize padn pl.length 16 = pad at *
    obtain ⟨Z, hZ⟩ : ∃ Z, outT K (C, L) P P.length = Z := ⟨_, rfl⟩
    have hZl : Z.length = P.length := by rw [← hZ, outT_len]
    have hback : outT K (C, L) Z P.length = P := by rw [← hZ]; exact turn_back K (C, L) P
    rw [hZ] at hS go gc
    have hbl : (Z ++ codeF seq ml P).length = P.length + 32 := by rw [List.length_append, hZl, codeF_len]
    obtain ⟨A, hA, hR⟩ := own_open (w0 := w00) (T := rowE g (Z ++ codeF seq ml P) gp :: macE m ml mp :: T) (ob := g) (l := Z ++ codeF seq ml P) (pad := gp) List.mem_cons_self go rfl gc
    have hpk : Pk1 K ml C L seq (Z ++ codeF seq ml P) P P.length pad := ⟨by rw [List.take_left' hZl]; exact hback, fn 16 (by omega), by omega, by omega, by omega, by omega, by rw [List.drop_left' hZl, List.take_of_length_le (by rw [codeF_len]; omega)], fp, by omega, by omega⟩
    have hdr : (Z ++ codeF seq ml P).drop (P.length + 32) = [] := List.drop_of_length_le (by omega)
    generalize Z ++ codeF seq ml P = bl at *
    have hS1 : St w00 w (⟨true, some r, rdr seq (.pointer (some ⟨s, 0, none⟩)) (.slice (some ⟨m, 0, none⟩) 32 (32 + mp.length)) n (.slice A bl.length (bl.length + gp.length)) (.slice none 0 0) false⟩ :: ⟨true, some s, strm K C lv⟩ :: kbE okb B :: rowE g bl gp :: macE m ml mp :: T) := by
      rw [← hA]
      exact (((((hS.move (k := 4) rfl).move (k := 2) rfl).move (k := 4) rfl).move (k := 4) rfl).move (k := 4) rfl)
    refine (next1_ok (T0 := rowE g bl gp :: macE m ml mp :: T) (bl := bl) (P := P) (L := P.length) (pad := pad) hG (nw_cons rfl (nw_cons rfl hT)) hS1 hL hK hC hR (by omega) (own_rd (ob := some m) (List.mem_of_getElem? (i := 1) rfl) (fun h => by cases h) hml hm) hml hpk hn (by omega)).mono fun e w' q => ?_
    obtain ⟨o, op, g2, gp2, lv2, okb2, B2, he, go2, gc2, oc, hL2, hS2⟩ := q
    rw [hdr] at go2 gc2 hS2
    refine ⟨_, o, op, P, _, he, RShape.keyed (seq + 1) (n + 1) K (kst K (C, L) P.length).1 (kst K (C, L) P.length).2 ml [] g2 gp2 s m mp okb2 B2 lv2 go2 gc2 hK (kst_len (s := (C, L)) hC _) hml hm hL2, ((((((((hS2.move (k := 6) rfl).move (k := 3) rfl).move (k := 3) rfl).move (k := 4) rfl).move (k := 4) rfl).move (k := 5) rfl).move (k := 6) rfl)).drop rfl, ?_⟩
    have := SRd.cut3 (l := 5) (h := P.length - pad) (mx := P.length - pad) (own_rd (w0 := w00) (T := [rowE (some o) P op]) (ob := some o) (l := P) List.mem_cons_self (fun h => by cases h) rfl oc) (by omega) (by omega) (by omega) (by omega)
    rw [← List.map_take, ← List.map_drop, fy] at this
    exact this



end Go.Proofs.YtfhalnobaeogkaaDoor
