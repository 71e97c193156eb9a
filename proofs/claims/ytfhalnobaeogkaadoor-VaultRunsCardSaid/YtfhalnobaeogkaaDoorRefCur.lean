/- What is proved: the contracts of the reference numbers, texts and cursors. -/
import Derived.Test.YtfhalnobaeogkaaDoorProg
import Derived.Test.YtfhalnobaeogkaaDoorFwSep
import Derived.KernelRfl
import Derived.Test.YtfhalnobaeogkaaDoorFwSto
import Derived.Test.YtfhalnobaeogkaaDoorFwVlt
import Derived.Test.YtfhalnobaeogkaaDoorFwApp
import Derived.Test.YtfhalnobaeogkaaDoorFwWord
import Derived.Test.YtfhalnobaeogkaaDoorFwPkt
import Derived.Test.YtfhalnobaeogkaaDoorFwTok
import Derived.Test.YtfhalnobaeogkaaDoorDig
import Derived.Test.YtfhalnobaeogkaaDoorSum
import Derived.Test.YtfhalnobaeogkaaDoorWire
import Derived.Test.YtfhalnobaeogkaaDoorPktW
import Derived.Test.YtfhalnobaeogkaaDoorPktR
import Derived.Test.YtfhalnobaeogkaaDoorWireA
import Derived.Test.YtfhalnobaeogkaaDoorDisk
import Derived.Test.YtfhalnobaeogkaaDoorFwZer
import Derived.Test.YtfhalnobaeogkaaDoorWireA
import Derived.Test.YtfhalnobaeogkaaDoorHead
import Derived.Test.YtfhalnobaeogkaaDoorHalf
import Derived.Test.YtfhalnobaeogkaaDoorOpen
import Derived.Test.YtfhalnobaeogkaaDoorSave
import Derived.Test.YtfhalnobaeogkaaDoorVPure
import Derived.Test.YtfhalnobaeogkaaDoorRefH
set_option linter.unusedVariables false
set_option linter.unusedSimpArgs false
namespace Go.Proofs.YtfhalnobaeogkaaDoor
open Go Go.RowKit Go.Fw

theorem Tryd.ok54 : CallOk Tryd.prog 54 := ⟨_, Tryd.func54, by kernel_rfl, by kernel_rfl⟩
theorem Tryd.ok74 : CallOk Tryd.prog 74 := ⟨_, Tryd.func74, by kernel_rfl, by kernel_rfl⟩
theorem Tryd.ok90 : CallOk Tryd.prog 90 := ⟨_, Tryd.func90, by kernel_rfl, by kernel_rfl⟩


abbrev curO (bv : Value) (i : Nat) (bad : Bool) : Obj := blk 143 [bv, vI i, .bool bad]
/-- A cursor over bytes, by what it has left; none: it has failed. -/
def CurR (w00 : World) (T : List Ent) (c : Nat) (bv : Value) (bl : List UInt8) : RSt → World → Prop
  | some xs, w => ∃ i, i ≤ bl.length ∧ xs = bl.drop i ∧ St w00 w (⟨true, some c, curO bv i false⟩ :: T)
  | none, w => ∃ i, St w00 w (⟨true, some c, curO bv i true⟩ :: T)
theorem CurR.ext {w00 w w' : World} {T : List Ent} {c : Nat} {bv : Value} {bl : List UInt8} : ∀ {s : RSt}, CurR w00 T c bv bl s w → Ext w w' → CurR w00 T c bv bl s w'
  | some xs, ⟨i, h1, h2, h3⟩, hx => ⟨i, h1, h2, h3.ext hx⟩
  | none, ⟨i, h⟩, hx => ⟨i, h.ext hx⟩
theorem CurR.st {w00 w : World} {T : List Ent} {c : Nat} {bv : Value} {bl : List UInt8} : ∀ {s : RSt}, CurR w00 T c bv bl s w → ∃ i bad, St w00 w (⟨true, some c, curO bv i bad⟩ :: T)
  | some xs, ⟨i, h1, h2, h3⟩ => ⟨_, _, h3⟩
  | none, ⟨i, h⟩ => ⟨_, _, h⟩
def CTakeP (w00 : World) (T : List Ent) (c : Nat) (bv : Value) (bl : List UInt8) (k : Nat) (s : RSt) (e : Ending) (w' : World) : Prop :=
  ∃ v, e = .returned v ∧ CurR w00 T c bv bl (takeR k s).2 w' ∧ SRd w00 T v (((takeR k s).1.getD []).map vB)
theorem byte_div (x : UInt32) (s d : Nat) (hd : d = 2 ^ s) (hs : s < 32) : UInt8.ofNat (x.toNat / d) = (x >>> UInt32.ofNat s).toUInt8 := by
  subst hd
  apply UInt8.toNat_inj.1
  rw [UInt8.toNat_ofNat', UInt32.toNat_toUInt8, UInt32.toNat_shiftRight, UInt32.toNat_ofNat', show s % 2 ^ 32 % 32 = s by omega, Nat.shiftRight_eq_div_pow]
theorem byte_low (x : UInt32) : UInt8.ofNat x.toNat = x.toUInt8 := by
  apply UInt8.toNat_inj.1
  rw [UInt8.toNat_ofNat', UInt32.toNat_toUInt8]
theorem u32B_nat (n : Nat) (h : n < 4294967296) : [UInt8.ofNat (n / 16777216), UInt8.ofNat (n / 65536), UInt8.ofNat (n / 256), UInt8.ofNat n] = u32B (UInt32.ofNat n) := by
  have e : (UInt32.ofNat n).toNat = n := by rw [UInt32.toNat_ofNat']; omega
  have h1 := byte_div (UInt32.ofNat n) 24 16777216 rfl (by decide)
  have h2 := byte_div (UInt32.ofNat n) 16 65536 rfl (by decide)
  have h3 := byte_div (UInt32.ofNat n) 8 256 rfl (by decide)
  have h4 := byte_low (UInt32.ofNat n)
  rw [e] at h1 h2 h3 h4
  rw [u32B, h1, h2, h3, h4]


theorem ru32_mk {n : Nat} {w0 : World} (hn : n < 4294967296) :
    Calls Tryd.prog 54 #[vI n] w0 fun e w' => ∃ b, e = .returned (.slice (some ⟨b, 0, none⟩) 4 4) ∧ St w0 w' [⟨true, some b, blkB 5 (u32B (UInt32.ofNat n))⟩] := by
  refine calls_start 15 Tryd.func54 rfl Tryd.ntmps54 rfl fun a hF => ?_
  have hS := St.refl w0
  refine wp_seq_k fun Kq1 hKq1 => ?_
  -- region 0 (ref.go:5)
  refine wp_region_lit ?_
  refine wpList_stp (stp_gv hF (wanted_none rfl) rfl rfl (gv_assign rfl (ev_const _ _)) fun a hF => ?_)
  refine wpList_nil ?_
  refine then_normal (hKq1 _ _ ?_)
  refine wp_seq_k fun Kq2 hKq2 => ?_
  -- region 1 (ref.go:6)
  refine wp_region_lit ?_
  refine wpList_stp (stp_gv hF (wanted_none rfl) rfl rfl (gv_move rfl (hF.t rfl)) fun a hF => ?_)
  refine wpList_stp (stp_gv hF (wanted_none rfl) rfl rfl (gv_nquo (n := 16777216) rfl (hF.t rfl) rfl (by omega) (by omega)) fun a hF => ?_)
  refine wpList_stp (stp_gv hF (wanted_none rfl) rfl rfl (gv_conv_i_b rfl Tryd.underlying3 Tryd.underlying5 (hF.t rfl)) fun a hF => ?_)
  refine wpList_stp (stp_gv hF (wanted_none rfl) rfl rfl (gv_move rfl (hF.t rfl)) fun a hF => ?_)
  refine wpList_stp (stp_gv hF (wanted_none rfl) rfl rfl (gv_nquo (n := 65536) rfl (hF.t rfl) rfl (by omega) (by omega)) fun a hF => ?_)
  refine wpList_stp (stp_gv hF (wanted_none rfl) rfl rfl (gv_conv_i_b rfl Tryd.underlying3 Tryd.underlying5 (hF.t rfl)) fun a hF => ?_)
  refine wpList_stp (stp_gv hF (wanted_none rfl) rfl rfl (gv_move rfl (hF.t rfl)) fun a hF => ?_)
  refine wpList_stp (stp_gv hF (wanted_none rfl) rfl rfl (gv_nquo (n := 256) rfl (hF.t rfl) rfl (by omega) (by omega)) fun a hF => ?_)
  refine wpList_stp (stp_gv hF (wanted_none rfl) rfl rfl (gv_conv_i_b rfl Tryd.underlying3 Tryd.underlying5 (hF.t rfl)) fun a hF => ?_)
  refine wpList_stp (stp_gv hF (wanted_none rfl) rfl rfl (gv_move rfl (hF.t rfl)) fun a hF => ?_)
  refine wpList_stp (stp_gv hF (wanted_none rfl) rfl rfl (gv_conv_i_b rfl Tryd.underlying3 Tryd.underlying5 (hF.t rfl)) fun a hF => ?_)
  refine wpList_stp (stp_build4 hF (wanted_none rfl) rfl rfl rfl Tryd.underlying22 Tryd.ty5 (hF.t rfl) (hF.t rfl) (hF.t rfl) (hF.t rfl) hS fun zb a w hF hS => ?_)
  refine wpList_stp (stp_gv hF (wanted_none rfl) rfl rfl (gv_assign rfl (hF.t rfl)) fun a hF => ?_)
  refine wpList_nil ?_
  refine then_normal (hKq2 _ _ ?_)
  refine wp_ret ?_
  refine ret1 (fn := Tryd.f54) (t := 2) hF rfl rfl ?_
  rw [u32B_nat n hn] at hS
  exact ⟨zb, rfl, hS⟩

theorem rtext_mk {l : List UInt8} {w0 : World} (hl : l.length ≤ 1073741824) :
    Calls Tryd.prog 83 #[sV l] w0 fun e w' => ∃ b bp, e = .returned (.slice (some ⟨b, 0, none⟩) (4 + l.length) (4 + l.length + bp.length)) ∧ 4 + l.length + bp.length ≤ 9223372036854775807 ∧ St w0 w' [⟨true, some b, blk 5 ((u32B (UInt32.ofNat l.length) ++ l).map vB ++ bp)⟩] := by
  refine calls_start 8 Tryd.func83 rfl Tryd.ntmps83 rfl fun a hF => ?_
  have hS := St.refl w0
  refine wp_seq_k fun Kq1 hKq1 => ?_
  -- region 0 (ref.go:10)
  refine wp_region_lit ?_
  refine wpList_stp (stp_gv hF (wanted_none rfl) rfl rfl (gv_assign rfl (ev_const _ _)) fun a hF => ?_)
  refine wpList_nil ?_
  refine then_normal (hKq1 _ _ ?_)
  refine wp_seq_k fun Kq2 hKq2 => ?_
  -- region 1 (ref.go:10)
  refine wp_region_lit ?_
  refine wpList_stp (stp_gv hF (wanted_none rfl) rfl rfl (gv_move rfl (hF.t rfl)) fun a hF => ?_)
  refine wpList_stp (stp_gv hF (wanted_none rfl) rfl rfl (gv_lenStr rfl Tryd.underlying9 (hF.t rfl)) fun a hF => ?_)
  refine wpList_stp (stp_call hF (wanted_none rfl) rfl rfl Tryd.ok54 rfl (Evs.cons (hF.t rfl) Evs.nil) (ru32_mk (n := l.length) (by omega)) fun e w h => ?_)
  obtain ⟨b, rfl, hN⟩ := h
  refine ⟨_, rfl, fun a hF => ?_⟩
  replace hS := hS.join hN (nw_cons rfl nw_nil)
  replace hS : St w0 w [⟨true, some b, blk 5 ((u32B (UInt32.ofNat l.length)).map vB ++ [])⟩] := by rw [List.append_nil]; exact hS
  clear hN
  refine wpList_stp (stp_gv hF (wanted_none rfl) rfl rfl (gv_move rfl (hF.t rfl)) fun a hF => ?_)
  refine wpList_stp (stp_appS (ob := some b) (l := u32B (UInt32.ofNat l.length)) (pad := []) (k := 0) hF (wanted_none rfl) rfl rfl rfl Tryd.underlying22 Tryd.underlying9 Tryd.ty5 rfl (hF.t rfl) (hF.t rfl) hS rfl (fun h => by cases h) (by rw [u32B_len]; simp) (by rw [u32B_len]; omega) fun o op a w hF oo oc hS => ?_)
  refine wpList_stp (stp_gv hF (wanted_none rfl) rfl rfl (gv_assign rfl (hF.t rfl)) fun a hF => ?_)
  refine wpList_nil ?_
  refine then_normal (hKq2 _ _ ?_)
  refine wp_ret ?_
  refine ret1 (fn := Tryd.f83) (t := 2) hF rfl rfl ?_
  have hl4 : (u32B (UInt32.ofNat l.length) ++ l).length = 4 + l.length := by rw [List.length_append, u32B_len]
  obtain ⟨o, rfl⟩ := own_some oo (by omega)
  rw [hl4] at oc ⊢
  exact ⟨o, op, rfl, oc, hS⟩

theorem ctake_bad {w00 w : World} {T : List Ent} {c i k cc : Nat} {A : Option Addr} {bl : List UInt8} (hS : St w00 w (⟨true, some c, curO (.slice A bl.length cc) i true⟩ :: T)) :
    Calls Tryd.prog 90 #[.pointer (some ⟨c, 0, none⟩), vI k] w fun e w' => e = .returned (.slice none 0 0) ∧ St w00 w' (⟨true, some c, curO (.slice A bl.length cc) i true⟩ :: T) := by
  refine calls_start 53 Tryd.func90 rfl Tryd.ntmps90 rfl fun a hF => ?_
  refine wp_seq_k fun Kq1 hKq1 => ?_
  -- region 0 (ref.go:54)
  refine wp_region_lit ?_
  refine wpList_stp (stp_gv hF (wanted_none rfl) rfl rfl (gv_assign rfl (ev_const _ _)) fun a hF => ?_)
  refine wpList_nil ?_
  refine then_normal (hKq1 _ _ ?_)
  refine wp_seq_k fun Kq2 hKq2 => ?_
  refine wp_seq_k fun Kq3 hKq3 => ?_
  -- region 1 (ref.go:55)
  refine Fw.wp_region_draw (by kernel_rfl) fun w hx => ?_
  replace hS := hS.ext hx
  clear hx
  refine run_head0 (n := 22) _ hF (by kernel_rfl) rfl ?_
  refine dw_gv hF rfl (wanted_none rfl) rfl rfl (fun w hx => gv_move rfl (hF.t rfl)) fun a hF => ?_
  refine dw_gv hF rfl (wanted_none rfl) rfl rfl (fun w hx => gv_nilCheck rfl (hF.t rfl)) fun a hF => ?_
  refine dw_gv hF rfl (wanted_none rfl) rfl rfl (fun w hx => gv_field (r := 2) rfl Tryd.underlying143 rfl rfl Tryd.sz4 (by decide) (hF.t rfl)) fun a hF => ?_
  refine dw_gv hF rfl (wanted_none rfl) rfl rfl (fun w hx => gv_load rfl Tryd.underlying4 rfl (hF.t rfl) (cell_ix (j := 2) ((hS.ext hx).cell (k := 0) rfl (rfl)) (by omega))) fun a hF => ?_
  refine dw_gv hF rfl (wanted_none rfl) rfl rfl (fun w hx => gv_move rfl (hF.t rfl)) fun a hF => ?_
  refine dw_skip hF rfl (unwanted_of hF rfl rfl (rfl) rfl) rfl rfl fun a hF => ?_
  refine dw_skip hF rfl (unwanted_of hF rfl rfl (rfl) rfl) rfl rfl fun a hF => ?_
  refine dw_gv hF rfl (wanted_none rfl) rfl rfl (fun w hx => gv_pickT rfl (hF.t rfl) (ev_const _ _)) fun a hF => ?_
  refine dw_gv hF rfl (wanted_none rfl) rfl rfl (fun w hx => gv_move rfl (hF.t rfl)) fun a hF => ?_
  refine dw_skip hF rfl (unwanted_of hF rfl rfl (rfl) rfl) rfl rfl fun a hF => ?_
  refine dw_skip hF rfl (unwanted_of hF rfl rfl (rfl) rfl) rfl rfl fun a hF => ?_
  refine dw_skip hF rfl (unwanted_of hF rfl rfl (rfl) rfl) rfl rfl fun a hF => ?_
  refine dw_skip hF rfl (unwanted_of hF rfl rfl (rfl) rfl) rfl rfl fun a hF => ?_
  refine dw_skip hF rfl (unwanted_of hF rfl rfl (rfl) rfl) rfl rfl fun a hF => ?_
  refine dw_skip hF rfl (unwanted_of hF rfl rfl (rfl) rfl) rfl rfl fun a hF => ?_
  refine dw_skip hF rfl (unwanted_of hF rfl rfl (rfl) rfl) rfl rfl fun a hF => ?_
  refine dw_skip hF rfl (unwanted_of hF rfl rfl (rfl) rfl) rfl rfl fun a hF => ?_
  refine dw_skip hF rfl (unwanted_of hF rfl rfl (rfl) rfl) rfl rfl fun a hF => ?_
  refine dw_skip hF rfl (unwanted_of hF rfl rfl (rfl) rfl) rfl rfl fun a hF => ?_
  refine dw_skip hF rfl (unwanted_of hF rfl rfl (rfl) rfl) rfl rfl fun a hF => ?_
  refine dw_skip hF rfl (unwanted_of hF rfl rfl (rfl) rfl) rfl rfl fun a hF => ?_
  refine dw_gv hF rfl (wanted_none rfl) rfl rfl (fun w hx => gv_pickT rfl (hF.t rfl) (ev_const _ _)) fun a hF => ?_
  refine dw_nil fun a w hA hx => ?_
  replace hF := hA _ hF
  replace hS := hS.ext hx
  clear hA hx
  refine run_done (by decide) ?_
  refine then_normal (hKq3 _ _ ?_)
  refine wp_cond_true (hF.t rfl) ?_
  refine wp_seq_k fun Kq4 hKq4 => ?_
  -- region 2 (ref.go:56)
  refine wp_region_lit ?_
  refine wpList_stp (stp_gv hF (wanted_none rfl) rfl rfl (gv_move rfl (hF.t rfl)) fun a hF => ?_)
  refine wpList_stp (stp_gv hF (wanted_none rfl) rfl rfl (gv_nilCheck rfl (hF.t rfl)) fun a hF => ?_)
  refine wpList_stp (stp_gv hF (wanted_none rfl) rfl rfl (gv_field (r := 2) rfl Tryd.underlying143 rfl rfl Tryd.sz4 (by decide) (hF.t rfl)) fun a hF => ?_)
  refine wpList_stp (stp_storeAt (2) hF (wanted_none rfl) rfl rfl Tryd.sz4 (hF.t rfl) (by omega) (ev_const _ _) rfl hS (k := 0) rfl (by simp) fun w hS => ?_)
  refine wpList_nil ?_
  refine then_normal (hKq4 _ _ ?_)
  refine wp_seq_k fun Kq5 hKq5 => ?_
  -- region 3 (ref.go:57)
  refine wp_region_lit ?_
  refine wpList_stp (stp_gv hF (wanted_none rfl) rfl rfl (gv_assign rfl (ev_const _ _)) fun a hF => ?_)
  refine wpList_nil ?_
  refine then_normal (hKq5 _ _ ?_)
  refine wp_ret ?_
  refine then_ret ?_
  refine ret1 (fn := Tryd.f90) (t := 4) hF rfl rfl ?_
  exact ⟨rfl, hS⟩

theorem ctake_short {w00 w : World} {T : List Ent} {c i k cc : Nat} {A : Option Addr} {bl : List UInt8} (hS : St w00 w (⟨true, some c, curO (.slice A bl.length cc) i false⟩ :: T)) (hi : i ≤ bl.length) (hk : bl.length - i < k) (hbl : bl.length ≤ 1152921504606846976) :
    Calls Tryd.prog 90 #[.pointer (some ⟨c, 0, none⟩), vI k] w fun e w' => e = .returned (.slice none 0 0) ∧ St w00 w' (⟨true, some c, curO (.slice A bl.length cc) i true⟩ :: T) := by
  refine calls_start 53 Tryd.func90 rfl Tryd.ntmps90 rfl fun a hF => ?_
  refine wp_seq_k fun Kq1 hKq1 => ?_
  -- region 0 (ref.go:54)
  refine wp_region_lit ?_
  refine wpList_stp (stp_gv hF (wanted_none rfl) rfl rfl (gv_assign rfl (ev_const _ _)) fun a hF => ?_)
  refine wpList_nil ?_
  refine then_normal (hKq1 _ _ ?_)
  refine wp_seq_k fun Kq2 hKq2 => ?_
  refine wp_seq_k fun Kq3 hKq3 => ?_
  -- region 1 (ref.go:55)
  refine Fw.wp_region_draw (by kernel_rfl) fun w hx => ?_
  replace hS := hS.ext hx
  clear hx
  refine run_head0 (n := 22) _ hF (by kernel_rfl) rfl ?_
  refine dw_gv hF rfl (wanted_none rfl) rfl rfl (fun w hx => gv_move rfl (hF.t rfl)) fun a hF => ?_
  refine dw_gv hF rfl (wanted_none rfl) rfl rfl (fun w hx => gv_nilCheck rfl (hF.t rfl)) fun a hF => ?_
  refine dw_gv hF rfl (wanted_none rfl) rfl rfl (fun w hx => gv_field (r := 2) rfl Tryd.underlying143 rfl rfl Tryd.sz4 (by decide) (hF.t rfl)) fun a hF => ?_
  refine dw_gv hF rfl (wanted_none rfl) rfl rfl (fun w hx => gv_load rfl Tryd.underlying4 rfl (hF.t rfl) (cell_ix (j := 2) ((hS.ext hx).cell (k := 0) rfl (rfl)) (by omega))) fun a hF => ?_
  refine dw_gv hF rfl (wanted_none rfl) rfl rfl (fun w hx => gv_move rfl (hF.t rfl)) fun a hF => ?_
  refine dw_gv hF rfl (wanted_of hF rfl rfl (rfl)) rfl rfl (fun w hx => gv_move rfl (hF.t rfl)) fun a hF => ?_
  refine dw_gv hF rfl (wanted_of hF rfl rfl (rfl)) rfl rfl (fun w hx => gv_lssF rfl (hF.t rfl) (ev_const _ _) (by omega)) fun a hF => ?_
  refine dw_gv hF rfl (wanted_none rfl) rfl rfl (fun w hx => gv_pickF rfl (hF.t rfl) (hF.t rfl)) fun a hF => ?_
  refine dw_gv hF rfl (wanted_none rfl) rfl rfl (fun w hx => gv_move rfl (hF.t rfl)) fun a hF => ?_
  refine dw_gv hF rfl (wanted_of hF rfl rfl (rfl)) rfl rfl (fun w hx => gv_move rfl (hF.t rfl)) fun a hF => ?_
  refine dw_gv hF rfl (wanted_of hF rfl rfl (rfl)) rfl rfl (fun w hx => gv_move rfl (hF.t rfl)) fun a hF => ?_
  refine dw_gv hF rfl (wanted_of hF rfl rfl (rfl)) rfl rfl (fun w hx => gv_nilCheck rfl (hF.t rfl)) fun a hF => ?_
  refine dw_gv hF rfl (wanted_of hF rfl rfl (rfl)) rfl rfl (fun w hx => gv_field (r := 0) rfl Tryd.underlying143 rfl rfl Tryd.sz22 (by decide) (hF.t rfl)) fun a hF => ?_
  refine dw_gv hF rfl (wanted_of hF rfl rfl (rfl)) rfl rfl (fun w hx => gv_load rfl Tryd.underlying22 rfl (hF.t rfl) (cell_ix (j := 0) ((hS.ext hx).cell (k := 0) rfl (rfl)) (by omega))) fun a hF => ?_
  refine dw_gv hF rfl (wanted_of hF rfl rfl (rfl)) rfl rfl (fun w hx => gv_len rfl Tryd.underlying22 (hF.t rfl)) fun a hF => ?_
  refine dw_gv hF rfl (wanted_of hF rfl rfl (rfl)) rfl rfl (fun w hx => gv_move rfl (hF.t rfl)) fun a hF => ?_
  refine dw_gv hF rfl (wanted_of hF rfl rfl (rfl)) rfl rfl (fun w hx => gv_nilCheck rfl (hF.t rfl)) fun a hF => ?_
  refine dw_gv hF rfl (wanted_of hF rfl rfl (rfl)) rfl rfl (fun w hx => gv_field (r := 1) rfl Tryd.underlying143 rfl rfl Tryd.sz3 (by decide) (hF.t rfl)) fun a hF => ?_
  refine dw_gv hF rfl (wanted_of hF rfl rfl (rfl)) rfl rfl (fun w hx => gv_load rfl Tryd.underlying3 rfl (hF.t rfl) (cell_ix (j := 1) ((hS.ext hx).cell (k := 0) rfl (rfl)) (by omega))) fun a hF => ?_
  refine dw_gv hF rfl (wanted_of hF rfl rfl (rfl)) rfl rfl (fun w hx => gv_nsub rfl (hF.t rfl) (hF.t rfl) (by omega) (by omega)) fun a hF => ?_
  refine dw_gv hF rfl (wanted_of hF rfl rfl (rfl)) rfl rfl (fun w hx => gv_gtrT rfl (hF.t rfl) (hF.t rfl) (by omega)) fun a hF => ?_
  refine dw_gv hF rfl (wanted_none rfl) rfl rfl (fun w hx => gv_pickF rfl (hF.t rfl) (hF.t rfl)) fun a hF => ?_
  refine dw_nil fun a w hA hx => ?_
  replace hF := hA _ hF
  replace hS := hS.ext hx
  clear hA hx
  refine run_done (by decide) ?_
  refine then_normal (hKq3 _ _ ?_)
  refine wp_cond_true (hF.t rfl) ?_
  refine wp_seq_k fun Kq4 hKq4 => ?_
  -- region 2 (ref.go:56)
  refine wp_region_lit ?_
  refine wpList_stp (stp_gv hF (wanted_none rfl) rfl rfl (gv_move rfl (hF.t rfl)) fun a hF => ?_)
  refine wpList_stp (stp_gv hF (wanted_none rfl) rfl rfl (gv_nilCheck rfl (hF.t rfl)) fun a hF => ?_)
  refine wpList_stp (stp_gv hF (wanted_none rfl) rfl rfl (gv_field (r := 2) rfl Tryd.underlying143 rfl rfl Tryd.sz4 (by decide) (hF.t rfl)) fun a hF => ?_)
  refine wpList_stp (stp_storeAt (2) hF (wanted_none rfl) rfl rfl Tryd.sz4 (hF.t rfl) (by omega) (ev_const _ _) rfl hS (k := 0) rfl (by simp) fun w hS => ?_)
  refine wpList_nil ?_
  refine then_normal (hKq4 _ _ ?_)
  refine wp_seq_k fun Kq5 hKq5 => ?_
  -- region 3 (ref.go:57)
  refine wp_region_lit ?_
  refine wpList_stp (stp_gv hF (wanted_none rfl) rfl rfl (gv_assign rfl (ev_const _ _)) fun a hF => ?_)
  refine wpList_nil ?_
  refine then_normal (hKq5 _ _ ?_)
  refine wp_ret ?_
  refine then_ret ?_
  refine ret1 (fn := Tryd.f90) (t := 4) hF rfl rfl ?_
  exact ⟨rfl, hS⟩

theorem ctake_ok {w00 w : World} {T : List Ent} {c i k cc : Nat} {A : Option Addr} {bl : List UInt8} (hS : St w00 w (⟨true, some c, curO (.slice A bl.length cc) i false⟩ :: T)) (hi : i ≤ bl.length) (hk : k ≤ bl.length - i) (hc : bl.length ≤ cc) (hbl : bl.length ≤ 1152921504606846976) :
    Calls Tryd.prog 90 #[.pointer (some ⟨c, 0, none⟩), vI k] w fun e w' => e = .returned (cut3V A i (i + k) cc) ∧ St w00 w' (⟨true, some c, curO (.slice A bl.length cc) (i + k) false⟩ :: T) := by
  refine calls_start 53 Tryd.func90 rfl Tryd.ntmps90 rfl fun a hF => ?_
  refine wp_seq_k fun Kq1 hKq1 => ?_
  -- region 0 (ref.go:54)
  refine wp_region_lit ?_
  refine wpList_stp (stp_gv hF (wanted_none rfl) rfl rfl (gv_assign rfl (ev_const _ _)) fun a hF => ?_)
  refine wpList_nil ?_
  refine then_normal (hKq1 _ _ ?_)
  refine wp_seq_k fun Kq2 hKq2 => ?_
  refine wp_seq_k fun Kq3 hKq3 => ?_
  -- region 1 (ref.go:55)
  refine Fw.wp_region_draw (by kernel_rfl) fun w hx => ?_
  replace hS := hS.ext hx
  clear hx
  refine run_head0 (n := 22) _ hF (by kernel_rfl) rfl ?_
  refine dw_gv hF rfl (wanted_none rfl) rfl rfl (fun w hx => gv_move rfl (hF.t rfl)) fun a hF => ?_
  refine dw_gv hF rfl (wanted_none rfl) rfl rfl (fun w hx => gv_nilCheck rfl (hF.t rfl)) fun a hF => ?_
  refine dw_gv hF rfl (wanted_none rfl) rfl rfl (fun w hx => gv_field (r := 2) rfl Tryd.underlying143 rfl rfl Tryd.sz4 (by decide) (hF.t rfl)) fun a hF => ?_
  refine dw_gv hF rfl (wanted_none rfl) rfl rfl (fun w hx => gv_load rfl Tryd.underlying4 rfl (hF.t rfl) (cell_ix (j := 2) ((hS.ext hx).cell (k := 0) rfl (rfl)) (by omega))) fun a hF => ?_
  refine dw_gv hF rfl (wanted_none rfl) rfl rfl (fun w hx => gv_move rfl (hF.t rfl)) fun a hF => ?_
  refine dw_gv hF rfl (wanted_of hF rfl rfl (rfl)) rfl rfl (fun w hx => gv_move rfl (hF.t rfl)) fun a hF => ?_
  refine dw_gv hF rfl (wanted_of hF rfl rfl (rfl)) rfl rfl (fun w hx => gv_lssF rfl (hF.t rfl) (ev_const _ _) (by omega)) fun a hF => ?_
  refine dw_gv hF rfl (wanted_none rfl) rfl rfl (fun w hx => gv_pickF rfl (hF.t rfl) (hF.t rfl)) fun a hF => ?_
  refine dw_gv hF rfl (wanted_none rfl) rfl rfl (fun w hx => gv_move rfl (hF.t rfl)) fun a hF => ?_
  refine dw_gv hF rfl (wanted_of hF rfl rfl (rfl)) rfl rfl (fun w hx => gv_move rfl (hF.t rfl)) fun a hF => ?_
  refine dw_gv hF rfl (wanted_of hF rfl rfl (rfl)) rfl rfl (fun w hx => gv_move rfl (hF.t rfl)) fun a hF => ?_
  refine dw_gv hF rfl (wanted_of hF rfl rfl (rfl)) rfl rfl (fun w hx => gv_nilCheck rfl (hF.t rfl)) fun a hF => ?_
  refine dw_gv hF rfl (wanted_of hF rfl rfl (rfl)) rfl rfl (fun w hx => gv_field (r := 0) rfl Tryd.underlying143 rfl rfl Tryd.sz22 (by decide) (hF.t rfl)) fun a hF => ?_
  refine dw_gv hF rfl (wanted_of hF rfl rfl (rfl)) rfl rfl (fun w hx => gv_load rfl Tryd.underlying22 rfl (hF.t rfl) (cell_ix (j := 0) ((hS.ext hx).cell (k := 0) rfl (rfl)) (by omega))) fun a hF => ?_
  refine dw_gv hF rfl (wanted_of hF rfl rfl (rfl)) rfl rfl (fun w hx => gv_len rfl Tryd.underlying22 (hF.t rfl)) fun a hF => ?_
  refine dw_gv hF rfl (wanted_of hF rfl rfl (rfl)) rfl rfl (fun w hx => gv_move rfl (hF.t rfl)) fun a hF => ?_
  refine dw_gv hF rfl (wanted_of hF rfl rfl (rfl)) rfl rfl (fun w hx => gv_nilCheck rfl (hF.t rfl)) fun a hF => ?_
  refine dw_gv hF rfl (wanted_of hF rfl rfl (rfl)) rfl rfl (fun w hx => gv_field (r := 1) rfl Tryd.underlying143 rfl rfl Tryd.sz3 (by decide) (hF.t rfl)) fun a hF => ?_
  refine dw_gv hF rfl (wanted_of hF rfl rfl (rfl)) rfl rfl (fun w hx => gv_load rfl Tryd.underlying3 rfl (hF.t rfl) (cell_ix (j := 1) ((hS.ext hx).cell (k := 0) rfl (rfl)) (by omega))) fun a hF => ?_
  refine dw_gv hF rfl (wanted_of hF rfl rfl (rfl)) rfl rfl (fun w hx => gv_nsub rfl (hF.t rfl) (hF.t rfl) (by omega) (by omega)) fun a hF => ?_
  refine dw_gv hF rfl (wanted_of hF rfl rfl (rfl)) rfl rfl (fun w hx => gv_gtrF rfl (hF.t rfl) (hF.t rfl) (by omega)) fun a hF => ?_
  refine dw_gv hF rfl (wanted_none rfl) rfl rfl (fun w hx => gv_pickF rfl (hF.t rfl) (hF.t rfl)) fun a hF => ?_
  refine dw_nil fun a w hA hx => ?_
  replace hF := hA _ hF
  replace hS := hS.ext hx
  clear hA hx
  refine run_done (by decide) ?_
  refine then_normal (hKq3 _ _ ?_)
  refine wp_cond_false (hF.t rfl) ?_
  refine wp_skip ?_
  refine then_normal (hKq2 _ _ ?_)
  refine wp_seq_k fun Kq4 hKq4 => ?_
  -- region 4 (ref.go:59)
  refine wp_region_lit ?_
  refine wpList_stp (stp_gv hF (wanted_none rfl) rfl rfl (gv_move rfl (hF.t rfl)) fun a hF => ?_)
  refine wpList_stp (stp_gv hF (wanted_none rfl) rfl rfl (gv_nilCheck rfl (hF.t rfl)) fun a hF => ?_)
  refine wpList_stp (stp_gv hF (wanted_none rfl) rfl rfl (gv_field (r := 1) rfl Tryd.underlying143 rfl rfl Tryd.sz3 (by decide) (hF.t rfl)) fun a hF => ?_)
  refine wpList_stp (stp_gv hF (wanted_none rfl) rfl rfl (gv_load rfl Tryd.underlying3 rfl (hF.t rfl) (cell_ix (j := 1) (hS.cell (k := 0) rfl (rfl)) (by omega))) fun a hF => ?_)
  refine wpList_stp (stp_gv hF (wanted_none rfl) rfl rfl (gv_move rfl (hF.t rfl)) fun a hF => ?_)
  refine wpList_stp (stp_gv hF (wanted_none rfl) rfl rfl (gv_nadd rfl (hF.t rfl) (hF.t rfl) (by omega)) fun a hF => ?_)
  refine wpList_stp (stp_gv hF (wanted_none rfl) rfl rfl (gv_nilCheck rfl (hF.t rfl)) fun a hF => ?_)
  refine wpList_stp (stp_gv hF (wanted_none rfl) rfl rfl (gv_field (r := 1) rfl Tryd.underlying143 rfl rfl Tryd.sz3 (by decide) (hF.t rfl)) fun a hF => ?_)
  refine wpList_stp (stp_storeAt (1) hF (wanted_none rfl) rfl rfl Tryd.sz3 (hF.t rfl) (by omega) (hF.t rfl) rfl hS (k := 0) rfl (by simp) fun w hS => ?_)
  refine wpList_nil ?_
  refine then_normal (hKq4 _ _ ?_)
  refine wp_seq_k fun Kq5 hKq5 => ?_
  -- region 5 (ref.go:60)
  refine Fw.wp_region_draw (by kernel_rfl) fun w hx => ?_
  replace hS := hS.ext hx
  clear hx
  refine run_head0 (n := 16) _ hF (by kernel_rfl) rfl ?_
  refine dw_gv hF rfl (wanted_none rfl) rfl rfl (fun w hx => gv_move rfl (hF.t rfl)) fun a hF => ?_
  refine dw_gv hF rfl (wanted_none rfl) rfl rfl (fun w hx => gv_nilCheck rfl (hF.t rfl)) fun a hF => ?_
  refine dw_gv hF rfl (wanted_none rfl) rfl rfl (fun w hx => gv_field (r := 0) rfl Tryd.underlying143 rfl rfl Tryd.sz22 (by decide) (hF.t rfl)) fun a hF => ?_
  refine dw_gv hF rfl (wanted_none rfl) rfl rfl (fun w hx => gv_load rfl Tryd.underlying22 rfl (hF.t rfl) (cell_ix (j := 0) ((hS.ext hx).cell (k := 0) rfl (rfl)) (by omega))) fun a hF => ?_
  refine dw_gv hF rfl (wanted_none rfl) rfl rfl (fun w hx => gv_move rfl (hF.t rfl)) fun a hF => ?_
  refine dw_gv hF rfl (wanted_none rfl) rfl rfl (fun w hx => gv_nilCheck rfl (hF.t rfl)) fun a hF => ?_
  refine dw_gv hF rfl (wanted_none rfl) rfl rfl (fun w hx => gv_field (r := 1) rfl Tryd.underlying143 rfl rfl Tryd.sz3 (by decide) (hF.t rfl)) fun a hF => ?_
  refine dw_gv hF rfl (wanted_none rfl) rfl rfl (fun w hx => gv_load rfl Tryd.underlying3 rfl (hF.t rfl) (cell_ix (j := 1) ((hS.ext hx).cell (k := 0) rfl (rfl)) (by omega))) fun a hF => ?_
  refine dw_gv hF rfl (wanted_none rfl) rfl rfl (fun w hx => gv_move rfl (hF.t rfl)) fun a hF => ?_
  refine dw_gv hF rfl (wanted_none rfl) rfl rfl (fun w hx => gv_nsub rfl (hF.t rfl) (hF.t rfl) (by omega) (by omega)) fun a hF => ?_
  rw [Nat.add_sub_cancel] at hF
  refine dw_gv hF rfl (wanted_none rfl) rfl rfl (fun w hx => gv_move rfl (hF.t rfl)) fun a hF => ?_
  refine dw_gv hF rfl (wanted_none rfl) rfl rfl (fun w hx => gv_nilCheck rfl (hF.t rfl)) fun a hF => ?_
  refine dw_gv hF rfl (wanted_none rfl) rfl rfl (fun w hx => gv_field (r := 1) rfl Tryd.underlying143 rfl rfl Tryd.sz3 (by decide) (hF.t rfl)) fun a hF => ?_
  refine dw_gv hF rfl (wanted_none rfl) rfl rfl (fun w hx => gv_load rfl Tryd.underlying3 rfl (hF.t rfl) (cell_ix (j := 1) ((hS.ext hx).cell (k := 0) rfl (rfl)) (by omega))) fun a hF => ?_
  refine dw_gv hF rfl (wanted_none rfl) rfl rfl (fun w hx => gv_slice2 rfl Tryd.underlying22 Tryd.sz5 (hF.t rfl) (hF.t rfl) (hF.t rfl) (by omega) (by omega)) fun a hF => ?_
  refine dw_gv hF rfl (wanted_none rfl) rfl rfl (fun w hx => gv_assign rfl (hF.t rfl)) fun a hF => ?_
  refine dw_nil fun a w hA hx => ?_
  replace hF := hA _ hF
  replace hS := hS.ext hx
  clear hA hx
  refine run_done (by decide) ?_
  refine then_normal (hKq5 _ _ ?_)
  refine wp_ret ?_
  refine ret1 (fn := Tryd.f90) (t := 4) hF rfl rfl ?_
  exact ⟨rfl, hS⟩


theorem ctake_all {w00 w : World} {T : List Ent} {c k cc : Nat} {A : Option Addr} {bl : List UInt8} {s : RSt} (hB : SRd w00 T (.slice A bl.length cc) (bl.map vB)) (hc : bl.length ≤ cc) (hbl : bl.length ≤ 1152921504606846976) (h : CurR w00 T c (.slice A bl.length cc) bl s w) :
    Calls Tryd.prog 90 #[.pointer (some ⟨c, 0, none⟩), vI k] w (CTakeP w00 T c (.slice A bl.length cc) bl k s) := by
  cases s with
  | none =>
    obtain ⟨i, hS⟩ := h
    refine (ctake_bad hS).mono fun e w' ⟨he, hS'⟩ => ⟨_, he, ⟨i, hS'⟩, SRd.nil⟩
  | some xs =>
    obtain ⟨i, hi, rfl, hS⟩ := h
    have hdl : (bl.drop i).length = bl.length - i := List.length_drop
    by_cases hk : k ≤ bl.length - i
    · refine (ctake_ok hS hi hk hc hbl).mono fun e w' ⟨he, hS'⟩ => ⟨_, he, ?_, ?_⟩
      · simp only [takeR, hdl, if_pos hk]
        exact ⟨i + k, by omega, by rw [List.drop_drop], hS'⟩
      · simp only [takeR, hdl, if_pos hk, Option.getD_some]
        have := SRd.cut3 (l := i) (h := i + k) (mx := cc) hB (by omega) (by omega) (by omega) (Nat.le_refl _)
        rw [← List.map_take, ← List.map_drop, List.drop_take, show i + k - i = k by omega] at this
        exact this
    · refine (ctake_short hS hi (by omega) hbl).mono fun e w' ⟨he, hS'⟩ => ⟨_, he, ?_, ?_⟩
      · simp only [takeR, hdl, if_neg hk]
        exact ⟨i, hS'⟩
      · simp only [takeR, hdl, if_neg hk]
        exact SRd.nil



theorem takeR_none {k : Nat} {s : RSt} (h : (takeR k s).1 = none) : (takeR k s).2 = none := by
  cases s with
  | none => rfl
  | some xs =>
    by_cases hk : k ≤ xs.length
    · simp only [takeR, if_pos hk] at h; cases h
    · simp only [takeR, if_neg hk]
theorem takeR_snd {k : Nat} {s : RSt} {ys : List UInt8} (h : (takeR k s).1 = some ys) : ∃ zs, (takeR k s).2 = some zs := by
  cases s with
  | none => cases h
  | some xs =>
    by_cases hk : k ≤ xs.length
    · simp only [takeR, if_pos hk]; exact ⟨_, rfl⟩
    · simp only [takeR, if_neg hk] at h; cases h
theorem takeR_len {k : Nat} {s : RSt} {ys : List UInt8} (h : (takeR k s).1 = some ys) : ys.length = k := by
  cases s with
  | none => cases h
  | some xs =>
    by_cases hk : k ≤ xs.length
    · simp only [takeR, if_pos hk] at h; injection h with h; subst h; rw [List.length_take]; omega
    · simp only [takeR, if_neg hk] at h; cases h
theorem u32R_some {s : RSt} {ys : List UInt8} (h : (takeR 4 s).1 = some ys) : (u32R s).1 = u32A ys 4 := by
  unfold u32R; split
  · rename_i h1; rw [h1] at h; injection h with h; rw [h]
  · rename_i h1; rw [h1] at h; cases h
theorem u32R_none' {s : RSt} (h : (takeR 4 s).1 = none) : (u32R s).1 = 0 := by
  unfold u32R; split
  · rename_i h1; rw [h1] at h; cases h
  · rfl


theorem cu32_none {w00 w : World} {T : List Ent} {c cc : Nat} {A : Option Addr} {bl : List UInt8} {s : RSt} (hT : ∀ e ∈ T, e.nw = true) (hB : SRd w00 T (.slice A bl.length cc) (bl.map vB)) (hc : bl.length ≤ cc) (hbl : bl.length ≤ 1152921504606846976) (hR : CurR w00 T c (.slice A bl.length cc) bl s w) (hn : (takeR 4 s).1 = none) :
    Calls Tryd.prog 74 #[.pointer (some ⟨c, 0, none⟩)] w fun e w' => e = .returned (vI 0) ∧ CurR w00 T c (.slice A bl.length cc) bl none w' := by
  refine calls_start 32 Tryd.func74 rfl Tryd.ntmps74 rfl fun a hF => ?_
  refine wp_seq_k fun Kq1 hKq1 => ?_
  -- region 0 (ref.go:73)
  refine wp_region_lit ?_
  refine wpList_stp (stp_gv hF (wanted_none rfl) rfl rfl (gv_assign rfl (ev_const _ _)) fun a hF => ?_)
  refine wpList_nil ?_
  refine then_normal (hKq1 _ _ ?_)
  refine wp_seq_k fun Kq2 hKq2 => ?_
  -- region 1 (ref.go:74)
  refine wp_region_lit ?_
  refine wpList_stp (stp_gv hF (wanted_none rfl) rfl rfl (gv_move rfl (hF.t rfl)) fun a hF => ?_)
  refine wpList_stp (stp_call hF (wanted_none rfl) rfl rfl Tryd.ok90 rfl (Evs.cons (hF.t rfl) (Evs.cons (ev_const _ _) Evs.nil)) (ctake_all (k := 4) hB hc hbl hR) fun e w h => ?_)
  obtain ⟨v, rfl, hR, hv⟩ := h
  rw [hn] at hv
  replace hR : CurR w00 T c (.slice A bl.length cc) bl none w := by rw [takeR_none hn] at hR; exact hR
  obtain ⟨i, hS⟩ := hR
  refine ⟨_, rfl, fun a hF => ?_⟩
  refine wpList_stp (stp_gv hF (wanted_none rfl) rfl rfl (gv_assign rfl (hF.t rfl)) fun a hF => ?_)
  refine wpList_nil ?_
  refine then_normal (hKq2 _ _ ?_)
  refine wp_seq_k fun Kq3 hKq3 => ?_
  refine wp_seq_k fun Kq4 hKq4 => ?_
  -- region 2 (ref.go:75)
  refine wp_region_lit ?_
  refine wpList_stp (stp_gv hF (wanted_none rfl) rfl rfl (gv_move rfl (hF.t rfl)) fun a hF => ?_)
  refine wpList_stp (stp_gv hF (wanted_none rfl) rfl rfl (gv_nilCheck rfl (hF.t rfl)) fun a hF => ?_)
  refine wpList_stp (stp_gv hF (wanted_none rfl) rfl rfl (gv_field (r := 2) rfl Tryd.underlying143 rfl rfl Tryd.sz4 (by decide) (hF.t rfl)) fun a hF => ?_)
  refine wpList_stp (stp_gv hF (wanted_none rfl) rfl rfl (gv_load rfl Tryd.underlying4 rfl (hF.t rfl) (cell_ix (j := 2) (hS.cell (k := 0) rfl (rfl)) (by omega))) fun a hF => ?_)
  refine wpList_nil ?_
  refine then_normal (hKq4 _ _ ?_)
  refine wp_cond_true (hF.t rfl) ?_
  refine wp_seq_k fun Kq5 hKq5 => ?_
  -- region 3 (ref.go:76)
  refine wp_region_lit ?_
  refine wpList_stp (stp_gv hF (wanted_none rfl) rfl rfl (gv_assign rfl (ev_const _ _)) fun a hF => ?_)
  refine wpList_nil ?_
  refine then_normal (hKq5 _ _ ?_)
  refine wp_ret ?_
  refine then_ret ?_
  refine ret1 (fn := Tryd.f74) (t := 2) hF rfl rfl ?_
  exact ⟨rfl, i, hS⟩

theorem cu32_some {w00 w : World} {T : List Ent} {c cc : Nat} {A : Option Addr} {bl : List UInt8} {s : RSt} (hT : ∀ e ∈ T, e.nw = true) (hB : SRd w00 T (.slice A bl.length cc) (bl.map vB)) (hc : bl.length ≤ cc) (hbl : bl.length ≤ 1152921504606846976) (hR : CurR w00 T c (.slice A bl.length cc) bl s w) {ys : List UInt8} (hn : (takeR 4 s).1 = some ys) :
    Calls Tryd.prog 74 #[.pointer (some ⟨c, 0, none⟩)] w fun e w' => e = .returned (vI (u32A ys 4).toNat) ∧ CurR w00 T c (.slice A bl.length cc) bl (takeR 4 s).2 w' := by
  refine calls_start 32 Tryd.func74 rfl Tryd.ntmps74 rfl fun a hF => ?_
  refine wp_seq_k fun Kq1 hKq1 => ?_
  -- region 0 (ref.go:73)
  refine wp_region_lit ?_
  refine wpList_stp (stp_gv hF (wanted_none rfl) rfl rfl (gv_assign rfl (ev_const _ _)) fun a hF => ?_)
  refine wpList_nil ?_
  refine then_normal (hKq1 _ _ ?_)
  refine wp_seq_k fun Kq2 hKq2 => ?_
  -- region 1 (ref.go:74)
  refine wp_region_lit ?_
  refine wpList_stp (stp_gv hF (wanted_none rfl) rfl rfl (gv_move rfl (hF.t rfl)) fun a hF => ?_)
  refine wpList_stp (stp_call hF (wanted_none rfl) rfl rfl Tryd.ok90 rfl (Evs.cons (hF.t rfl) (Evs.cons (ev_const _ _) Evs.nil)) (ctake_all (k := 4) hB hc hbl hR) fun e w h => ?_)
  obtain ⟨v, rfl, hR, hv⟩ := h
  rw [hn] at hv
  obtain ⟨zs, hzs⟩ := takeR_snd hn
  rw [hzs] at hR
  obtain ⟨i, hi, hzi, hS⟩ := hR
  simp only [Option.getD_some] at hv
  have hyl := takeR_len hn
  obtain ⟨A1, c1, rfl, _, _, hcell⟩ := (hv w _ hS (nw_cons rfl hT) (fun e he => List.mem_cons_of_mem _ he)).isB
  obtain ⟨b1, o1, rfl, _⟩ := hcell (by omega)
  refine ⟨_, rfl, fun a hF => ?_⟩
  clear hcell
  refine wpList_stp (stp_gv hF (wanted_none rfl) rfl rfl (gv_assign rfl (hF.t rfl)) fun a hF => ?_)
  refine wpList_nil ?_
  refine then_normal (hKq2 _ _ ?_)
  refine wp_seq_k fun Kq3 hKq3 => ?_
  refine wp_seq_k fun Kq4 hKq4 => ?_
  -- region 2 (ref.go:75)
  refine wp_region_lit ?_
  refine wpList_stp (stp_gv hF (wanted_none rfl) rfl rfl (gv_move rfl (hF.t rfl)) fun a hF => ?_)
  refine wpList_stp (stp_gv hF (wanted_none rfl) rfl rfl (gv_nilCheck rfl (hF.t rfl)) fun a hF => ?_)
  refine wpList_stp (stp_gv hF (wanted_none rfl) rfl rfl (gv_field (r := 2) rfl Tryd.underlying143 rfl rfl Tryd.sz4 (by decide) (hF.t rfl)) fun a hF => ?_)
  refine wpList_stp (stp_gv hF (wanted_none rfl) rfl rfl (gv_load rfl Tryd.underlying4 rfl (hF.t rfl) (cell_ix (j := 2) (hS.cell (k := 0) rfl (rfl)) (by omega))) fun a hF => ?_)
  refine wpList_nil ?_
  refine then_normal (hKq4 _ _ ?_)
  refine wp_cond_false (hF.t rfl) ?_
  refine wp_skip ?_
  refine then_normal (hKq3 _ _ ?_)
  refine wp_seq_k fun Kq5 hKq5 => ?_
  have hy0 := (ys.getD 0 0).toNat_lt
  have hy1 := (ys.getD 1 0).toNat_lt
  have hy2 := (ys.getD 2 0).toNat_lt
  have hy3 := (ys.getD 3 0).toNat_lt
  -- region 4 (ref.go:78)
  refine Fw.wp_region_draw (by kernel_rfl) fun w hx => ?_
  replace hS := hS.ext hx
  clear hx
  refine run_head0 (n := 23) _ hF (by kernel_rfl) rfl ?_
  refine dw_gv hF rfl (wanted_none rfl) rfl rfl (fun w hx => gv_move rfl (hF.t rfl)) fun a hF => ?_
  refine dw_gv hF rfl (wanted_none rfl) rfl rfl (fun w hx => gv_indexSl (q := 0) rfl Tryd.underlying22 Tryd.sz5 (hF.t rfl) rfl (by omega)) fun a hF => ?_
  refine dw_gv hF rfl (wanted_none rfl) rfl rfl (fun w hx => gv_load rfl Tryd.underlying5 rfl (hF.t rfl) (cell_ix ((hv _ _ (hS.ext hx) (nw_cons rfl hT) (fun e he => List.mem_cons_of_mem _ he)).cellB 0 (by omega)) (by omega))) fun a hF => ?_
  refine dw_gv hF rfl (wanted_none rfl) rfl rfl (fun w hx => gv_conv_b_i rfl Tryd.underlying5 Tryd.underlying3 (hF.t rfl)) fun a hF => ?_
  refine dw_gv hF rfl (wanted_none rfl) rfl rfl (fun w hx => gv_nmul (n := 16777216) rfl (hF.t rfl) rfl (by omega)) fun a hF => ?_
  refine dw_gv hF rfl (wanted_none rfl) rfl rfl (fun w hx => gv_move rfl (hF.t rfl)) fun a hF => ?_
  refine dw_gv hF rfl (wanted_none rfl) rfl rfl (fun w hx => gv_indexSl (q := 1) rfl Tryd.underlying22 Tryd.sz5 (hF.t rfl) rfl (by omega)) fun a hF => ?_
  refine dw_gv hF rfl (wanted_none rfl) rfl rfl (fun w hx => gv_load rfl Tryd.underlying5 rfl (hF.t rfl) (cell_ix ((hv _ _ (hS.ext hx) (nw_cons rfl hT) (fun e he => List.mem_cons_of_mem _ he)).cellB 1 (by omega)) (by omega))) fun a hF => ?_
  refine dw_gv hF rfl (wanted_none rfl) rfl rfl (fun w hx => gv_conv_b_i rfl Tryd.underlying5 Tryd.underlying3 (hF.t rfl)) fun a hF => ?_
  refine dw_gv hF rfl (wanted_none rfl) rfl rfl (fun w hx => gv_nmul (n := 65536) rfl (hF.t rfl) rfl (by omega)) fun a hF => ?_
  refine dw_gv hF rfl (wanted_none rfl) rfl rfl (fun w hx => gv_nadd rfl (hF.t rfl) (hF.t rfl) (by omega)) fun a hF => ?_
  refine dw_gv hF rfl (wanted_none rfl) rfl rfl (fun w hx => gv_move rfl (hF.t rfl)) fun a hF => ?_
  refine dw_gv hF rfl (wanted_none rfl) rfl rfl (fun w hx => gv_indexSl (q := 2) rfl Tryd.underlying22 Tryd.sz5 (hF.t rfl) rfl (by omega)) fun a hF => ?_
  refine dw_gv hF rfl (wanted_none rfl) rfl rfl (fun w hx => gv_load rfl Tryd.underlying5 rfl (hF.t rfl) (cell_ix ((hv _ _ (hS.ext hx) (nw_cons rfl hT) (fun e he => List.mem_cons_of_mem _ he)).cellB 2 (by omega)) (by omega))) fun a hF => ?_
  refine dw_gv hF rfl (wanted_none rfl) rfl rfl (fun w hx => gv_conv_b_i rfl Tryd.underlying5 Tryd.underlying3 (hF.t rfl)) fun a hF => ?_
  refine dw_gv hF rfl (wanted_none rfl) rfl rfl (fun w hx => gv_nmul (n := 256) rfl (hF.t rfl) rfl (by omega)) fun a hF => ?_
  refine dw_gv hF rfl (wanted_none rfl) rfl rfl (fun w hx => gv_nadd rfl (hF.t rfl) (hF.t rfl) (by omega)) fun a hF => ?_
  refine dw_gv hF rfl (wanted_none rfl) rfl rfl (fun w hx => gv_move rfl (hF.t rfl)) fun a hF => ?_
  refine dw_gv hF rfl (wanted_none rfl) rfl rfl (fun w hx => gv_indexSl (q := 3) rfl Tryd.underlying22 Tryd.sz5 (hF.t rfl) rfl (by omega)) fun a hF => ?_
  refine dw_gv hF rfl (wanted_none rfl) rfl rfl (fun w hx => gv_load rfl Tryd.underlying5 rfl (hF.t rfl) (cell_ix ((hv _ _ (hS.ext hx) (nw_cons rfl hT) (fun e he => List.mem_cons_of_mem _ he)).cellB 3 (by omega)) (by omega))) fun a hF => ?_
  refine dw_gv hF rfl (wanted_none rfl) rfl rfl (fun w hx => gv_conv_b_i rfl Tryd.underlying5 Tryd.underlying3 (hF.t rfl)) fun a hF => ?_
  refine dw_gv hF rfl (wanted_none rfl) rfl rfl (fun w hx => gv_nadd rfl (hF.t rfl) (hF.t rfl) (by omega)) fun a hF => ?_
  refine dw_gv hF rfl (wanted_none rfl) rfl rfl (fun w hx => gv_assign rfl (hF.t rfl)) fun a hF => ?_
  refine dw_nil fun a w hA hx => ?_
  replace hF := hA _ hF
  replace hS := hS.ext hx
  clear hA hx
  refine run_done (by decide) ?_
  refine then_normal (hKq5 _ _ ?_)
  refine wp_ret ?_
  refine ret1 (fn := Tryd.f74) (t := 2) hF rfl rfl ?_
  rw [u32A_nat, hzs]
  exact ⟨rfl, i, hi, hzi, hS⟩


theorem cu32_all {w00 w : World} {T : List Ent} {c cc : Nat} {A : Option Addr} {bl : List UInt8} {s : RSt} (hT : ∀ e ∈ T, e.nw = true) (hB : SRd w00 T (.slice A bl.length cc) (bl.map vB)) (hc : bl.length ≤ cc) (hbl : bl.length ≤ 1152921504606846976) (hR : CurR w00 T c (.slice A bl.length cc) bl s w) :
    Calls Tryd.prog 74 #[.pointer (some ⟨c, 0, none⟩)] w fun e w' => e = .returned (vI (u32R s).1.toNat) ∧ CurR w00 T c (.slice A bl.length cc) bl (u32R s).2 w' := by
  cases hn : (takeR 4 s).1 with
  | none => refine (cu32_none hT hB hc hbl hR hn).mono fun e w' ⟨he, h⟩ => ⟨by rw [u32R_none' hn]; exact he, by rw [u32R_snd, takeR_none hn]; exact h⟩
  | some ys => refine (cu32_some hT hB hc hbl hR hn).mono fun e w' ⟨he, h⟩ => ⟨by rw [u32R_some hn]; exact he, by rw [u32R_snd]; exact h⟩


theorem cbyte_none {w00 w : World} {T : List Ent} {c cc : Nat} {A : Option Addr} {bl : List UInt8} {s : RSt} (hT : ∀ e ∈ T, e.nw = true) (hB : SRd w00 T (.slice A bl.length cc) (bl.map vB)) (hc : bl.length ≤ cc) (hbl : bl.length ≤ 1152921504606846976) (hR : CurR w00 T c (.slice A bl.length cc) bl s w) (hn : (takeR 1 s).1 = none) :
    Calls Tryd.prog 81 #[.pointer (some ⟨c, 0, none⟩)] w fun e w' => e = .returned (vI 0) ∧ CurR w00 T c (.slice A bl.length cc) bl none w' := by
  refine calls_start 14 Tryd.func81 rfl Tryd.ntmps81 rfl fun a hF => ?_
  refine wp_seq_k fun Kq1 hKq1 => ?_
  -- region 0 (ref.go:64)
  refine wp_region_lit ?_
  refine wpList_stp (stp_gv hF (wanted_none rfl) rfl rfl (gv_assign rfl (ev_const _ _)) fun a hF => ?_)
  refine wpList_nil ?_
  refine then_normal (hKq1 _ _ ?_)
  refine wp_seq_k fun Kq2 hKq2 => ?_
  -- region 1 (ref.go:65)
  refine wp_region_lit ?_
  refine wpList_stp (stp_gv hF (wanted_none rfl) rfl rfl (gv_move rfl (hF.t rfl)) fun a hF => ?_)
  refine wpList_stp (stp_call hF (wanted_none rfl) rfl rfl Tryd.ok90 rfl (Evs.cons (hF.t rfl) (Evs.cons (ev_const _ _) Evs.nil)) (ctake_all (k := 1) hB hc hbl hR) fun e w h => ?_)
  obtain ⟨v, rfl, hR, hv⟩ := h
  rw [hn] at hv
  replace hR : CurR w00 T c (.slice A bl.length cc) bl none w := by rw [takeR_none hn] at hR; exact hR
  obtain ⟨i, hS⟩ := hR
  refine ⟨_, rfl, fun a hF => ?_⟩
  refine wpList_stp (stp_gv hF (wanted_none rfl) rfl rfl (gv_assign rfl (hF.t rfl)) fun a hF => ?_)
  refine wpList_nil ?_
  refine then_normal (hKq2 _ _ ?_)
  refine wp_seq_k fun Kq3 hKq3 => ?_
  refine wp_seq_k fun Kq4 hKq4 => ?_
  -- region 2 (ref.go:66)
  refine wp_region_lit ?_
  refine wpList_stp (stp_gv hF (wanted_none rfl) rfl rfl (gv_move rfl (hF.t rfl)) fun a hF => ?_)
  refine wpList_stp (stp_gv hF (wanted_none rfl) rfl rfl (gv_nilCheck rfl (hF.t rfl)) fun a hF => ?_)
  refine wpList_stp (stp_gv hF (wanted_none rfl) rfl rfl (gv_field (r := 2) rfl Tryd.underlying143 rfl rfl Tryd.sz4 (by decide) (hF.t rfl)) fun a hF => ?_)
  refine wpList_stp (stp_gv hF (wanted_none rfl) rfl rfl (gv_load rfl Tryd.underlying4 rfl (hF.t rfl) (cell_ix (j := 2) (hS.cell (k := 0) rfl (rfl)) (by omega))) fun a hF => ?_)
  refine wpList_nil ?_
  refine then_normal (hKq4 _ _ ?_)
  refine wp_cond_true (hF.t rfl) ?_
  refine wp_seq_k fun Kq5 hKq5 => ?_
  -- region 3 (ref.go:67)
  refine wp_region_lit ?_
  refine wpList_stp (stp_gv hF (wanted_none rfl) rfl rfl (gv_assign rfl (ev_const _ _)) fun a hF => ?_)
  refine wpList_nil ?_
  refine then_normal (hKq5 _ _ ?_)
  refine wp_ret ?_
  refine then_ret ?_
  refine ret1 (fn := Tryd.f81) (t := 2) hF rfl rfl ?_
  exact ⟨rfl, i, hS⟩

theorem cbyte_some {w00 w : World} {T : List Ent} {c cc : Nat} {A : Option Addr} {bl : List UInt8} {s : RSt} (hT : ∀ e ∈ T, e.nw = true) (hB : SRd w00 T (.slice A bl.length cc) (bl.map vB)) (hc : bl.length ≤ cc) (hbl : bl.length ≤ 1152921504606846976) (hR : CurR w00 T c (.slice A bl.length cc) bl s w) {ys : List UInt8} (hn : (takeR 1 s).1 = some ys) :
    Calls Tryd.prog 81 #[.pointer (some ⟨c, 0, none⟩)] w fun e w' => e = .returned (vI (ys.getD 0 0).toNat) ∧ CurR w00 T c (.slice A bl.length cc) bl (takeR 1 s).2 w' := by
  refine calls_start 14 Tryd.func81 rfl Tryd.ntmps81 rfl fun a hF => ?_
  refine wp_seq_k fun Kq1 hKq1 => ?_
  -- region 0 (ref.go:64)
  refine wp_region_lit ?_
  refine wpList_stp (stp_gv hF (wanted_none rfl) rfl rfl (gv_assign rfl (ev_const _ _)) fun a hF => ?_)
  refine wpList_nil ?_
  refine then_normal (hKq1 _ _ ?_)
  refine wp_seq_k fun Kq2 hKq2 => ?_
  -- region 1 (ref.go:65)
  refine wp_region_lit ?_
  refine wpList_stp (stp_gv hF (wanted_none rfl) rfl rfl (gv_move rfl (hF.t rfl)) fun a hF => ?_)
  refine wpList_stp (stp_call hF (wanted_none rfl) rfl rfl Tryd.ok90 rfl (Evs.cons (hF.t rfl) (Evs.cons (ev_const _ _) Evs.nil)) (ctake_all (k := 1) hB hc hbl hR) fun e w h => ?_)
  obtain ⟨v, rfl, hR, hv⟩ := h
  rw [hn] at hv
  obtain ⟨zs, hzs⟩ := takeR_snd hn
  rw [hzs] at hR
  obtain ⟨i, hi, hzi, hS⟩ := hR
  simp only [Option.getD_some] at hv
  have hyl := takeR_len hn
  obtain ⟨A1, c1, rfl, _, _, hcell⟩ := (hv w _ hS (nw_cons rfl hT) (fun e he => List.mem_cons_of_mem _ he)).isB
  obtain ⟨b1, o1, rfl, _⟩ := hcell (by omega)
  refine ⟨_, rfl, fun a hF => ?_⟩
  clear hcell
  refine wpList_stp (stp_gv hF (wanted_none rfl) rfl rfl (gv_assign rfl (hF.t rfl)) fun a hF => ?_)
  refine wpList_nil ?_
  refine then_normal (hKq2 _ _ ?_)
  refine wp_seq_k fun Kq3 hKq3 => ?_
  refine wp_seq_k fun Kq4 hKq4 => ?_
  -- region 2 (ref.go:66)
  refine wp_region_lit ?_
  refine wpList_stp (stp_gv hF (wanted_none rfl) rfl rfl (gv_move rfl (hF.t rfl)) fun a hF => ?_)
  refine wpList_stp (stp_gv hF (wanted_none rfl) rfl rfl (gv_nilCheck rfl (hF.t rfl)) fun a hF => ?_)
  refine wpList_stp (stp_gv hF (wanted_none rfl) rfl rfl (gv_field (r := 2) rfl Tryd.underlying143 rfl rfl Tryd.sz4 (by decide) (hF.t rfl)) fun a hF => ?_)
  refine wpList_stp (stp_gv hF (wanted_none rfl) rfl rfl (gv_load rfl Tryd.underlying4 rfl (hF.t rfl) (cell_ix (j := 2) (hS.cell (k := 0) rfl (rfl)) (by omega))) fun a hF => ?_)
  refine wpList_nil ?_
  refine then_normal (hKq4 _ _ ?_)
  refine wp_cond_false (hF.t rfl) ?_
  refine wp_skip ?_
  refine then_normal (hKq3 _ _ ?_)
  refine wp_seq_k fun Kq5 hKq5 => ?_
  -- region 4 (ref.go:69)
  refine wp_region_lit ?_
  refine wpList_stp (stp_gv hF (wanted_none rfl) rfl rfl (gv_move rfl (hF.t rfl)) fun a hF => ?_)
  refine wpList_stp (stp_gv hF (wanted_none rfl) rfl rfl (gv_indexSl (q := 0) rfl Tryd.underlying22 Tryd.sz5 (hF.t rfl) rfl (by omega)) fun a hF => ?_)
  refine wpList_stp (stp_gv hF (wanted_none rfl) rfl rfl (gv_load rfl Tryd.underlying5 rfl (hF.t rfl) (cell_ix ((hv _ _ hS (nw_cons rfl hT) (fun e he => List.mem_cons_of_mem _ he)).cellB 0 (by omega)) (by omega))) fun a hF => ?_)
  refine wpList_stp (stp_gv hF (wanted_none rfl) rfl rfl (gv_conv_b_i rfl Tryd.underlying5 Tryd.underlying3 (hF.t rfl)) fun a hF => ?_)
  refine wpList_stp (stp_gv hF (wanted_none rfl) rfl rfl (gv_assign rfl (hF.t rfl)) fun a hF => ?_)
  refine wpList_nil ?_
  refine then_normal (hKq5 _ _ ?_)
  refine wp_ret ?_
  refine ret1 (fn := Tryd.f81) (t := 2) hF rfl rfl ?_
  rw [hzs]
  exact ⟨rfl, i, hi, hzi, hS⟩


theorem cbyte_all {w00 w : World} {T : List Ent} {c cc : Nat} {A : Option Addr} {bl : List UInt8} {s : RSt} (hT : ∀ e ∈ T, e.nw = true) (hB : SRd w00 T (.slice A bl.length cc) (bl.map vB)) (hc : bl.length ≤ cc) (hbl : bl.length ≤ 1152921504606846976) (hR : CurR w00 T c (.slice A bl.length cc) bl s w) :
    Calls Tryd.prog 81 #[.pointer (some ⟨c, 0, none⟩)] w fun e w' => e = .returned (vI (byteR s).1.toNat) ∧ CurR w00 T c (.slice A bl.length cc) bl (byteR s).2 w' := by
  cases hn : (takeR 1 s).1 with
  | none => refine (cbyte_none hT hB hc hbl hR hn).mono fun e w' ⟨he, h⟩ => ⟨by rw [byteR_none hn]; exact he, by rw [byteR_snd, takeR_none hn]; exact h⟩
  | some ys => refine (cbyte_some hT hB hc hbl hR hn).mono fun e w' ⟨he, h⟩ => ⟨by rw [byteR_some hn]; exact he, by rw [byteR_snd]; exact h⟩


theorem ctext_all {w00 w : World} {T : List Ent} {c cc : Nat} {A : Option Addr} {bl : List UInt8} {s : RSt} (hT : ∀ e ∈ T, e.nw = true) (hB : SRd w00 T (.slice A bl.length cc) (bl.map vB)) (hc : bl.length ≤ cc) (hbl : bl.length ≤ 1152921504606846976) (hR : CurR w00 T c (.slice A bl.length cc) bl s w) :
    Calls Tryd.prog 80 #[.pointer (some ⟨c, 0, none⟩)] w fun e w' => e = .returned (sV (textR s).1) ∧ CurR w00 T c (.slice A bl.length cc) bl (textR s).2 w' := by
  refine calls_start 15 Tryd.func80 rfl Tryd.ntmps80 rfl fun a hF => ?_
  refine wp_seq_k fun Kq1 hKq1 => ?_
  -- region 0 (ref.go:82)
  refine wp_region_lit ?_
  refine wpList_stp (stp_gv hF (wanted_none rfl) rfl rfl (gv_assign rfl (ev_const _ _)) fun a hF => ?_)
  refine wpList_nil ?_
  refine then_normal (hKq1 _ _ ?_)
  refine wp_seq_k fun Kq2 hKq2 => ?_
  -- region 1 (ref.go:83)
  refine wp_region_lit ?_
  refine wpList_stp (stp_gv hF (wanted_none rfl) rfl rfl (gv_move rfl (hF.t rfl)) fun a hF => ?_)
  refine wpList_stp (stp_call hF (wanted_none rfl) rfl rfl Tryd.ok74 rfl (Evs.cons (hF.t rfl) Evs.nil) (cu32_all hT hB hc hbl hR) fun e w h => ?_)
  obtain ⟨rfl, hR⟩ := h
  refine ⟨_, rfl, fun a hF => ?_⟩
  refine wpList_stp (stp_gv hF (wanted_none rfl) rfl rfl (gv_assign rfl (hF.t rfl)) fun a hF => ?_)
  refine wpList_nil ?_
  refine then_normal (hKq2 _ _ ?_)
  refine wp_seq_k fun Kq3 hKq3 => ?_
  refine wp_seq_k fun Kq4 hKq4 => ?_
  -- region 2 (ref.go:84)
  refine wp_region_lit ?_
  refine wpList_stp (stp_gv hF (wanted_none rfl) rfl rfl (gv_move rfl (hF.t rfl)) fun a hF => ?_)
  refine wpList_stp (stp_gv hF (wanted_none rfl) rfl rfl (gv_gtr rfl (hF.t rfl) (ev_const _ _)) fun a hF => ?_)
  refine wpList_nil ?_
  refine then_normal (hKq4 _ _ ?_)
  refine cond_dec (hF.t rfl) (fun h7 => ?_) (fun h7 => ?_)
  ·
    obtain ⟨i, bad, hS⟩ := hR.st
    clear hR
    -- region 3 (ref.go:85)
    refine wp_region_lit ?_
    refine wpList_stp (stp_gv hF (wanted_none rfl) rfl rfl (gv_move rfl (hF.t rfl)) fun a hF => ?_)
    refine wpList_stp (stp_gv hF (wanted_none rfl) rfl rfl (gv_nilCheck rfl (hF.t rfl)) fun a hF => ?_)
    refine wpList_stp (stp_gv hF (wanted_none rfl) rfl rfl (gv_field (r := 2) rfl Tryd.underlying143 rfl rfl Tryd.sz4 (by decide) (hF.t rfl)) fun a hF => ?_)
    refine wpList_stp (stp_storeAt (2) hF (wanted_none rfl) rfl rfl Tryd.sz4 (hF.t rfl) (by omega) (ev_const _ _) rfl hS (k := 0) rfl (by simp) fun w hS => ?_)
    refine wpList_nil ?_
    have hR : CurR w00 T c (.slice A bl.length cc) bl none w := ⟨i, hS⟩
    refine then_normal (hKq3 _ _ ?_)
    refine wp_seq_k fun Kq5 hKq5 => ?_
    -- region 4 (ref.go:87)
    refine wp_region_lit ?_
    refine wpList_stp (stp_gv hF (wanted_none rfl) rfl rfl (gv_move rfl (hF.t rfl)) fun a hF => ?_)
    refine wpList_stp (stp_gv hF (wanted_none rfl) rfl rfl (gv_move rfl (hF.t rfl)) fun a hF => ?_)
    refine wpList_stp (stp_call hF (wanted_none rfl) rfl rfl Tryd.ok90 rfl (Evs.cons (hF.t rfl) (Evs.cons (hF.t rfl) Evs.nil)) (ctake_all (k := (u32R s).1.toNat) hB hc hbl hR) fun e w h => ?_)
    obtain ⟨v, rfl, hR, hv⟩ := h
    refine ⟨_, rfl, fun a hF => ?_⟩
    obtain ⟨ix, bx, hSx⟩ := hR.st
    refine wpList_stp (stp_gv hF (wanted_none rfl) rfl rfl (gv_convStr rfl Tryd.underlying22 Tryd.underlying5 Tryd.underlying9 (hF.t rfl) (hv w _ hSx (nw_cons rfl hT) (fun e he => List.mem_cons_of_mem _ he))) fun a hF => ?_)
    refine wpList_stp (stp_gv hF (wanted_none rfl) rfl rfl (gv_assign rfl (hF.t rfl)) fun a hF => ?_)
    refine wpList_nil ?_
    refine then_normal (hKq5 _ _ ?_)
    refine wp_ret ?_
    refine ret1 (fn := Tryd.f80) (t := 2) hF rfl rfl ?_
    rw [textR, if_pos (by omega)]
    exact ⟨rfl, hR⟩
  ·
    refine wp_skip ?_
    refine then_normal (hKq3 _ _ ?_)
    refine wp_seq_k fun Kq6 hKq6 => ?_
    -- region 4 (ref.go:87)
    refine wp_region_lit ?_
    refine wpList_stp (stp_gv hF (wanted_none rfl) rfl rfl (gv_move rfl (hF.t rfl)) fun a hF => ?_)
    refine wpList_stp (stp_gv hF (wanted_none rfl) rfl rfl (gv_move rfl (hF.t rfl)) fun a hF => ?_)
    refine wpList_stp (stp_call hF (wanted_none rfl) rfl rfl Tryd.ok90 rfl (Evs.cons (hF.t rfl) (Evs.cons (hF.t rfl) Evs.nil)) (ctake_all (k := (u32R s).1.toNat) hB hc hbl hR) fun e w h => ?_)
    obtain ⟨v, rfl, hR, hv⟩ := h
    refine ⟨_, rfl, fun a hF => ?_⟩
    obtain ⟨ix, bx, hSx⟩ := hR.st
    refine wpList_stp (stp_gv hF (wanted_none rfl) rfl rfl (gv_convStr rfl Tryd.underlying22 Tryd.underlying5 Tryd.underlying9 (hF.t rfl) (hv w _ hSx (nw_cons rfl hT) (fun e he => List.mem_cons_of_mem _ he))) fun a hF => ?_)
    refine wpList_stp (stp_gv hF (wanted_none rfl) rfl rfl (gv_assign rfl (hF.t rfl)) fun a hF => ?_)
    refine wpList_nil ?_
    refine then_normal (hKq6 _ _ ?_)
    refine wp_ret ?_
    refine ret1 (fn := Tryd.f80) (t := 2) hF rfl rfl ?_
    rw [textR, if_neg (by omega)]
    exact ⟨rfl, hR⟩

theorem cend_bad {c : Nat} {w0 : World} (h2 : w0.cell? ⟨c, 2, none⟩ = some (.bool true)) :
    Calls Tryd.prog 82 #[.pointer (some ⟨c, 0, none⟩)] w0 fun e w' => e = .returned (.bool false) ∧ Ext w0 w' := by
  refine calls_start 20 Tryd.func82 rfl Tryd.ntmps82 rfl fun a hF => ?_
  have hS := St.refl w0
  refine wp_seq_k fun Kq1 hKq1 => ?_
  -- region 0 (ref.go:128)
  refine wp_region_lit ?_
  refine wpList_stp (stp_gv hF (wanted_none rfl) rfl rfl (gv_assign rfl (ev_const _ _)) fun a hF => ?_)
  refine wpList_nil ?_
  refine then_normal (hKq1 _ _ ?_)
  refine wp_seq_k fun Kq2 hKq2 => ?_
  -- region 1 (ref.go:128)
  refine Fw.wp_region_draw (by kernel_rfl) fun w hx => ?_
  replace hS := hS.ext hx
  clear hx
  refine run_head0 (n := 18) _ hF (by kernel_rfl) rfl ?_
  refine dw_gv hF rfl (wanted_none rfl) rfl rfl (fun w hx => gv_move rfl (hF.t rfl)) fun a hF => ?_
  refine dw_gv hF rfl (wanted_none rfl) rfl rfl (fun w hx => gv_nilCheck rfl (hF.t rfl)) fun a hF => ?_
  refine dw_gv hF rfl (wanted_none rfl) rfl rfl (fun w hx => gv_field (r := 2) rfl Tryd.underlying143 rfl rfl Tryd.sz4 (by decide) (hF.t rfl)) fun a hF => ?_
  refine dw_gv hF rfl (wanted_none rfl) rfl rfl (fun w hx => gv_load rfl Tryd.underlying4 rfl (hF.t rfl) (cell_ix (cell_ext h2 ((hS.ext hx).toExt nw_nil)) (by omega))) fun a hF => ?_
  refine dw_gv hF rfl (wanted_none rfl) rfl rfl (fun w hx => gv_not rfl (hF.t rfl)) fun a hF => ?_
  refine dw_gv hF rfl (wanted_none rfl) rfl rfl (fun w hx => gv_move rfl (hF.t rfl)) fun a hF => ?_
  refine dw_skip hF rfl (unwanted_of hF rfl rfl (rfl) rfl) rfl rfl fun a hF => ?_
  refine dw_skip hF rfl (unwanted_of hF rfl rfl (rfl) rfl) rfl rfl fun a hF => ?_
  refine dw_skip hF rfl (unwanted_of hF rfl rfl (rfl) rfl) rfl rfl fun a hF => ?_
  refine dw_skip hF rfl (unwanted_of hF rfl rfl (rfl) rfl) rfl rfl fun a hF => ?_
  refine dw_skip hF rfl (unwanted_of hF rfl rfl (rfl) rfl) rfl rfl fun a hF => ?_
  refine dw_skip hF rfl (unwanted_of hF rfl rfl (rfl) rfl) rfl rfl fun a hF => ?_
  refine dw_skip hF rfl (unwanted_of hF rfl rfl (rfl) rfl) rfl rfl fun a hF => ?_
  refine dw_skip hF rfl (unwanted_of hF rfl rfl (rfl) rfl) rfl rfl fun a hF => ?_
  refine dw_skip hF rfl (unwanted_of hF rfl rfl (rfl) rfl) rfl rfl fun a hF => ?_
  refine dw_skip hF rfl (unwanted_of hF rfl rfl (rfl) rfl) rfl rfl fun a hF => ?_
  refine dw_gv hF rfl (wanted_none rfl) rfl rfl (fun w hx => gv_pickF rfl (hF.t rfl) (ev_const _ _)) fun a hF => ?_
  refine dw_gv hF rfl (wanted_none rfl) rfl rfl (fun w hx => gv_assign rfl (hF.t rfl)) fun a hF => ?_
  refine dw_nil fun a w hA hx => ?_
  replace hF := hA _ hF
  replace hS := hS.ext hx
  clear hA hx
  refine run_done (by decide) ?_
  refine then_normal (hKq2 _ _ ?_)
  refine wp_ret ?_
  refine ret1 (fn := Tryd.f82) (t := 2) hF rfl rfl ?_
  exact ⟨rfl, hS.toExt nw_nil⟩

theorem cend_good {c i n cc : Nat} {A : Option Addr} {w0 : World} (h0 : w0.cell? ⟨c, 0, none⟩ = some (.slice A n cc)) (h1 : w0.cell? ⟨c, 1, none⟩ = some (vI i)) (h2 : w0.cell? ⟨c, 2, none⟩ = some (.bool false)) :
    Calls Tryd.prog 82 #[.pointer (some ⟨c, 0, none⟩)] w0 fun e w' => e = .returned (.bool (decide (i = n))) ∧ Ext w0 w' := by
  refine calls_start 20 Tryd.func82 rfl Tryd.ntmps82 rfl fun a hF => ?_
  have hS := St.refl w0
  refine wp_seq_k fun Kq1 hKq1 => ?_
  -- region 0 (ref.go:128)
  refine wp_region_lit ?_
  refine wpList_stp (stp_gv hF (wanted_none rfl) rfl rfl (gv_assign rfl (ev_const _ _)) fun a hF => ?_)
  refine wpList_nil ?_
  refine then_normal (hKq1 _ _ ?_)
  refine wp_seq_k fun Kq2 hKq2 => ?_
  -- region 1 (ref.go:128)
  refine Fw.wp_region_draw (by kernel_rfl) fun w hx => ?_
  replace hS := hS.ext hx
  clear hx
  refine run_head0 (n := 18) _ hF (by kernel_rfl) rfl ?_
  refine dw_gv hF rfl (wanted_none rfl) rfl rfl (fun w hx => gv_move rfl (hF.t rfl)) fun a hF => ?_
  refine dw_gv hF rfl (wanted_none rfl) rfl rfl (fun w hx => gv_nilCheck rfl (hF.t rfl)) fun a hF => ?_
  refine dw_gv hF rfl (wanted_none rfl) rfl rfl (fun w hx => gv_field (r := 2) rfl Tryd.underlying143 rfl rfl Tryd.sz4 (by decide) (hF.t rfl)) fun a hF => ?_
  refine dw_gv hF rfl (wanted_none rfl) rfl rfl (fun w hx => gv_load rfl Tryd.underlying4 rfl (hF.t rfl) (cell_ix (cell_ext h2 ((hS.ext hx).toExt nw_nil)) (by omega))) fun a hF => ?_
  refine dw_gv hF rfl (wanted_none rfl) rfl rfl (fun w hx => gv_not rfl (hF.t rfl)) fun a hF => ?_
  refine dw_gv hF rfl (wanted_none rfl) rfl rfl (fun w hx => gv_move rfl (hF.t rfl)) fun a hF => ?_
  refine dw_gv hF rfl (wanted_of hF rfl rfl (rfl)) rfl rfl (fun w hx => gv_move rfl (hF.t rfl)) fun a hF => ?_
  refine dw_gv hF rfl (wanted_of hF rfl rfl (rfl)) rfl rfl (fun w hx => gv_nilCheck rfl (hF.t rfl)) fun a hF => ?_
  refine dw_gv hF rfl (wanted_of hF rfl rfl (rfl)) rfl rfl (fun w hx => gv_field (r := 1) rfl Tryd.underlying143 rfl rfl Tryd.sz3 (by decide) (hF.t rfl)) fun a hF => ?_
  refine dw_gv hF rfl (wanted_of hF rfl rfl (rfl)) rfl rfl (fun w hx => gv_load rfl Tryd.underlying3 rfl (hF.t rfl) (cell_ix (cell_ext h1 ((hS.ext hx).toExt nw_nil)) (by omega))) fun a hF => ?_
  refine dw_gv hF rfl (wanted_of hF rfl rfl (rfl)) rfl rfl (fun w hx => gv_move rfl (hF.t rfl)) fun a hF => ?_
  refine dw_gv hF rfl (wanted_of hF rfl rfl (rfl)) rfl rfl (fun w hx => gv_nilCheck rfl (hF.t rfl)) fun a hF => ?_
  refine dw_gv hF rfl (wanted_of hF rfl rfl (rfl)) rfl rfl (fun w hx => gv_field (r := 0) rfl Tryd.underlying143 rfl rfl Tryd.sz22 (by decide) (hF.t rfl)) fun a hF => ?_
  refine dw_gv hF rfl (wanted_of hF rfl rfl (rfl)) rfl rfl (fun w hx => gv_load rfl Tryd.underlying22 rfl (hF.t rfl) (cell_ix (cell_ext h0 ((hS.ext hx).toExt nw_nil)) (by omega))) fun a hF => ?_
  refine dw_gv hF rfl (wanted_of hF rfl rfl (rfl)) rfl rfl (fun w hx => gv_len rfl Tryd.underlying22 (hF.t rfl)) fun a hF => ?_
  refine dw_gv hF rfl (wanted_of hF rfl rfl (rfl)) rfl rfl (fun w hx => gv_eql rfl (hF.t rfl) (hF.t rfl)) fun a hF => ?_
  refine dw_gv hF rfl (wanted_none rfl) rfl rfl (fun w hx => gv_pickT rfl (hF.t rfl) (hF.t rfl)) fun a hF => ?_
  refine dw_gv hF rfl (wanted_none rfl) rfl rfl (fun w hx => gv_assign rfl (hF.t rfl)) fun a hF => ?_
  refine dw_nil fun a w hA hx => ?_
  replace hF := hA _ hF
  replace hS := hS.ext hx
  clear hA hx
  refine run_done (by decide) ?_
  refine then_normal (hKq2 _ _ ?_)
  refine wp_ret ?_
  refine ret1 (fn := Tryd.f82) (t := 2) hF rfl rfl ?_
  refine ⟨?_, hS.toExt nw_nil⟩
  congr 2
  exact decide_eq_decide.2 ⟨fun h => by omega, fun h => by omega⟩


theorem cend_all {w00 w : World} {T : List Ent} {c cc : Nat} {A : Option Addr} {bl : List UInt8} {s : RSt} (h : CurR w00 T c (.slice A bl.length cc) bl s w) : Calls Tryd.prog 82 #[.pointer (some ⟨c, 0, none⟩)] w fun e w' => e = .returned (.bool (decide (s = some []))) ∧ Ext w w' := by
  cases s with
  | none =>
    obtain ⟨i, hS⟩ := h
    refine (cend_bad (hS.cell (k := 0) (i := 2) rfl rfl)).mono fun e w' ⟨he, hx⟩ => ⟨?_, hx⟩
    rw [he, decide_eq_false (by simp)]
  | some xs =>
    obtain ⟨i, hi, rfl, hS⟩ := h
    refine (cend_good (hS.cell (k := 0) (i := 0) rfl rfl) (hS.cell (k := 0) (i := 1) rfl rfl) (hS.cell (k := 0) (i := 2) rfl rfl)).mono fun e w' ⟨he, hx⟩ => ⟨?_, hx⟩
    rw [he]
    congr 2
    refine decide_eq_decide.2 ⟨fun h => ?_, fun h => ?_⟩
    · rw [h, List.drop_of_length_le (Nat.le_refl _)]
    · have := congrArg List.length (Option.some.inj h)
      rw [List.length_drop, List.length_nil] at this
      omega



end Go.Proofs.YtfhalnobaeogkaaDoor
