/- What is proved: the contracts of a wire.Reader in all its states, of wire.Text and wire.Flag. -/
import Derived.Test.YtfhalnobaeogkaaDoorProg
import Derived.Test.YtfhalnobaeogkaaDoorFwSep
import Derived.KernelRfl
import Derived.Test.YtfhalnobaeogkaaDoorFwVlt
import Derived.Test.YtfhalnobaeogkaaDoorFwApp
import Derived.Test.YtfhalnobaeogkaaDoorFwWord
import Derived.Test.YtfhalnobaeogkaaDoorFwPkt
import Derived.Test.YtfhalnobaeogkaaDoorFwTok
import Derived.Test.YtfhalnobaeogkaaDoorDig
import Derived.Test.YtfhalnobaeogkaaDoorSum
import Derived.Test.YtfhalnobaeogkaaDoorWire
import Derived.Test.YtfhalnobaeogkaaDoorPktW
import Derived.Test.YtfhalnobaeogkaaDoorPktR
set_option linter.unusedVariables false
set_option linter.unusedSimpArgs false
namespace Go.Proofs.YtfhalnobaeogkaaDoor
open Go Go.RowKit Go.Fw

theorem Tryd.ok91 : CallOk Tryd.prog 91 := ⟨_, Tryd.func91, by kernel_rfl, by kernel_rfl⟩
theorem Tryd.ok92 : CallOk Tryd.prog 92 := ⟨_, Tryd.func92, by kernel_rfl, by kernel_rfl⟩


/-- What a reader has left; none: there was too little. -/
abbrev RSt := Option (List UInt8)
def takeR (k : Nat) : RSt → Option (List UInt8) × RSt
  | some xs => if k ≤ xs.length then (some (xs.take k), some (xs.drop k)) else (none, none)
  | none => (none, none)
def u32R (s : RSt) : UInt32 × RSt := match takeR 4 s with
  | (some ys, s') => (u32A ys 4, s')
  | (none, s') => (0, s')
def textR (s : RSt) : List UInt8 × RSt :=
  if 16384 < (u32R s).1.toNat then ([], none) else (((takeR (u32R s).1.toNat (u32R s).2).1.getD []), (takeR (u32R s).1.toNat (u32R s).2).2)
def byteR (s : RSt) : UInt8 × RSt := match takeR 1 s with
  | (some ys, s') => (ys.getD 0 0, s')
  | (none, s') => (0, s')
def RdrS (w00 : World) (T : List Ent) (r : Nat) : RSt → World → Prop
  | some xs, w => ∃ A c, xs.length ≤ c ∧ SRd w00 T (.slice A xs.length c) (xs.map vB) ∧ St w00 w (⟨true, some r, wrd (.slice A xs.length c) false⟩ :: T)
  | none, w => St w00 w (⟨true, some r, wrd (.slice none 0 0) true⟩ :: T)
theorem RdrS.ext {w00 w w' : World} {T : List Ent} {r : Nat} : ∀ {s : RSt}, RdrS w00 T r s w → Ext w w' → RdrS w00 T r s w'
  | some xs, ⟨A, c, h1, h2, h3⟩, hx => ⟨A, c, h1, h2, h3.ext hx⟩
  | none, h, hx => St.ext h hx
theorem RdrS.toExt {w00 w : World} {T : List Ent} {r : Nat} (hT : ∀ e ∈ T, e.nw = true) : ∀ {s : RSt}, RdrS w00 T r s w → Ext w00 w
  | some xs, ⟨A, c, h1, h2, h3⟩ => h3.toExt (nw_cons rfl hT)
  | none, h => St.toExt h (nw_cons rfl hT)
/-- The state without what is known of it. -/
theorem RdrS.st {w00 w : World} {T : List Ent} {r : Nat} : ∀ {s : RSt}, RdrS w00 T r s w → ∃ v bad, St w00 w (⟨true, some r, wrd v bad⟩ :: T)
  | some xs, ⟨A, c, h1, h2, h3⟩ => ⟨_, _, h3⟩
  | none, h => ⟨_, _, h⟩
theorem u32A_take {l : List UInt8} : ∀ i, i ≤ 4 → u32A (l.take 4) i = u32A l i
  | 0, _ => rfl
  | i + 1, h => by rw [u32A, u32A, u32A_take i (by omega), dgetD_take (by omega)]
def TakeP (w00 : World) (T : List Ent) (r k : Nat) (s : RSt) (e : Ending) (w' : World) : Prop :=
  ∃ v, e = .returned v ∧ RdrS w00 T r (takeR k s).2 w' ∧ SRd w00 T v (((takeR k s).1.getD []).map vB) ∧ ((takeR k s).1 = none → v = .slice none 0 0) ∧ (∀ ys, (takeR k s).1 = some ys → ∃ A, v = .slice A k k)


theorem take_bad {w00 w : World} {T : List Ent} {r k : Nat} (hS : St w00 w (⟨true, some r, wrd (.slice none 0 0) true⟩ :: T)) :
    Calls Tryd.prog 68 #[.pointer (some ⟨r, 0, none⟩), vI k] w fun e w' => e = .returned (.slice none 0 0) ∧ St w00 w' (⟨true, some r, wrd (.slice none 0 0) true⟩ :: T) := by
  refine calls_start 48 Tryd.func68 rfl Tryd.ntmps68 rfl fun a hF => ?_
  refine wp_seq_k fun Kq1 hKq1 => ?_
  -- region 0 (wire.go:50)
  refine wp_region_lit ?_
  refine wpList_stp (stp_gv hF (wanted_none rfl) rfl rfl (gv_assign rfl (ev_const _ _)) fun a hF => ?_)
  refine wpList_nil ?_
  refine then_normal (hKq1 _ _ ?_)
  refine wp_seq_k fun Kq2 hKq2 => ?_
  refine wp_seq_k fun Kq3 hKq3 => ?_
  -- region 1 (wire.go:51)
  refine wp_region_lit ?_
  refine wpList_stp (stp_gv hF (wanted_none rfl) rfl rfl (gv_move rfl (hF.t rfl)) fun a hF => ?_)
  refine wpList_stp (stp_gv hF (wanted_none rfl) rfl rfl (gv_eqlNil rfl Tryd.underlying98 (hF.t rfl) (ev_const _ _)) fun a hF => ?_)
  refine wpList_stp (stp_gv hF (wanted_none rfl) rfl rfl (gv_move rfl (hF.t rfl)) fun a hF => ?_)
  refine wpList_stp (stp_gv hF (wanted_of hF rfl rfl (rfl)) rfl rfl (gv_move rfl (hF.t rfl)) fun a hF => ?_)
  refine wpList_stp (stp_gv hF (wanted_of hF rfl rfl (rfl)) rfl rfl (gv_nilCheck rfl (hF.t rfl)) fun a hF => ?_)
  refine wpList_stp (stp_gv hF (wanted_of hF rfl rfl (rfl)) rfl rfl (gv_field (r := 1) rfl Tryd.underlying135 rfl rfl Tryd.sz4 (by decide) (hF.t rfl)) fun a hF => ?_)
  refine wpList_stp (stp_gv hF (wanted_of hF rfl rfl (rfl)) rfl rfl (gv_load rfl Tryd.underlying4 rfl (hF.t rfl) (cell_ix (j := 1) (hS.cell (k := 0) rfl (rfl)) (by omega))) fun a hF => ?_)
  refine wpList_stp (stp_gv hF (wanted_none rfl) rfl rfl (gv_pickF rfl (hF.t rfl) (hF.t rfl)) fun a hF => ?_)
  refine wpList_stp (stp_gv hF (wanted_none rfl) rfl rfl (gv_move rfl (hF.t rfl)) fun a hF => ?_)
  refine wpList_stp (stp_skip hF (unwanted_of hF rfl rfl (rfl) rfl) rfl rfl fun a hF => ?_)
  refine wpList_stp (stp_skip hF (unwanted_of hF rfl rfl (rfl) rfl) rfl rfl fun a hF => ?_)
  refine wpList_stp (stp_skip hF (unwanted_of hF rfl rfl (rfl) rfl) rfl rfl fun a hF => ?_)
  refine wpList_stp (stp_skip hF (unwanted_of hF rfl rfl (rfl) rfl) rfl rfl fun a hF => ?_)
  refine wpList_stp (stp_skip hF (unwanted_of hF rfl rfl (rfl) rfl) rfl rfl fun a hF => ?_)
  refine wpList_stp (stp_skip hF (unwanted_of hF rfl rfl (rfl) rfl) rfl rfl fun a hF => ?_)
  refine wpList_stp (stp_skip hF (unwanted_of hF rfl rfl (rfl) rfl) rfl rfl fun a hF => ?_)
  refine wpList_stp (stp_gv hF (wanted_none rfl) rfl rfl (gv_pickT rfl (hF.t rfl) (ev_const _ _)) fun a hF => ?_)
  refine wpList_nil ?_
  refine then_normal (hKq3 _ _ ?_)
  refine wp_cond_true (hF.t rfl) ?_
  refine wp_seq_k fun Kq4 hKq4 => ?_
  refine wp_seq_k fun Kq5 hKq5 => ?_
  -- region 2 (wire.go:52)
  refine wp_region_lit ?_
  refine wpList_stp (stp_gv hF (wanted_none rfl) rfl rfl (gv_move rfl (hF.t rfl)) fun a hF => ?_)
  refine wpList_stp (stp_gv hF (wanted_none rfl) rfl rfl (gv_neqNil rfl Tryd.underlying98 (hF.t rfl) (ev_const _ _)) fun a hF => ?_)
  refine wpList_nil ?_
  refine then_normal (hKq5 _ _ ?_)
  refine wp_cond_true (hF.t rfl) ?_
  -- region 3 (wire.go:53)
  refine wp_region_lit ?_
  refine wpList_stp (stp_gv hF (wanted_none rfl) rfl rfl (gv_move rfl (hF.t rfl)) fun a hF => ?_)
  refine wpList_stp (stp_gv hF (wanted_none rfl) rfl rfl (gv_move rfl (hF.t rfl)) fun a hF => ?_)
  refine wpList_stp (stp_gv hF (wanted_none rfl) rfl rfl (gv_nilCheck rfl (hF.t rfl)) fun a hF => ?_)
  refine wpList_stp (stp_gv hF (wanted_none rfl) rfl rfl (gv_field (r := 1) rfl Tryd.underlying135 rfl rfl Tryd.sz4 (by decide) (hF.t rfl)) fun a hF => ?_)
  refine wpList_stp (stp_storeAt (1) hF (wanted_none rfl) rfl rfl Tryd.sz4 (hF.t rfl) (by omega) (ev_const _ _) rfl hS (k := 0) rfl (by simp) fun w hS => ?_)
  refine wpList_stp (stp_gv hF (wanted_none rfl) rfl rfl (gv_nilCheck rfl (hF.t rfl)) fun a hF => ?_)
  refine wpList_stp (stp_gv hF (wanted_none rfl) rfl rfl (gv_field (r := 0) rfl Tryd.underlying135 rfl rfl Tryd.sz22 (by decide) (hF.t rfl)) fun a hF => ?_)
  refine wpList_stp (stp_storeAt (0) hF (wanted_none rfl) rfl rfl Tryd.sz22 (hF.t rfl) (by omega) (ev_const _ _) rfl hS (k := 0) rfl (by simp) fun w hS => ?_)
  refine wpList_nil ?_
  refine then_normal (hKq4 _ _ ?_)
  refine wp_seq_k fun Kq6 hKq6 => ?_
  -- region 4 (wire.go:55)
  refine wp_region_lit ?_
  refine wpList_stp (stp_gv hF (wanted_none rfl) rfl rfl (gv_assign rfl (ev_const _ _)) fun a hF => ?_)
  refine wpList_nil ?_
  refine then_normal (hKq6 _ _ ?_)
  refine wp_ret ?_
  refine then_ret ?_
  refine ret1 (fn := Tryd.f68) (t := 4) hF rfl rfl ?_
  exact ⟨rfl, hS⟩

theorem take_short {w00 w : World} {T : List Ent} {r k n c : Nat} {A : Option Addr} (hS : St w00 w (⟨true, some r, wrd (.slice A n c) false⟩ :: T)) (hk : n < k) :
    Calls Tryd.prog 68 #[.pointer (some ⟨r, 0, none⟩), vI k] w fun e w' => e = .returned (.slice none 0 0) ∧ St w00 w' (⟨true, some r, wrd (.slice none 0 0) true⟩ :: T) := by
  refine calls_start 48 Tryd.func68 rfl Tryd.ntmps68 rfl fun a hF => ?_
  refine wp_seq_k fun Kq1 hKq1 => ?_
  -- region 0 (wire.go:50)
  refine wp_region_lit ?_
  refine wpList_stp (stp_gv hF (wanted_none rfl) rfl rfl (gv_assign rfl (ev_const _ _)) fun a hF => ?_)
  refine wpList_nil ?_
  refine then_normal (hKq1 _ _ ?_)
  refine wp_seq_k fun Kq2 hKq2 => ?_
  refine wp_seq_k fun Kq3 hKq3 => ?_
  -- region 1 (wire.go:51)
  refine wp_region_lit ?_
  refine wpList_stp (stp_gv hF (wanted_none rfl) rfl rfl (gv_move rfl (hF.t rfl)) fun a hF => ?_)
  refine wpList_stp (stp_gv hF (wanted_none rfl) rfl rfl (gv_eqlNil rfl Tryd.underlying98 (hF.t rfl) (ev_const _ _)) fun a hF => ?_)
  refine wpList_stp (stp_gv hF (wanted_none rfl) rfl rfl (gv_move rfl (hF.t rfl)) fun a hF => ?_)
  refine wpList_stp (stp_gv hF (wanted_of hF rfl rfl (rfl)) rfl rfl (gv_move rfl (hF.t rfl)) fun a hF => ?_)
  refine wpList_stp (stp_gv hF (wanted_of hF rfl rfl (rfl)) rfl rfl (gv_nilCheck rfl (hF.t rfl)) fun a hF => ?_)
  refine wpList_stp (stp_gv hF (wanted_of hF rfl rfl (rfl)) rfl rfl (gv_field (r := 1) rfl Tryd.underlying135 rfl rfl Tryd.sz4 (by decide) (hF.t rfl)) fun a hF => ?_)
  refine wpList_stp (stp_gv hF (wanted_of hF rfl rfl (rfl)) rfl rfl (gv_load rfl Tryd.underlying4 rfl (hF.t rfl) (cell_ix (j := 1) (hS.cell (k := 0) rfl (rfl)) (by omega))) fun a hF => ?_)
  refine wpList_stp (stp_gv hF (wanted_none rfl) rfl rfl (gv_pickF rfl (hF.t rfl) (hF.t rfl)) fun a hF => ?_)
  refine wpList_stp (stp_gv hF (wanted_none rfl) rfl rfl (gv_move rfl (hF.t rfl)) fun a hF => ?_)
  refine wpList_stp (stp_gv hF (wanted_of hF rfl rfl (rfl)) rfl rfl (gv_move rfl (hF.t rfl)) fun a hF => ?_)
  refine wpList_stp (stp_gv hF (wanted_of hF rfl rfl (rfl)) rfl rfl (gv_move rfl (hF.t rfl)) fun a hF => ?_)
  refine wpList_stp (stp_gv hF (wanted_of hF rfl rfl (rfl)) rfl rfl (gv_nilCheck rfl (hF.t rfl)) fun a hF => ?_)
  refine wpList_stp (stp_gv hF (wanted_of hF rfl rfl (rfl)) rfl rfl (gv_field (r := 0) rfl Tryd.underlying135 rfl rfl Tryd.sz22 (by decide) (hF.t rfl)) fun a hF => ?_)
  refine wpList_stp (stp_gv hF (wanted_of hF rfl rfl (rfl)) rfl rfl (gv_load rfl Tryd.underlying22 rfl (hF.t rfl) (cell_ix (j := 0) (hS.cell (k := 0) rfl (rfl)) (by omega))) fun a hF => ?_)
  refine wpList_stp (stp_gv hF (wanted_of hF rfl rfl (rfl)) rfl rfl (gv_len rfl Tryd.underlying22 (hF.t rfl)) fun a hF => ?_)
  refine wpList_stp (stp_gv hF (wanted_of hF rfl rfl (rfl)) rfl rfl (gv_gtrT rfl (hF.t rfl) (hF.t rfl) (by omega)) fun a hF => ?_)
  refine wpList_stp (stp_gv hF (wanted_none rfl) rfl rfl (gv_pickF rfl (hF.t rfl) (hF.t rfl)) fun a hF => ?_)
  refine wpList_nil ?_
  refine then_normal (hKq3 _ _ ?_)
  refine wp_cond_true (hF.t rfl) ?_
  refine wp_seq_k fun Kq4 hKq4 => ?_
  refine wp_seq_k fun Kq5 hKq5 => ?_
  -- region 2 (wire.go:52)
  refine wp_region_lit ?_
  refine wpList_stp (stp_gv hF (wanted_none rfl) rfl rfl (gv_move rfl (hF.t rfl)) fun a hF => ?_)
  refine wpList_stp (stp_gv hF (wanted_none rfl) rfl rfl (gv_neqNil rfl Tryd.underlying98 (hF.t rfl) (ev_const _ _)) fun a hF => ?_)
  refine wpList_nil ?_
  refine then_normal (hKq5 _ _ ?_)
  refine wp_cond_true (hF.t rfl) ?_
  -- region 3 (wire.go:53)
  refine wp_region_lit ?_
  refine wpList_stp (stp_gv hF (wanted_none rfl) rfl rfl (gv_move rfl (hF.t rfl)) fun a hF => ?_)
  refine wpList_stp (stp_gv hF (wanted_none rfl) rfl rfl (gv_move rfl (hF.t rfl)) fun a hF => ?_)
  refine wpList_stp (stp_gv hF (wanted_none rfl) rfl rfl (gv_nilCheck rfl (hF.t rfl)) fun a hF => ?_)
  refine wpList_stp (stp_gv hF (wanted_none rfl) rfl rfl (gv_field (r := 1) rfl Tryd.underlying135 rfl rfl Tryd.sz4 (by decide) (hF.t rfl)) fun a hF => ?_)
  refine wpList_stp (stp_storeAt (1) hF (wanted_none rfl) rfl rfl Tryd.sz4 (hF.t rfl) (by omega) (ev_const _ _) rfl hS (k := 0) rfl (by simp) fun w hS => ?_)
  refine wpList_stp (stp_gv hF (wanted_none rfl) rfl rfl (gv_nilCheck rfl (hF.t rfl)) fun a hF => ?_)
  refine wpList_stp (stp_gv hF (wanted_none rfl) rfl rfl (gv_field (r := 0) rfl Tryd.underlying135 rfl rfl Tryd.sz22 (by decide) (hF.t rfl)) fun a hF => ?_)
  refine wpList_stp (stp_storeAt (0) hF (wanted_none rfl) rfl rfl Tryd.sz22 (hF.t rfl) (by omega) (ev_const _ _) rfl hS (k := 0) rfl (by simp) fun w hS => ?_)
  refine wpList_nil ?_
  refine then_normal (hKq4 _ _ ?_)
  refine wp_seq_k fun Kq6 hKq6 => ?_
  -- region 4 (wire.go:55)
  refine wp_region_lit ?_
  refine wpList_stp (stp_gv hF (wanted_none rfl) rfl rfl (gv_assign rfl (ev_const _ _)) fun a hF => ?_)
  refine wpList_nil ?_
  refine then_normal (hKq6 _ _ ?_)
  refine wp_ret ?_
  refine then_ret ?_
  refine ret1 (fn := Tryd.f68) (t := 4) hF rfl rfl ?_
  exact ⟨rfl, hS⟩


theorem take_all {w00 w : World} {T : List Ent} {r k : Nat} {s : RSt} (h : RdrS w00 T r s w) : Calls Tryd.prog 68 #[.pointer (some ⟨r, 0, none⟩), vI k] w (TakeP w00 T r k s) := by
  cases s with
  | none =>
    refine (take_bad h).mono fun e w' ⟨he, hS⟩ => ⟨_, he, hS, SRd.nil, fun _ => rfl, fun ys hy => by cases hy⟩
  | some xs =>
    obtain ⟨A, c, hc, hP, hS⟩ := h
    by_cases hk : k ≤ xs.length
    · refine (take_ok hS hk hc).mono fun e w' ⟨he, hS'⟩ => ⟨_, he, ?_, ?_, fun hn => ?_, fun ys _ => ⟨A, rfl⟩⟩
      · simp only [takeR, if_pos hk]
        refine ⟨if c = k then A else A.map (·.add k), c - k, by rw [List.length_drop]; omega, ?_, ?_⟩
        · have := hP.cutLo hk
          rw [← List.map_drop] at this
          rw [List.length_drop]
          exact this
        · rw [List.length_drop]; exact hS'
      · simp only [takeR, if_pos hk, Option.getD_some]
        have := hP.cutHM hk (Nat.le_refl k) (by omega)
        rwa [← List.map_take] at this
      · simp only [takeR, if_pos hk] at hn
        cases hn
    · refine (take_short hS (by omega)).mono fun e w' ⟨he, hS'⟩ => ⟨_, he, ?_, ?_, fun _ => rfl, fun ys hy => ?_⟩
      · simp only [takeR, if_neg hk]; exact hS'
      · simp only [takeR, if_neg hk]; exact SRd.nil
      · simp only [takeR, if_neg hk] at hy; cases hy


theorem ru32_none {w00 w : World} {T : List Ent} {r : Nat} {s : RSt} (hR : RdrS w00 T r s w) (hn : (takeR 4 s).1 = none) :
    Calls Tryd.prog 49 #[.pointer (some ⟨r, 0, none⟩)] w fun e w' => e = .returned (vW 0) ∧ RdrS w00 T r (takeR 4 s).2 w' := by
  refine calls_start 20 Tryd.func49 rfl Tryd.ntmps49 rfl fun a hF => ?_
  refine wp_seq_k fun Kq1 hKq1 => ?_
  -- region 0 (wire.go:74)
  refine wp_region_lit ?_
  refine wpList_stp (stp_gv hF (wanted_none rfl) rfl rfl (gv_assign rfl (ev_const _ _)) fun a hF => ?_)
  refine wpList_nil ?_
  refine then_normal (hKq1 _ _ ?_)
  refine wp_seq_k fun Kq2 hKq2 => ?_
  -- region 1 (wire.go:75)
  refine wp_region_lit ?_
  refine wpList_stp (stp_gv hF (wanted_none rfl) rfl rfl (gv_assign rfl (ev_const _ _)) fun a hF => ?_)
  refine wpList_nil ?_
  refine then_normal (hKq2 _ _ ?_)
  refine wp_seq_k fun Kq3 hKq3 => ?_
  refine wp_seq_k fun Kq4 hKq4 => ?_
  -- region 2 (wire.go:76)
  refine wp_region_lit ?_
  refine wpList_stp (stp_gv hF (wanted_none rfl) rfl rfl (gv_move rfl (hF.t rfl)) fun a hF => ?_)
  refine wpList_stp (stp_call hF (wanted_none rfl) rfl rfl Tryd.ok68 rfl (Evs.cons (hF.t rfl) (Evs.cons (ev_const _ _) Evs.nil)) (take_all (k := 4) hR) fun e w h => ?_)
  obtain ⟨v, rfl, hR, _, hv, _⟩ := h
  obtain rfl := hv hn
  refine ⟨_, rfl, fun a hF => ?_⟩
  refine wpList_stp (stp_gv hF (wanted_none rfl) rfl rfl (gv_len rfl Tryd.underlying22 (hF.t rfl)) fun a hF => ?_)
  refine wpList_stp (stp_gv hF (wanted_none rfl) rfl rfl (gv_move rfl (ev_const _ _)) fun a hF => ?_)
  refine wpList_nil ?_
  refine then_normal (hKq4 _ _ ?_)
  refine wp_block ?_
  refine wp_loop_n (fun n a w => n = 0 ∧ Fr 20 a [(3, vW 0), (8, vI 0), (9, vI 0)] ∧ RdrS w00 T r (takeR 4 s).2 w) 0 ⟨rfl, hF.sub ⟨rfl, rfl, rfl, trivial⟩, hR⟩ ?_
  rintro n a w ⟨rfl, hF, hR⟩
  refine wp_seq_k fun Kq5 hKq5 => ?_
  -- region 3 (wire.go:76)
  refine wp_region_lit ?_
  refine wpList_stp (stp_gv hF (wanted_none rfl) rfl rfl (gv_lssF rfl (hF.t rfl) (hF.t rfl) (by omega)) fun a hF => ?_)
  refine wpList_nil ?_
  refine then_normal (hKq5 _ _ ?_)
  refine wp_seq_k fun Kq6 hKq6 => ?_
  refine wp_cond_false (hF.t rfl) ?_
  refine wp_exit ?_
  refine then_exit ?_
  refine then_exit ?_
  refine block_exit ?_
  refine then_normal (hKq3 _ _ ?_)
  refine wp_seq_k fun Kq7 hKq7 => ?_
  -- region 7 (wire.go:79)
  refine wp_region_lit ?_
  refine wpList_stp (stp_gv hF (wanted_none rfl) rfl rfl (gv_move rfl (hF.t rfl)) fun a hF => ?_)
  refine wpList_stp (stp_gv hF (wanted_none rfl) rfl rfl (gv_assign rfl (hF.t rfl)) fun a hF => ?_)
  refine wpList_nil ?_
  refine then_normal (hKq7 _ _ ?_)
  refine wp_ret ?_
  refine ret1 (fn := Tryd.f49) (t := 2) hF rfl rfl ?_
  exact ⟨rfl, hR⟩


theorem ru32_all {w00 w : World} {T : List Ent} {r : Nat} {s : RSt} (hT : ∀ e ∈ T, e.nw = true) (h : RdrS w00 T r s w) : Calls Tryd.prog 49 #[.pointer (some ⟨r, 0, none⟩)] w fun e w' => e = .returned (vW (u32R s).1) ∧ RdrS w00 T r (u32R s).2 w' := by
  cases s with
  | none => exact ru32_none h rfl
  | some xs =>
    by_cases hk : 4 ≤ xs.length
    · obtain ⟨A, c, hc, hP, hS⟩ := h
      refine (ru32_ok hT hS hP hk hc).mono fun e w' ⟨he, hS'⟩ => ?_
      simp only [u32R, takeR, if_pos hk]
      refine ⟨by rw [u32A_take 4 (Nat.le_refl _)]; exact he, if c = 4 then A else A.map (·.add 4), c - 4, by rw [List.length_drop]; omega, ?_, ?_⟩
      · have := hP.cutLo hk
        rw [← List.map_drop] at this
        rw [List.length_drop]
        exact this
      · rw [List.length_drop]; exact hS'
    · have hn : (takeR 4 (some xs)).1 = none := by simp only [takeR, if_neg hk]
      refine (ru32_none h hn).mono fun e w' ⟨he, hR⟩ => ?_
      simp only [u32R, takeR, if_neg hk] at hR ⊢
      exact ⟨he, hR⟩
def lenS (s : RSt) : Nat := match s with
  | some xs => xs.length
  | none => 0
theorem lenS_take (k : Nat) (s : RSt) : lenS (takeR k s).2 ≤ lenS s := by
  cases s with
  | none => exact Nat.le_refl _
  | some xs =>
    by_cases h : k ≤ xs.length
    · simp only [takeR, if_pos h, lenS, List.length_drop]; omega
    · simp only [takeR, if_neg h, lenS]; omega
theorem u32R_snd (s : RSt) : (u32R s).2 = (takeR 4 s).2 := by
  unfold u32R; split <;> simp_all
theorem byteR_snd (s : RSt) : (byteR s).2 = (takeR 1 s).2 := by
  unfold byteR; split <;> simp_all
theorem byteR_some {s : RSt} {ys : List UInt8} (h : (takeR 1 s).1 = some ys) : (byteR s).1 = ys.getD 0 0 := by
  unfold byteR; split
  · rename_i h1; rw [h1] at h; injection h with h; rw [h]
  · rename_i h1; rw [h1] at h; cases h
theorem byteR_none {s : RSt} (h : (takeR 1 s).1 = none) : (byteR s).1 = 0 := by
  unfold byteR; split
  · rename_i h1; rw [h1] at h; cases h
  · rfl
theorem take_big {k : Nat} {s : RSt} (h : lenS s < k) : takeR k s = (none, none) := by
  cases s with
  | none => rfl
  | some xs => simp only [takeR, if_neg (show ¬ k ≤ xs.length by simp only [lenS] at h; omega)]
theorem lenS_text (s : RSt) : lenS (textR s).2 ≤ lenS s := by
  unfold textR
  split
  · exact Nat.zero_le _
  · have h1 := lenS_take (u32R s).1.toNat (u32R s).2
    have h2 := lenS_take 4 s
    rw [← u32R_snd] at h2
    exact Nat.le_trans h1 h2


theorem rtext_ok {w00 w : World} {T : List Ent} {r : Nat} {s : RSt} (hT : ∀ e ∈ T, e.nw = true) (hR : RdrS w00 T r s w) (hl : lenS s < 1073741824) :
    Calls Tryd.prog 75 #[.pointer (some ⟨r, 0, none⟩)] w fun e w' => e = .returned (sV (textR s).1) ∧ RdrS w00 T r (textR s).2 w' := by
  refine calls_start 15 Tryd.func75 rfl Tryd.ntmps75 rfl fun a hF => ?_
  refine wp_seq_k fun Kq1 hKq1 => ?_
  -- region 0 (wire.go:83)
  refine wp_region_lit ?_
  refine wpList_stp (stp_gv hF (wanted_none rfl) rfl rfl (gv_assign rfl (ev_const _ _)) fun a hF => ?_)
  refine wpList_nil ?_
  refine then_normal (hKq1 _ _ ?_)
  refine wp_seq_k fun Kq2 hKq2 => ?_
  -- region 1 (wire.go:84)
  refine wp_region_lit ?_
  refine wpList_stp (stp_gv hF (wanted_none rfl) rfl rfl (gv_move rfl (hF.t rfl)) fun a hF => ?_)
  refine wpList_stp (stp_call hF (wanted_none rfl) rfl rfl Tryd.ok49 rfl (Evs.cons (hF.t rfl) Evs.nil) (ru32_all hT hR) fun e w h => ?_)
  obtain ⟨rfl, hR⟩ := h
  refine ⟨_, rfl, fun a hF => ?_⟩
  refine wpList_stp (stp_gv hF (wanted_none rfl) rfl rfl (gv_assign rfl (hF.t rfl)) fun a hF => ?_)
  refine wpList_nil ?_
  refine then_normal (hKq2 _ _ ?_)
  refine wp_seq_k fun Kq3 hKq3 => ?_
  refine wp_seq_k fun Kq4 hKq4 => ?_
  -- region 2 (wire.go:85)
  refine wp_region_lit ?_
  refine wpList_stp (stp_gv hF (wanted_none rfl) rfl rfl (gv_move rfl (hF.t rfl)) fun a hF => ?_)
  refine wpList_stp (stp_gv hF (wanted_none rfl) rfl rfl (gv_gtr rfl (hF.t rfl) (ev_const _ _)) fun a hF => ?_)
  refine wpList_nil ?_
  refine then_normal (hKq4 _ _ ?_)
  refine cond_dec (hF.t rfl) (fun h7 => ?_) (fun h7 => ?_)
  ·
    refine wp_seq_k fun Kq5 hKq5 => ?_
    -- region 3 (wire.go:86)
    refine wp_region_lit ?_
    refine wpList_stp (stp_gv hF (wanted_none rfl) rfl rfl (gv_move rfl (hF.t rfl)) fun a hF => ?_)
    refine wpList_stp (stp_call hF (wanted_none rfl) rfl rfl Tryd.ok68 rfl (Evs.cons (hF.t rfl) (Evs.cons (ev_const _ _) Evs.nil)) (take_all (k := 1073741824) hR) fun e w h => ?_)
    obtain ⟨v, rfl, hR, hv, hvn, hvs⟩ := h
    refine ⟨_, rfl, fun a hF => ?_⟩
    refine wpList_nil ?_
    refine then_normal (hKq5 _ _ ?_)
    refine wp_seq_k fun Kq6 hKq6 => ?_
    -- region 4 (wire.go:87)
    refine wp_region_lit ?_
    refine wpList_stp (stp_gv hF (wanted_none rfl) rfl rfl (gv_assign rfl (ev_const _ _)) fun a hF => ?_)
    refine wpList_nil ?_
    refine then_normal (hKq6 _ _ ?_)
    refine wp_ret ?_
    refine then_ret ?_
    refine ret1 (fn := Tryd.f75) (t := 2) hF rfl rfl ?_
    have h4 := lenS_take 4 s
    rw [← u32R_snd] at h4
    rw [take_big (show lenS (u32R s).2 < 1073741824 by omega)] at hR
    rw [textR, if_pos (by omega)]
    exact ⟨rfl, hR⟩
  ·
    refine wp_skip ?_
    refine then_normal (hKq3 _ _ ?_)
    refine wp_seq_k fun Kq7 hKq7 => ?_
    -- region 5 (wire.go:89)
    refine wp_region_lit ?_
    refine wpList_stp (stp_gv hF (wanted_none rfl) rfl rfl (gv_move rfl (hF.t rfl)) fun a hF => ?_)
    refine wpList_stp (stp_gv hF (wanted_none rfl) rfl rfl (gv_move rfl (hF.t rfl)) fun a hF => ?_)
    refine wpList_stp (stp_gv hF (wanted_none rfl) rfl rfl (gv_conv_w_i rfl Tryd.underlying32 Tryd.underlying3 (hF.t rfl)) fun a hF => ?_)
    refine wpList_stp (stp_call hF (wanted_none rfl) rfl rfl Tryd.ok68 rfl (Evs.cons (hF.t rfl) (Evs.cons (hF.t rfl) Evs.nil)) (take_all (k := (u32R s).1.toNat) hR) fun e w h => ?_)
    obtain ⟨v, rfl, hR, hv, hvn, hvs⟩ := h
    refine ⟨_, rfl, fun a hF => ?_⟩
    obtain ⟨vx, bx, hSx⟩ := hR.st
    refine wpList_stp (stp_gv hF (wanted_none rfl) rfl rfl (gv_convStr rfl Tryd.underlying22 Tryd.underlying5 Tryd.underlying9 (hF.t rfl) (hv w _ hSx (nw_cons rfl hT) (fun e he => List.mem_cons_of_mem _ he))) fun a hF => ?_)
    refine wpList_stp (stp_gv hF (wanted_none rfl) rfl rfl (gv_assign rfl (hF.t rfl)) fun a hF => ?_)
    refine wpList_nil ?_
    refine then_normal (hKq7 _ _ ?_)
    refine wp_ret ?_
    refine ret1 (fn := Tryd.f75) (t := 2) hF rfl rfl ?_
    rw [textR, if_neg (by omega)]
    exact ⟨rfl, hR⟩

theorem rbyte_ok {w00 w : World} {T : List Ent} {r : Nat} {s : RSt} (hT : ∀ e ∈ T, e.nw = true) (hR : RdrS w00 T r s w) :
    Calls Tryd.prog 91 #[.pointer (some ⟨r, 0, none⟩)] w fun e w' => e = .returned (vB (byteR s).1) ∧ RdrS w00 T r (byteR s).2 w' := by
  refine calls_start 11 Tryd.func91 rfl Tryd.ntmps91 rfl fun a hF => ?_
  refine wp_seq_k fun Kq1 hKq1 => ?_
  -- region 0 (wire.go:63)
  refine wp_region_lit ?_
  refine wpList_stp (stp_gv hF (wanted_none rfl) rfl rfl (gv_assign rfl (ev_const _ _)) fun a hF => ?_)
  refine wpList_nil ?_
  refine then_normal (hKq1 _ _ ?_)
  refine wp_seq_k fun Kq2 hKq2 => ?_
  refine wp_seq_k fun Kq3 hKq3 => ?_
  -- region 1 (wire.go:64)
  refine wp_region_lit ?_
  refine wpList_stp (stp_gv hF (wanted_none rfl) rfl rfl (gv_move rfl (hF.t rfl)) fun a hF => ?_)
  refine wpList_stp (stp_call hF (wanted_none rfl) rfl rfl Tryd.ok68 rfl (Evs.cons (hF.t rfl) (Evs.cons (ev_const _ _) Evs.nil)) (take_all (k := 1) hR) fun e w h => ?_)
  obtain ⟨v, rfl, hR, hv, hvn, hvs⟩ := h
  refine ⟨_, rfl, fun a hF => ?_⟩
  obtain ⟨Av, nv, cv, hAv⟩ : ∃ A n c, v = Value.slice A n c := by
    cases h : (takeR 1 s).1 with
    | none => exact ⟨_, _, _, hvn h⟩
    | some ys => obtain ⟨A1, h1⟩ := hvs ys h; exact ⟨_, _, _, h1⟩
  refine wpList_stp (stp_gv hF (wanted_none rfl) rfl rfl (gv_assign rfl (hF.t rfl)) fun a hF => ?_)
  refine wpList_nil ?_
  refine then_normal (hKq3 _ _ ?_)
  refine wp_seq_k fun Kq4 hKq4 => ?_
  -- region 2 (wire.go:64)
  refine wp_region_lit ?_
  refine wpList_stp (stp_gv hF (wanted_none rfl) rfl rfl (gv_move rfl (hF.t rfl)) fun a hF => ?_)
  refine wpList_stp (stp_gv hF (wanted_none rfl) rfl rfl (gv_neqNilS rfl Tryd.underlying22 ((hF.t rfl).trans hAv) (ev_const _ _)) fun a hF => ?_)
  refine wpList_nil ?_
  refine then_normal (hKq4 _ _ ?_)
  refine cond_bool (hF.t rfl) (fun h7 => ?_) (fun h7 => ?_)
  ·
    obtain ⟨ys, hys⟩ : ∃ ys, (takeR 1 s).1 = some ys := by
      cases h : (takeR 1 s).1 with
      | some ys => exact ⟨ys, rfl⟩
      | none => rw [hvn h] at hAv; injection hAv with hAv _ _; subst hAv; cases h7
    obtain ⟨A1, hA1⟩ := hvs ys hys
    have hyl : ys.length = 1 := by
      cases s with
      | none => cases hys
      | some xs => simp only [takeR] at hys; split at hys
                   · injection hys with hys; subst hys; rw [List.length_take]; omega
                   · cases hys
    rw [hys] at hv
    obtain ⟨vx, bx, hSx⟩ := hR.st
    have hB := hv w _ hSx (nw_cons rfl hT) (fun e he => List.mem_cons_of_mem _ he)
    simp only [Option.getD_some] at hB
    subst hA1
    obtain ⟨A2, c2, hv2, _, _, hcell⟩ := hB.isB
    injection hv2 with hA _ _
    subst hA
    obtain ⟨b2, o2, rfl, _⟩ := hcell (by omega)
    refine wp_seq_k fun Kq5 hKq5 => ?_
    -- region 3 (wire.go:65)
    refine wp_region_lit ?_
    refine wpList_stp (stp_gv hF (wanted_none rfl) rfl rfl (gv_move rfl (hF.t rfl)) fun a hF => ?_)
    refine wpList_stp (stp_gv hF (wanted_none rfl) rfl rfl (gv_indexSl (q := 0) rfl Tryd.underlying22 Tryd.sz5 (hF.t rfl) rfl (by omega)) fun a hF => ?_)
    refine wpList_stp (stp_gv hF (wanted_none rfl) rfl rfl (gv_load rfl Tryd.underlying5 rfl (hF.t rfl) (cell_ix (hB.cellB 0 (by omega)) (by omega))) fun a hF => ?_)
    refine wpList_stp (stp_gv hF (wanted_none rfl) rfl rfl (gv_assign rfl (hF.t rfl)) fun a hF => ?_)
    refine wpList_nil ?_
    refine then_normal (hKq5 _ _ ?_)
    refine wp_ret ?_
    refine then_ret ?_
    refine ret1 (fn := Tryd.f91) (t := 2) hF rfl rfl ?_
    refine ⟨?_, by rw [byteR_snd]; exact hR⟩
    rw [byteR_some hys]
  ·
    have hn : (takeR 1 s).1 = none := by
      cases h : (takeR 1 s).1 with
      | none => rfl
      | some ys =>
        obtain ⟨A1, hA1⟩ := hvs ys h
        rw [h] at hv
        obtain ⟨vx, bx, hSx⟩ := hR.st
        have hB := hv w _ hSx (nw_cons rfl hT) (fun e he => List.mem_cons_of_mem _ he)
        simp only [Option.getD_some] at hB
        have hyl : ys.length = 1 := by
          cases s with
          | none => cases h
          | some xs => simp only [takeR] at h; split at h
                       · injection h with h; subst h; rw [List.length_take]; omega
                       · cases h
        obtain ⟨A2, c2, hv2, _, _, hcell⟩ := hB.isB
        obtain ⟨b2, o2, hb, _⟩ := hcell (by omega)
        rw [hv2] at hAv
        injection hAv with hA _ _
        subst hA
        rw [hb] at h7
        cases h7
    refine wp_skip ?_
    refine then_normal (hKq2 _ _ ?_)
    refine wp_seq_k fun Kq6 hKq6 => ?_
    -- region 4 (wire.go:67)
    refine wp_region_lit ?_
    refine wpList_stp (stp_gv hF (wanted_none rfl) rfl rfl (gv_assign rfl (ev_const _ _)) fun a hF => ?_)
    refine wpList_nil ?_
    refine then_normal (hKq6 _ _ ?_)
    refine wp_ret ?_
    refine ret1 (fn := Tryd.f91) (t := 2) hF rfl rfl ?_
    refine ⟨?_, by rw [byteR_snd]; exact hR⟩
    rw [byteR_none hn]
    rfl

theorem rflag_ok {w00 w : World} {T : List Ent} {r : Nat} {s : RSt} (hT : ∀ e ∈ T, e.nw = true) (hR : RdrS w00 T r s w) :
    Calls Tryd.prog 76 #[.pointer (some ⟨r, 0, none⟩)] w fun e w' => e = .returned (.bool (decide ((byteR s).1 ≠ 0))) ∧ RdrS w00 T r (byteR s).2 w' := by
  refine calls_start 6 Tryd.func76 rfl Tryd.ntmps76 rfl fun a hF => ?_
  refine wp_seq_k fun Kq1 hKq1 => ?_
  -- region 0 (wire.go:71)
  refine wp_region_lit ?_
  refine wpList_stp (stp_gv hF (wanted_none rfl) rfl rfl (gv_assign rfl (ev_const _ _)) fun a hF => ?_)
  refine wpList_nil ?_
  refine then_normal (hKq1 _ _ ?_)
  refine wp_seq_k fun Kq2 hKq2 => ?_
  -- region 1 (wire.go:71)
  refine wp_region_lit ?_
  refine wpList_stp (stp_gv hF (wanted_none rfl) rfl rfl (gv_move rfl (hF.t rfl)) fun a hF => ?_)
  refine wpList_stp (stp_call hF (wanted_none rfl) rfl rfl Tryd.ok91 rfl (Evs.cons (hF.t rfl) Evs.nil) (rbyte_ok hT hR) fun e w h => ?_)
  obtain ⟨rfl, hR⟩ := h
  refine ⟨_, rfl, fun a hF => ?_⟩
  refine wpList_stp (stp_gv hF (wanted_none rfl) rfl rfl (gv_neq rfl (hF.t rfl) (ev_const _ _)) fun a hF => ?_)
  refine wpList_stp (stp_gv hF (wanted_none rfl) rfl rfl (gv_assign rfl (hF.t rfl)) fun a hF => ?_)
  refine wpList_nil ?_
  refine then_normal (hKq2 _ _ ?_)
  refine wp_ret ?_
  refine ret1 (fn := Tryd.f76) (t := 2) hF rfl rfl ?_
  refine ⟨?_, hR⟩
  congr 2
  refine decide_eq_decide.2 (not_congr ⟨fun h => ?_, fun h => by rw [h]; rfl⟩)
  have : (byteR s).1.toNat = 0 := by omega
  exact UInt8.toNat_inj.1 this

theorem rok_ok {r : Nat} {b : Bool} {w0 : World} (h : w0.cell? ⟨r, 1, none⟩ = some (.bool b)) :
    Calls Tryd.prog 92 #[.pointer (some ⟨r, 0, none⟩)] w0 fun e w' => e = .returned (.bool !b) ∧ Ext w0 w' := by
  refine calls_start 12 Tryd.func92 rfl Tryd.ntmps92 rfl fun a hF => ?_
  refine wp_seq_k fun Kq1 hKq1 => ?_
  -- region 0 (wire.go:130)
  refine wp_region_lit ?_
  refine wpList_stp (stp_gv hF (wanted_none rfl) rfl rfl (gv_assign rfl (ev_const _ _)) fun a hF => ?_)
  refine wpList_nil ?_
  refine then_normal (hKq1 _ _ ?_)
  refine wp_seq_k fun Kq2 hKq2 => ?_
  -- region 1 (wire.go:130)
  refine wp_region_lit ?_
  refine wpList_stp (stp_gv hF (wanted_none rfl) rfl rfl (gv_move rfl (hF.t rfl)) fun a hF => ?_)
  refine wpList_stp (stp_gv hF (wanted_none rfl) rfl rfl (gv_neqNil rfl Tryd.underlying98 (hF.t rfl) (ev_const _ _)) fun a hF => ?_)
  refine wpList_stp (stp_gv hF (wanted_none rfl) rfl rfl (gv_move rfl (hF.t rfl)) fun a hF => ?_)
  refine wpList_stp (stp_gv hF (wanted_of hF rfl rfl (rfl)) rfl rfl (gv_move rfl (hF.t rfl)) fun a hF => ?_)
  refine wpList_stp (stp_gv hF (wanted_of hF rfl rfl (rfl)) rfl rfl (gv_nilCheck rfl (hF.t rfl)) fun a hF => ?_)
  refine wpList_stp (stp_gv hF (wanted_of hF rfl rfl (rfl)) rfl rfl (gv_field (r := 1) rfl Tryd.underlying135 rfl rfl Tryd.sz4 (by decide) (hF.t rfl)) fun a hF => ?_)
  refine wpList_stp (stp_gv hF (wanted_of hF rfl rfl (rfl)) rfl rfl (gv_load rfl Tryd.underlying4 rfl (hF.t rfl) (cell_ix h (by omega))) fun a hF => ?_)
  refine wpList_stp (stp_gv hF (wanted_of hF rfl rfl (rfl)) rfl rfl (gv_not rfl (hF.t rfl)) fun a hF => ?_)
  refine wpList_stp (stp_gv hF (wanted_none rfl) rfl rfl (gv_pickT rfl (hF.t rfl) (hF.t rfl)) fun a hF => ?_)
  refine wpList_stp (stp_gv hF (wanted_none rfl) rfl rfl (gv_assign rfl (hF.t rfl)) fun a hF => ?_)
  refine wpList_nil ?_
  refine then_normal (hKq2 _ _ ?_)
  refine wp_ret ?_
  refine ret1 (fn := Tryd.f92) (t := 2) hF rfl rfl ?_
  exact ⟨rfl, Ext.refl _⟩

theorem rend_bad {w0 : World} {r n c : Nat} {A : Option Addr} (h0 : w0.cell? ⟨r, 0, none⟩ = some (.slice A n c)) (h1 : w0.cell? ⟨r, 1, none⟩ = some (.bool true)) :
    Calls Tryd.prog 77 #[.pointer (some ⟨r, 0, none⟩)] w0 fun e w' => e = .returned (.bool false) ∧ Ext w0 w' := by
  refine calls_start 13 Tryd.func77 rfl Tryd.ntmps77 rfl fun a hF => ?_
  have hS := St.refl w0
  refine wp_seq_k fun Kq1 hKq1 => ?_
  -- region 0 (wire.go:133)
  refine wp_region_lit ?_
  refine wpList_stp (stp_gv hF (wanted_none rfl) rfl rfl (gv_assign rfl (ev_const _ _)) fun a hF => ?_)
  refine wpList_nil ?_
  refine then_normal (hKq1 _ _ ?_)
  refine wp_seq_k fun Kq2 hKq2 => ?_
  -- region 1 (wire.go:133)
  refine wp_region_lit ?_
  refine wpList_stp (stp_gv hF (wanted_none rfl) rfl rfl (gv_move rfl (hF.t rfl)) fun a hF => ?_)
  refine wpList_stp (stp_call hF (wanted_none rfl) rfl rfl Tryd.ok92 rfl (Evs.cons (hF.t rfl) Evs.nil) (rok_ok h1) fun e w h => ?_)
  obtain ⟨rfl, hx⟩ := h
  refine ⟨_, rfl, fun a hF => ?_⟩
  replace hS := hS.ext hx
  clear hx
  refine wpList_stp (stp_gv hF (wanted_none rfl) rfl rfl (gv_move rfl (hF.t rfl)) fun a hF => ?_)
  refine wpList_stp (stp_skip hF (unwanted_of hF rfl rfl (rfl) rfl) rfl rfl fun a hF => ?_)
  refine wpList_stp (stp_skip hF (unwanted_of hF rfl rfl (rfl) rfl) rfl rfl fun a hF => ?_)
  refine wpList_stp (stp_skip hF (unwanted_of hF rfl rfl (rfl) rfl) rfl rfl fun a hF => ?_)
  refine wpList_stp (stp_skip hF (unwanted_of hF rfl rfl (rfl) rfl) rfl rfl fun a hF => ?_)
  refine wpList_stp (stp_skip hF (unwanted_of hF rfl rfl (rfl) rfl) rfl rfl fun a hF => ?_)
  refine wpList_stp (stp_skip hF (unwanted_of hF rfl rfl (rfl) rfl) rfl rfl fun a hF => ?_)
  refine wpList_stp (stp_gv hF (wanted_none rfl) rfl rfl (gv_pickF rfl (hF.t rfl) (ev_const _ _)) fun a hF => ?_)
  refine wpList_stp (stp_gv hF (wanted_none rfl) rfl rfl (gv_assign rfl (hF.t rfl)) fun a hF => ?_)
  refine wpList_nil ?_
  refine then_normal (hKq2 _ _ ?_)
  refine wp_ret ?_
  refine ret1 (fn := Tryd.f77) (t := 2) hF rfl rfl ?_
  exact ⟨rfl, hS.toExt nw_nil⟩

theorem rend_good {w0 : World} {r n c : Nat} {A : Option Addr} (h0 : w0.cell? ⟨r, 0, none⟩ = some (.slice A n c)) (h1 : w0.cell? ⟨r, 1, none⟩ = some (.bool false)) :
    Calls Tryd.prog 77 #[.pointer (some ⟨r, 0, none⟩)] w0 fun e w' => e = .returned (.bool (decide (n = 0))) ∧ Ext w0 w' := by
  refine calls_start 13 Tryd.func77 rfl Tryd.ntmps77 rfl fun a hF => ?_
  have hS := St.refl w0
  refine wp_seq_k fun Kq1 hKq1 => ?_
  -- region 0 (wire.go:133)
  refine wp_region_lit ?_
  refine wpList_stp (stp_gv hF (wanted_none rfl) rfl rfl (gv_assign rfl (ev_const _ _)) fun a hF => ?_)
  refine wpList_nil ?_
  refine then_normal (hKq1 _ _ ?_)
  refine wp_seq_k fun Kq2 hKq2 => ?_
  -- region 1 (wire.go:133)
  refine wp_region_lit ?_
  refine wpList_stp (stp_gv hF (wanted_none rfl) rfl rfl (gv_move rfl (hF.t rfl)) fun a hF => ?_)
  refine wpList_stp (stp_call hF (wanted_none rfl) rfl rfl Tryd.ok92 rfl (Evs.cons (hF.t rfl) Evs.nil) (rok_ok h1) fun e w h => ?_)
  obtain ⟨rfl, hx⟩ := h
  refine ⟨_, rfl, fun a hF => ?_⟩
  replace hS := hS.ext hx
  clear hx
  refine wpList_stp (stp_gv hF (wanted_none rfl) rfl rfl (gv_move rfl (hF.t rfl)) fun a hF => ?_)
  refine wpList_stp (stp_gv hF (wanted_of hF rfl rfl (rfl)) rfl rfl (gv_move rfl (hF.t rfl)) fun a hF => ?_)
  refine wpList_stp (stp_gv hF (wanted_of hF rfl rfl (rfl)) rfl rfl (gv_nilCheck rfl (hF.t rfl)) fun a hF => ?_)
  refine wpList_stp (stp_gv hF (wanted_of hF rfl rfl (rfl)) rfl rfl (gv_field (r := 0) rfl Tryd.underlying135 rfl rfl Tryd.sz22 (by decide) (hF.t rfl)) fun a hF => ?_)
  refine wpList_stp (stp_gv hF (wanted_of hF rfl rfl (rfl)) rfl rfl (gv_load rfl Tryd.underlying22 rfl (hF.t rfl) (cell_ix ((cell_same ((hS.toExt nw_nil).block r (cell_lt h0))).trans h0) (by omega))) fun a hF => ?_)
  refine wpList_stp (stp_gv hF (wanted_of hF rfl rfl (rfl)) rfl rfl (gv_len rfl Tryd.underlying22 (hF.t rfl)) fun a hF => ?_)
  refine wpList_stp (stp_gv hF (wanted_of hF rfl rfl (rfl)) rfl rfl (gv_eql rfl (hF.t rfl) (ev_const _ _)) fun a hF => ?_)
  refine wpList_stp (stp_gv hF (wanted_none rfl) rfl rfl (gv_pickT rfl (hF.t rfl) (hF.t rfl)) fun a hF => ?_)
  refine wpList_stp (stp_gv hF (wanted_none rfl) rfl rfl (gv_assign rfl (hF.t rfl)) fun a hF => ?_)
  refine wpList_nil ?_
  refine then_normal (hKq2 _ _ ?_)
  refine wp_ret ?_
  refine ret1 (fn := Tryd.f77) (t := 2) hF rfl rfl ?_
  refine ⟨?_, hS.toExt nw_nil⟩
  congr 2
  exact decide_eq_decide.2 ⟨fun h => by omega, fun h => by omega⟩


theorem rend_all {w00 w : World} {T : List Ent} {r : Nat} {s : RSt} (h : RdrS w00 T r s w) : Calls Tryd.prog 77 #[.pointer (some ⟨r, 0, none⟩)] w fun e w' => e = .returned (.bool (decide (s = some []))) ∧ Ext w w' := by
  cases s with
  | none =>
    have hS : St w00 w (⟨true, some r, wrd (.slice none 0 0) true⟩ :: T) := h
    refine (rend_bad (hS.cell (k := 0) (i := 0) rfl rfl) (hS.cell (k := 0) (i := 1) rfl rfl)).mono fun e w' ⟨he, hx⟩ => ⟨?_, hx⟩
    rw [he, decide_eq_false (fun h => by cases h)]
  | some xs =>
    obtain ⟨A, c, hc, hP, hS⟩ := h
    refine (rend_good (hS.cell (k := 0) (i := 0) rfl rfl) (hS.cell (k := 0) (i := 1) rfl rfl)).mono fun e w' ⟨he, hx⟩ => ⟨?_, hx⟩
    rw [he]
    congr 2
    exact decide_eq_decide.2 ⟨fun h => by rw [List.length_eq_zero_iff.1 h], fun h => by injection h with h; rw [h]; rfl⟩
def textB (l : List UInt8) : List UInt8 := u32B (UInt32.ofNat l.length) ++ l
theorem textB_len (l : List UInt8) : (textB l).length = l.length + 4 := by rw [textB, List.length_append, u32B_len]; omega
theorem gv_lenS {P : Program} {a : Act} {o : Oper} {w : World} {t : TypeId} {l : List UInt8} {x : Operand} (ho : o.op = .call { callee := .builtin .len, args := #[x], argTypes := #[t] }) (ht : P.underlying t = some .string) (hx : a.eval x = sV l) : Gv P o a w (vI l.length) := by
  have := gv_lenStr (w := w) ho ht hx
  rwa [sV_size] at this


theorem text_ok {w00 w : World} {T : List Ent} {o : Option Nat} {l sl : List UInt8} {op : List Value} (hT : ∀ e ∈ T, e.nw = true) (hS : St w00 w (⟨true, o, blk 5 (l.map vB ++ op)⟩ :: T)) (oo : o = none → l = [] ∧ op = []) (oc : l.length + op.length ≤ 9223372036854775807) (hn : l.length ≤ 549755813888) (hs : sl.length ≤ 549755813888) :
    Calls Tryd.prog 79 #[ownV o l.length (l.length + op.length), sV sl] w fun e w' => ∃ o' op', e = .returned (ownV o' (l ++ textB sl).length ((l ++ textB sl).length + op'.length)) ∧ (o' = none → (l ++ textB sl) = [] ∧ op' = []) ∧ ((l ++ textB sl)).length + op'.length ≤ 9223372036854775807 ∧ St w00 w' (⟨true, o', blk 5 ((l ++ textB sl).map vB ++ op')⟩ :: T) := by
  refine calls_start 12 Tryd.func79 rfl Tryd.ntmps79 rfl fun a hF => ?_
  refine wp_seq_k fun Kq1 hKq1 => ?_
  -- region 0 (wire.go:16)
  refine wp_region_lit ?_
  refine wpList_stp (stp_gv hF (wanted_none rfl) rfl rfl (gv_assign rfl (ev_const _ _)) fun a hF => ?_)
  refine wpList_nil ?_
  refine then_normal (hKq1 _ _ ?_)
  refine wp_seq_k fun Kq2 hKq2 => ?_
  -- region 1 (wire.go:16)
  refine wp_region_lit ?_
  refine wpList_stp (stp_gv hF (wanted_none rfl) rfl rfl (gv_move rfl (hF.t rfl)) fun a hF => ?_)
  refine wpList_stp (stp_gv hF (wanted_none rfl) rfl rfl (gv_move rfl (hF.t rfl)) fun a hF => ?_)
  refine wpList_stp (stp_gv hF (wanted_none rfl) rfl rfl (gv_lenS rfl Tryd.underlying9 (hF.t rfl)) fun a hF => ?_)
  refine wpList_stp (stp_gv hF (wanted_none rfl) rfl rfl (gv_conv_i_w rfl Tryd.underlying3 Tryd.underlying32 (hF.t rfl)) fun a hF => ?_)
  refine wpList_stp (stp_call hF (wanted_none rfl) rfl rfl Tryd.ok45 rfl (Evs.cons (hF.t rfl) (Evs.cons (hF.t rfl) Evs.nil)) (u32_ok hT hS oo oc (by omega)) fun e w h => ?_)
  obtain ⟨o, op, rfl, oo, oc, hS⟩ := h
  refine ⟨_, rfl, fun a hF => ?_⟩
  refine wpList_stp (stp_gv hF (wanted_none rfl) rfl rfl (gv_move rfl (hF.t rfl)) fun a hF => ?_)
  refine wpList_stp (stp_appS (k := 0) hF (wanted_none rfl) rfl rfl rfl Tryd.underlying22 Tryd.underlying9 Tryd.ty5 rfl (hF.t rfl) (hF.t rfl) hS rfl oo oc (by rw [List.length_append, u32B_len]; omega) fun o op a w hF oo oc hS => ?_)
  refine wpList_stp (stp_gv hF (wanted_none rfl) rfl rfl (gv_assign rfl (hF.t rfl)) fun a hF => ?_)
  refine wpList_nil ?_
  refine then_normal (hKq2 _ _ ?_)
  refine wp_ret ?_
  refine ret1 (fn := Tryd.f79) (t := 4) hF rfl rfl ?_
  rw [List.append_assoc] at *
  exact ⟨o, op, rfl, oo, oc, hS⟩

theorem flag_ok {w00 w : World} {T : List Ent} {o : Option Nat} {l : List UInt8} {p : Bool} {op : List Value} (hT : ∀ e ∈ T, e.nw = true) (hS : St w00 w (⟨true, o, blk 5 (l.map vB ++ op)⟩ :: T)) (oo : o = none → l = [] ∧ op = []) (oc : l.length + op.length ≤ 9223372036854775807) (hn : l.length ≤ 549755813888) :
    Calls Tryd.prog 78 #[ownV o l.length (l.length + op.length), .bool p] w fun e w' => ∃ o' op', e = .returned (ownV o' (l ++ [if p then 1 else 0]).length ((l ++ [if p then 1 else 0]).length + op'.length)) ∧ (o' = none → (l ++ [if p then 1 else 0]) = [] ∧ op' = []) ∧ ((l ++ [if p then 1 else 0])).length + op'.length ≤ 9223372036854775807 ∧ St w00 w' (⟨true, o', blk 5 ((l ++ [if p then 1 else 0]).map vB ++ op')⟩ :: T) := by
  refine calls_start 12 Tryd.func78 rfl Tryd.ntmps78 rfl fun a hF => ?_
  refine wp_seq_k fun Kq1 hKq1 => ?_
  -- region 0 (wire.go:22)
  refine wp_region_lit ?_
  refine wpList_stp (stp_gv hF (wanted_none rfl) rfl rfl (gv_assign rfl (ev_const _ _)) fun a hF => ?_)
  refine wpList_nil ?_
  refine then_normal (hKq1 _ _ ?_)
  refine wp_seq_k fun Kq2 hKq2 => ?_
  refine wp_seq_k fun Kq3 hKq3 => ?_
  -- region 1 (wire.go:23)
  refine wp_region_lit ?_
  refine wpList_stp (stp_gv hF (wanted_none rfl) rfl rfl (gv_move rfl (hF.t rfl)) fun a hF => ?_)
  refine wpList_nil ?_
  refine then_normal (hKq3 _ _ ?_)
  refine cond_bool (hF.t rfl) (fun h5 => ?_) (fun h5 => ?_)
  ·
    subst h5
    refine wp_seq_k fun Kq4 hKq4 => ?_
    -- region 2 (wire.go:24)
    refine wp_region_lit ?_
    refine wpList_stp (stp_gv hF (wanted_none rfl) rfl rfl (gv_move rfl (hF.t rfl)) fun a hF => ?_)
    refine wpList_stp (stp_build1 (v := 1) hF (wanted_none rfl) rfl rfl rfl Tryd.underlying22 Tryd.ty5 rfl hS fun zb a w hF hS => ?_)
    refine wpList_stp (stp_app1 (k := 0) hF (wanted_none rfl) rfl rfl rfl Tryd.underlying22 Tryd.ty5 rfl (hF.t rfl) (hF.t rfl) hS rfl oo oc (by omega) fun o op a w hF oo oc hS => ?_)
    refine wpList_stp (stp_gv hF (wanted_none rfl) rfl rfl (gv_assign rfl (hF.t rfl)) fun a hF => ?_)
    refine wpList_nil ?_
    refine then_normal (hKq4 _ _ ?_)
    refine wp_ret ?_
    refine then_ret ?_
    refine ret1 (fn := Tryd.f78) (t := 4) hF rfl rfl ?_
    exact ⟨o, op, rfl, oo, oc, hS⟩
  ·
    subst h5
    refine wp_skip ?_
    refine then_normal (hKq2 _ _ ?_)
    refine wp_seq_k fun Kq5 hKq5 => ?_
    -- region 3 (wire.go:26)
    refine wp_region_lit ?_
    refine wpList_stp (stp_gv hF (wanted_none rfl) rfl rfl (gv_move rfl (hF.t rfl)) fun a hF => ?_)
    refine wpList_stp (stp_build1 (v := 0) hF (wanted_none rfl) rfl rfl rfl Tryd.underlying22 Tryd.ty5 rfl hS fun zb a w hF hS => ?_)
    refine wpList_stp (stp_app1 (k := 0) hF (wanted_none rfl) rfl rfl rfl Tryd.underlying22 Tryd.ty5 rfl (hF.t rfl) (hF.t rfl) hS rfl oo oc (by omega) fun o op a w hF oo oc hS => ?_)
    refine wpList_stp (stp_gv hF (wanted_none rfl) rfl rfl (gv_assign rfl (hF.t rfl)) fun a hF => ?_)
    refine wpList_nil ?_
    refine then_normal (hKq5 _ _ ?_)
    refine wp_ret ?_
    refine ret1 (fn := Tryd.f78) (t := 4) hF rfl rfl ?_
    exact ⟨o, op, rfl, oo, oc, hS⟩


end Go.Proofs.YtfhalnobaeogkaaDoor
