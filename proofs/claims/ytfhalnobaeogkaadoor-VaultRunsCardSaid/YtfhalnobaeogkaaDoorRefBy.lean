/- What is proved: the contract of the bytes of a reference record. -/
import Derived.Test.YtfhalnobaeogkaaDoorProg
import Derived.Test.YtfhalnobaeogkaaDoorFwSep
import Derived.KernelRfl
import Derived.Test.YtfhalnobaeogkaaDoorFwSto
import Derived.Test.YtfhalnobaeogkaaDoorFwVlt
import Derived.Test.YtfhalnobaeogkaaDoorFwApp
import Derived.Test.YtfhalnobaeogkaaDoorFwWord
import Derived.Test.YtfhalnobaeogkaaDoorFwPkt
import Derived.Test.YtfhalnobaeogkaaDoorFwTok
import Derived.Test.YtfhalnobaeogkaaDoorDig
import Derived.Test.YtfhalnobaeogkaaDoorSum
import Derived.Test.YtfhalnobaeogkaaDoorWire
import Derived.Test.YtfhalnobaeogkaaDoorPktW
import Derived.Test.YtfhalnobaeogkaaDoorPktR
import Derived.Test.YtfhalnobaeogkaaDoorWireA
import Derived.Test.YtfhalnobaeogkaaDoorDisk
import Derived.Test.YtfhalnobaeogkaaDoorFwZer
import Derived.Test.YtfhalnobaeogkaaDoorWireA
import Derived.Test.YtfhalnobaeogkaaDoorHead
import Derived.Test.YtfhalnobaeogkaaDoorHalf
import Derived.Test.YtfhalnobaeogkaaDoorOpen
import Derived.Test.YtfhalnobaeogkaaDoorSave
import Derived.Test.YtfhalnobaeogkaaDoorVPure
import Derived.Test.YtfhalnobaeogkaaDoorRefH
import Derived.Test.YtfhalnobaeogkaaDoorRefSum
import Derived.Test.YtfhalnobaeogkaaDoorRefCur
set_option linter.unusedVariables false
set_option linter.unusedSimpArgs false
namespace Go.Proofs.YtfhalnobaeogkaaDoor
open Go Go.RowKit Go.Fw

theorem Tryd.ok83 : CallOk Tryd.prog 83 := ⟨_, Tryd.func83, by kernel_rfl, by kernel_rfl⟩


/-- A new row of bytes. -/
def NewB (w : World) (n : Nat) (l : List UInt8) (v : Value) (w' : World) : Prop := ∃ b bp, v = .slice (some ⟨b, 0, none⟩) n (n + bp.length) ∧ n + bp.length ≤ 9223372036854775807 ∧ w.heap.size ≤ b ∧ w'.heap[b]? = some (blk 5 (l.map vB ++ bp))
theorem NewB.lasts (w : World) (n : Nat) (l : List UInt8) : Lasts (NewB w n l) := fun v w1 w2 ⟨b, bp, h1, h2, h3, h4⟩ hx => ⟨b, bp, h1, h2, h3, (hx.block b (heap_lt h4)).trans h4⟩
theorem rd_new {w w' : World} {b n : Nat} {l : List UInt8} {bp : List Value} (hS : St w w' [⟨true, some b, blk 5 (l.map vB ++ bp)⟩]) (hl : l.length = n) (hc : n + bp.length ≤ 9223372036854775807) : Rd w' (.slice (some ⟨b, 0, none⟩) n (n + bp.length)) (l.map vB) :=
  (own_rd (w0 := w) (ob := some b) (l := l) (pad := bp) List.mem_cons_self (fun h => by cases h) hl hc) w' _ hS (nw_cons rfl nw_nil) (fun e he => he)
theorem RdL.lasts (l : List UInt8) : Lasts (fun v w => Rd w v (l.map vB)) := fun v w1 w2 h hx => h.ext hx
theorem textB_u (l : List UInt8) : u32B (UInt32.ofNat l.length) ++ l = textB l := rfl
abbrev rrO (a c : List UInt8) (p : Bool) : Obj := blk 75 [sV a, sV c, .bool p]
def padI (n : Nat) : Nat := (64 - n % 64) % 64
/-- A half's bytes. -/
def imgF (g : UInt64) (r : List UInt8) : List UInt8 := headF g r ++ r ++ List.replicate (padI r.length) 0
theorem imgF_len (g : UInt64) (r : List UInt8) : (imgF g r).length = 64 + r.length + padI r.length := by simp only [imgF, List.length_append, headF_len, List.length_replicate]
def ig (g : UInt64) (q : Nat) : List UInt8 := mun ++ be8 g q
theorem ig_zero (g : UInt64) : mun = ig g 0 := by simp [ig, be8]
theorem ig_succ (g : UInt64) (q j : Nat) (h : j = 7 - q) : ig g q ++ [(g >>> UInt64.ofNat (8 * j)).toUInt8] = ig g (q + 1) := by rw [ig, ig, List.append_assoc, be8, h]
theorem ig_len (g : UInt64) (q : Nat) : (ig g q).length = 4 + q := by rw [ig, List.length_append, be8_len]; rfl
theorem be8_split (g : UInt64) : be8 g 8 = u32B (g >>> UInt64.ofNat 32).toUInt32 ++ u32B g.toUInt32 := by
  have hg := g.toNat_lt
  have e : ∀ s, s < 64 → ((g >>> UInt64.ofNat s).toUInt8).toNat = g.toNat / 2 ^ s % 256 := fun s hs => by
    rw [UInt64.toNat_toUInt8, UInt64.toNat_shiftRight, UInt64.toNat_ofNat', show s % 2 ^ 64 % 64 = s by omega, Nat.shiftRight_eq_div_pow]
  have e2 : ∀ s, s < 32 → (((g >>> UInt64.ofNat 32).toUInt32 >>> UInt32.ofNat s).toUInt8).toNat = g.toNat / 2 ^ (32 + s) % 256 := fun s hs => by
    rw [UInt32.toNat_toUInt8, UInt32.toNat_shiftRight, UInt64.toNat_toUInt32, UInt64.toNat_shiftRight, UInt32.toNat_ofNat', show s % 2 ^ 32 % 32 = s by omega, show (UInt64.ofNat 32).toNat % 64 = 32 from rfl, Nat.shiftRight_eq_div_pow, Nat.shiftRight_eq_div_pow, Nat.mod_eq_of_lt (show g.toNat / 2 ^ 32 < 2 ^ 32 by omega), Nat.div_div_eq_div_mul, ← Nat.pow_add]
  have e3 : ∀ s, s < 32 → ((g.toUInt32 >>> UInt32.ofNat s).toUInt8).toNat = g.toNat % 4294967296 / 2 ^ s % 256 := fun s hs => by
    rw [UInt32.toNat_toUInt8, UInt32.toNat_shiftRight, UInt64.toNat_toUInt32, UInt32.toNat_ofNat', show s % 2 ^ 32 % 32 = s by omega, Nat.shiftRight_eq_div_pow]
  have f0 : ((g >>> UInt64.ofNat 32).toUInt32.toUInt8).toNat = g.toNat / 2 ^ 32 % 256 := by
    rw [UInt32.toNat_toUInt8, UInt64.toNat_toUInt32, UInt64.toNat_shiftRight, show (UInt64.ofNat 32).toNat % 64 = 32 from rfl, Nat.shiftRight_eq_div_pow]; omega
  have f1 : (g.toUInt32.toUInt8).toNat = g.toNat % 256 := by
    rw [UInt32.toNat_toUInt8, UInt64.toNat_toUInt32]; omega
  show [_, _, _, _, _, _, _, _] = [_, _, _, _, _, _, _, _]
  congr 1
  · apply UInt8.toNat_inj.1; rw [e2 24 (by decide)]; exact e 56 (by decide)
  congr 1
  · apply UInt8.toNat_inj.1; rw [e2 16 (by decide)]; exact e 48 (by decide)
  congr 1
  · apply UInt8.toNat_inj.1; rw [e2 8 (by decide)]; exact e 40 (by decide)
  congr 1
  · apply UInt8.toNat_inj.1; rw [f0]; exact e 32 (by decide)
  congr 1
  · apply UInt8.toNat_inj.1; rw [e3 24 (by decide)]; refine (e 24 (by decide)).trans ?_; omega
  congr 1
  · apply UInt8.toNat_inj.1; rw [e3 16 (by decide)]; refine (e 16 (by decide)).trans ?_; omega
  congr 1
  · apply UInt8.toNat_inj.1; rw [e3 8 (by decide)]; refine (e 8 (by decide)).trans ?_; omega
  congr 1
  · apply UInt8.toNat_inj.1; rw [f1]; refine (e 0 (by decide)).trans ?_; omega
theorem ig_hdr (g : UInt64) (n : Nat) : ig g 8 ++ u32B (UInt32.ofNat n) = hdr g n := by
  rw [ig, be8_split, hdr, List.append_assoc, List.append_assoc, List.append_assoc, List.append_assoc]
theorem rep_snocI (l : List UInt8) (z : Nat) : l ++ List.replicate z 0 ++ [0] = l ++ List.replicate (z + 1) 0 := by
  rw [List.append_assoc, List.replicate_succ']


theorem rbytes_ok {al cl : List UInt8} {p : Bool} {w0 : World} (ha : al.length ≤ 1073741824) (hc : cl.length ≤ 1073741824) :
    Calls Tryd.prog 63 #[recV al cl p] w0 fun e w' => ∃ o op, e = .returned (.slice (some ⟨o, 0, none⟩) (recB al cl p).length ((recB al cl p).length + op.length)) ∧ (recB al cl p).length + op.length ≤ 9223372036854775807 ∧ St w0 w' [⟨true, some o, blk 5 ((recB al cl p).map vB ++ op)⟩] := by
  refine calls_start 19 Tryd.func63 rfl Tryd.ntmps63 rfl fun a hF => ?_
  have hS := St.refl w0
  refine wp_seq_k fun Kq1 hKq1 => ?_
  -- region 0 (ref.go:16)
  refine wp_region_lit ?_
  refine wpList_stp (stp_box (cs := [sV al, sV cl, .bool p]) hF (wanted_none rfl) rfl rfl rfl (hF.t rfl) rfl hS fun r a w hF hS => ?_)
  refine wpList_stp (stp_gv hF (wanted_none rfl) rfl rfl (gv_assign rfl (ev_const _ _)) fun a hF => ?_)
  refine wpList_nil ?_
  refine then_normal (hKq1 _ _ ?_)
  refine wp_seq_k fun Kq2 hKq2 => ?_
  -- region 1 (ref.go:17)
  refine Fw.wp_region_draw (by kernel_rfl) fun w hx => ?_
  replace hS := hS.ext hx
  clear hx
  refine run_headS (n := 6) _ [(2, 6, NewB w (textB al).length (textB al)), (5, 9, fun v w => Rd w v ((textB cl).map vB))] hF (by kernel_rfl) rfl (fa_cons rfl (fa_cons rfl fa_nil)) (fa_cons (NewB.lasts _ _ _) (fa_cons (RdL.lasts _) fa_nil)) (fa_cons ⟨Nat.zero_le _, Nat.le_of_ble_eq_true rfl⟩ (fa_cons ⟨Nat.zero_le _, Nat.le_of_ble_eq_true rfl⟩ fa_nil)) rfl ?_
  refine dw_gv hF rfl (wanted_none rfl) rfl rfl (fun w hx => gv_field (r := 0) rfl Tryd.underlying75 rfl rfl Tryd.sz9 (by decide) (hF.t rfl)) fun a hF => ?_
  refine dw_gv hF rfl (wanted_none rfl) rfl rfl (fun w hx => gv_load rfl Tryd.underlying9 rfl (hF.t rfl) (cell_ix (j := 0) ((hS.ext hx).cell (k := 0) rfl rfl) (by omega))) fun a hF => ?_
  refine dw_fl rfl ?_
  refine dw_gv hF rfl (wanted_none rfl) rfl rfl (fun w hx => gv_field (r := 1) rfl Tryd.underlying75 rfl rfl Tryd.sz9 (by decide) (hF.t rfl)) fun a hF => ?_
  refine dw_gv hF rfl (wanted_none rfl) rfl rfl (fun w hx => gv_load rfl Tryd.underlying9 rfl (hF.t rfl) (cell_ix (j := 1) ((hS.ext hx).cell (k := 0) rfl rfl) (by omega))) fun a hF => ?_
  refine dw_fl rfl ?_
  refine dw_nil ⟨(fa_cons ?_ (fa_cons ?_ fa_nil)), fun a w hx hA hR => ?_⟩
  · intro a w hx hA hdp
    replace hF := hA _ hF
    replace hS := hS.ext hx
    exact ⟨_, rfl, sx_call (wanted_none rfl) Tryd.ok83 rfl (Evs.cons (hF.t rfl) Evs.nil) ((rtext_mk (by omega)).mono fun e w' ⟨b, bp, he, hb, hs⟩ => ⟨_, he, ⟨b, bp, (by rw [textB_len, Nat.add_comm al.length 4]), (by rw [textB_len, Nat.add_comm al.length 4]; exact hb), Nat.le_trans hx.size (hs.new _ List.mem_cons_self rfl b rfl), hs.has _ List.mem_cons_self b rfl⟩, hs.toExt (nw_cons rfl nw_nil)⟩)⟩
  · intro a w hx hA hdp
    replace hF := hA _ hF
    replace hS := hS.ext hx
    exact ⟨_, rfl, sx_call (wanted_none rfl) Tryd.ok83 rfl (Evs.cons (hF.t rfl) Evs.nil) ((rtext_mk (by omega)).mono fun e w' ⟨b, bp, he, hb, hs⟩ => ⟨_, he, rd_new hs (by rw [← textB_u, List.length_append, u32B_len]) hb, hs.toExt (nw_cons rfl nw_nil)⟩)⟩
  replace hF := hA _ hF
  obtain ⟨o, op, hv, oc, hR1, hR2⟩ := hR _ (List.mem_of_getElem? (i := 0) rfl)
  have hcR := hR _ (List.mem_of_getElem? (i := 1) rfl)
  replace hS := hS.float hx hR1 hR2
  replace hF : Fr 19 a [(1, .pointer (some ⟨r, 0, none⟩)), (6, .slice (some ⟨o, 0, none⟩) (textB al).length ((textB al).length + op.length)), (9, slot a 9)] := hF.sub ⟨rfl, congrArg some hv, rfl, trivial⟩
  clear hA hx hR
  refine run_stp (by kernel_rfl) rfl (stp_appB (ob := some o) (l := textB al) (ml := textB cl) (pad := op) (k := 0) hF (wanted_none rfl) rfl rfl rfl Tryd.underlying22 Tryd.ty5 rfl (hF.t rfl) (hF.t rfl) hS rfl (fun h => by cases h) oc hcR (by rw [textB_len, textB_len]; omega) fun o op a w hF oo oc hS => ?_)
  refine run_stp (by kernel_rfl) rfl (stp_gv hF (wanted_none rfl) rfl rfl (gv_assign rfl (hF.t rfl)) fun a hF => ?_)
  refine run_done (by decide) ?_
  refine then_normal (hKq2 _ _ ?_)
  refine wp_seq_k fun Kq3 hKq3 => ?_
  refine wp_seq_k fun Kq4 hKq4 => ?_
  -- region 2 (ref.go:18)
  refine wp_region_lit ?_
  refine wpList_stp (stp_gv hF (wanted_none rfl) rfl rfl (gv_field (r := 2) rfl Tryd.underlying75 rfl rfl Tryd.sz4 (by decide) (hF.t rfl)) fun a hF => ?_)
  refine wpList_stp (stp_gv hF (wanted_none rfl) rfl rfl (gv_load rfl Tryd.underlying4 rfl (hF.t rfl) (cell_ix (j := 2) (hS.cell (k := 1) rfl (rfl)) (by omega))) fun a hF => ?_)
  refine wpList_nil ?_
  refine then_normal (hKq4 _ _ ?_)
  refine cond_bool (hF.t rfl) (fun h12 => ?_) (fun h12 => ?_)
  ·
    refine wp_seq_k fun Kq5 hKq5 => ?_
    -- region 3 (ref.go:19)
    refine wp_region_lit ?_
    refine wpList_stp (stp_gv hF (wanted_none rfl) rfl rfl (gv_move rfl (hF.t rfl)) fun a hF => ?_)
    refine wpList_stp (stp_build1 (v := 1) hF (wanted_none rfl) rfl rfl rfl Tryd.underlying22 Tryd.ty5 rfl hS fun zb a w hF hS => ?_)
    refine wpList_stp (stp_app1 (k := 0) hF (wanted_none rfl) rfl rfl rfl Tryd.underlying22 Tryd.ty5 rfl (hF.t rfl) (hF.t rfl) hS rfl oo oc (by rw [List.length_append, textB_len, textB_len]; omega) fun o op a w hF oo oc hS => ?_)
    refine wpList_stp (stp_gv hF (wanted_none rfl) rfl rfl (gv_assign rfl (hF.t rfl)) fun a hF => ?_)
    refine wpList_nil ?_
    refine then_normal (hKq5 _ _ ?_)
    refine wp_ret ?_
    refine then_ret ?_
    refine ret1 (fn := Tryd.f63) (t := 2) hF rfl rfl ?_
    obtain ⟨o, rfl⟩ := own_some oo (by simp only [List.length_append, List.length_cons]; omega)
    rw [show textB al ++ textB cl ++ [1] = recB al cl p from by rw [recB, if_pos h12]] at hS oc ⊢
    exact ⟨o, op, rfl, oc, hS.drop2 rfl⟩
  ·
    refine wp_skip ?_
    refine then_normal (hKq3 _ _ ?_)
    refine wp_seq_k fun Kq6 hKq6 => ?_
    -- region 4 (ref.go:21)
    refine wp_region_lit ?_
    refine wpList_stp (stp_gv hF (wanted_none rfl) rfl rfl (gv_move rfl (hF.t rfl)) fun a hF => ?_)
    refine wpList_stp (stp_build1 (v := 0) hF (wanted_none rfl) rfl rfl rfl Tryd.underlying22 Tryd.ty5 rfl hS fun zb a w hF hS => ?_)
    refine wpList_stp (stp_app1 (k := 0) hF (wanted_none rfl) rfl rfl rfl Tryd.underlying22 Tryd.ty5 rfl (hF.t rfl) (hF.t rfl) hS rfl oo oc (by rw [List.length_append, textB_len, textB_len]; omega) fun o op a w hF oo oc hS => ?_)
    refine wpList_stp (stp_gv hF (wanted_none rfl) rfl rfl (gv_assign rfl (hF.t rfl)) fun a hF => ?_)
    refine wpList_nil ?_
    refine then_normal (hKq6 _ _ ?_)
    refine wp_ret ?_
    refine ret1 (fn := Tryd.f63) (t := 2) hF rfl rfl ?_
    obtain ⟨o, rfl⟩ := own_some oo (by simp only [List.length_append, List.length_cons]; omega)
    rw [show textB al ++ textB cl ++ [0] = recB al cl p from by rw [recB, if_neg (by rw [h12]; exact Bool.false_ne_true)]] at hS oc ⊢
    exact ⟨o, op, rfl, oc, hS.drop2 rfl⟩


end Go.Proofs.YtfhalnobaeogkaaDoor
