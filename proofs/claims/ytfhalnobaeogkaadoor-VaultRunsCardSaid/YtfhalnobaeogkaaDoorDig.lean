/- What is proved: the contracts of bits.RotateLeft32 and of digest.pad. -/
import Derived.Test.YtfhalnobaeogkaaDoorProg
import Derived.Test.YtfhalnobaeogkaaDoorFwSep
import Derived.KernelRfl
import Derived.Test.YtfhalnobaeogkaaDoorFwApp
import Derived.Test.YtfhalnobaeogkaaDoorFwWord
set_option linter.unusedVariables false
set_option linter.unusedSimpArgs false
namespace Go.Proofs.YtfhalnobaeogkaaDoor
open Go Go.RowKit Go.Fw

theorem Tryd.ty5 : Ty Tryd.prog 5 (Value.int .u8 0) 1 1 := ⟨by kernel_rfl⟩


def startsL : List UInt64 := [7640891576956012808, 13503953896175478587, 4354685564936845355, 11912009170470909681, 5840696475078001361, 11170449401992604703, 2270897969802886507, 6620516959819538809]
def stepsL : List UInt64 := [4794697086780616226, 8158064640168781261, 13096744586834688815, 16840607885511220156, 4131703408338449720, 6480981068601479193, 10538285296894168987, 12329834152419229976, 15566598209576043074, 1334009975649890238, 2608012711638119052, 6128411473006802146, 8268148722764581231, 9286055187155687089, 11230858885718282805, 13951009754708518548, 16472876342353939154, 17275323862435702243, 1135362057144423861, 2597628984639134821, 3308224258029322869, 5365058923640841347, 6679025012923562964, 8573033837759648693, 10970295158949994411, 12119686244451234320, 12683024718118986047, 13788192230050041572, 14330467153632333762, 15395433587784984357, 489312712824947311, 1452737877330783856, 2861767655752347644, 3322285676063803686, 5560940570517711597, 5996557281743188959, 7280758554555802590, 8532644243296465576, 9350256976987008742, 10552545826968843579, 11727347734174303076, 12113106623233404929, 14000437183269869457, 14369950271660146224, 15101387698204529176, 15463397548674623760, 17586052441742319658, 1182934255886127544, 1847814050463011016, 2177327727835720531, 2830643537854262169, 3796741975233480872, 4115178125766777443, 5681478168544905931, 6601373596472566643, 7507060721942968483, 8399075790359081724, 8693463985226723168, 9568029438360202098, 10144078919501101548, 10430055236837252648, 11840083180663258601, 13761210420658862357, 14299343276471374635, 14566680578165727644, 15097957966210449927, 16922976911328602910, 17689382322260857208, 500013540394364858, 748580250866718886, 1242879168328830382, 1977374033974150939, 2944078676154940804, 3659926193048069267, 4368137639120453308, 4836135668995329356, 5532061633213252278, 6448918945643986474, 6902733635092675308, 7801388544844847127]
/-- The tables of package digest lie in memory. -/
structure Glob (w : World) : Prop where
  st : ∀ i, i < 8 → w.cell? ⟨0, i, none⟩ = some (vD (startsL.getD i 0))
  sp : ∀ i, i < 80 → w.cell? ⟨1, i, none⟩ = some (vD (stepsL.getD i 0))
theorem Glob.ext {w w' : World} (h : Glob w) (hx : Ext w w') : Glob w' :=
  ⟨fun i hi => (cell_same (hx.block 0 (cell_lt (h.st i hi)))).trans (h.st i hi), fun i hi => (cell_same (hx.block 1 (cell_lt (h.sp i hi)))).trans (h.sp i hi)⟩
def rotl (x : UInt32) (k : Nat) : UInt32 := (x <<< UInt32.ofNat k) ||| (x >>> UInt32.ofNat (32 - k))
theorem and31 {k : Nat} (h : k < 32) : (UInt64.ofNat k &&& 31) = UInt64.ofNat k := by
  have : ∀ k, k < 32 → (UInt64.ofNat k &&& 31) = UInt64.ofNat k := by decide
  exact this k h
theorem toNat_small {k : Nat} (h : k < 32) : (UInt64.ofNat k).toNat = k := by rw [UInt64.toNat_ofNat']; omega
theorem sub32 {k : Nat} (h : k < 32) : ((32 : UInt64) - UInt64.ofNat k).toNat = 32 - k := by
  have : ∀ k, k < 32 → ((32 : UInt64) - UInt64.ofNat k).toNat = 32 - k := by decide
  exact this k h
theorem vD_small {k : Nat} (h : k < 32) : vD (UInt64.ofNat k) = .int .u64 (k : Int) := by rw [vD, toNat_small h]
theorem vD_sub32 {k : Nat} (h : k < 32) : vD ((32 : UInt64) - UInt64.ofNat k) = .int .u64 ((32 - k : Nat) : Int) := by rw [vD, sub32 h]


theorem rot_ok {k : Nat} (x : UInt32) (w0 : World) (h0 : 0 < k) (hk : k < 32) :
    Calls Tryd.prog 88 #[vW x, vI k] w0 fun e w' => e = .returned (vW (rotl x k)) ∧ Ext w0 w' := by
  refine calls_start 17 Tryd.func88 rfl Tryd.ntmps88 rfl fun a hF => ?_
  refine wp_seq_k fun Kq1 hKq1 => ?_
  -- region 0 (bits.go:207)
  refine wp_region_lit ?_
  refine wpList_stp (stp_gv hF (wanted_none rfl) rfl rfl (gv_assign rfl (ev_const _ _)) fun a hF => ?_)
  refine wpList_nil ?_
  refine then_normal (hKq1 _ _ ?_)
  refine wp_seq_k fun Kq2 hKq2 => ?_
  -- region 1 (bits.go:209)
  refine wp_region_lit ?_
  refine wpList_stp (stp_gv hF (wanted_none rfl) rfl rfl (gv_move rfl (hF.t rfl)) fun a hF => ?_)
  refine wpList_stp (stp_gv hF (wanted_none rfl) rfl rfl (gv_conv_i_d rfl Tryd.underlying3 Tryd.underlying125 (hF.t rfl)) fun a hF => ?_)
  refine wpList_stp (stp_gv hF (wanted_none rfl) rfl rfl (gv_d_and (n := 31) rfl (hF.t rfl) rfl) fun a hF => ?_)
  rw [and31 hk] at hF
  refine wpList_stp (stp_gv hF (wanted_none rfl) rfl rfl (gv_assign rfl (hF.t rfl)) fun a hF => ?_)
  rw [vD_small hk] at hF
  refine wpList_nil ?_
  refine then_normal (hKq2 _ _ ?_)
  refine wp_seq_k fun Kq3 hKq3 => ?_
  -- region 2 (bits.go:210)
  refine wp_region_lit ?_
  refine wpList_stp (stp_gv hF (wanted_none rfl) rfl rfl (gv_move rfl (hF.t rfl)) fun a hF => ?_)
  refine wpList_stp (stp_gv hF (wanted_none rfl) rfl rfl (gv_move rfl (hF.t rfl)) fun a hF => ?_)
  refine wpList_stp (stp_gv hF (wanted_none rfl) rfl rfl (gv_w_shl rfl (hF.t rfl) (hF.t rfl) hk) fun a hF => ?_)
  refine wpList_stp (stp_gv hF (wanted_none rfl) rfl rfl (gv_move rfl (hF.t rfl)) fun a hF => ?_)
  refine wpList_stp (stp_gv hF (wanted_none rfl) rfl rfl (gv_move rfl (hF.t rfl)) fun a hF => ?_)
  refine wpList_stp (stp_gv hF (wanted_none rfl) rfl rfl (gv_d_sub (m := 32) (n := UInt64.ofNat k) rfl rfl ((hF.t rfl).trans (vD_small hk).symm)) fun a hF => ?_)
  rw [vD_sub32 hk] at hF
  refine wpList_stp (stp_gv hF (wanted_none rfl) rfl rfl (gv_w_shr rfl (hF.t rfl) (hF.t rfl) (by omega)) fun a hF => ?_)
  refine wpList_stp (stp_gv hF (wanted_none rfl) rfl rfl (gv_w_or rfl (hF.t rfl) (hF.t rfl)) fun a hF => ?_)
  refine wpList_stp (stp_gv hF (wanted_none rfl) rfl rfl (gv_assign rfl (hF.t rfl)) fun a hF => ?_)
  refine wpList_nil ?_
  refine then_normal (hKq3 _ _ ?_)
  refine wp_ret ?_
  refine ret1 (fn := Tryd.f88) (t := 4) hF rfl rfl ?_
  exact ⟨rfl, Ext.refl _⟩


def pz (n : Nat) : Nat := (119 - n % 64) % 64
def lenB (n : Nat) : Nat → List UInt8
  | 0 => []
  | q + 1 => lenB n q ++ [((UInt64.ofNat n * 8) >>> UInt64.ofNat (8 * (7 - q))).toUInt8]
theorem lenB_len (n : Nat) : ∀ q, (lenB n q).length = q
  | 0 => rfl
  | q + 1 => by rw [lenB, List.length_append, lenB_len n q]; rfl
def padF (bl : List UInt8) : List UInt8 := bl ++ [128] ++ List.replicate (pz bl.length) 0 ++ lenB bl.length 8
theorem padF_len (bl : List UInt8) : (padF bl).length = bl.length + 9 + pz bl.length := by
  simp only [padF, List.length_append, List.length_replicate, lenB_len, List.length_cons, List.length_nil]; omega
theorem padF_mul (bl : List UInt8) : (padF bl).length = 64 * ((padF bl).length / 64) := by
  rw [padF_len, pz]; omega
def c1 (bl : List UInt8) (z : Nat) : List UInt8 := bl ++ [128] ++ List.replicate z 0
def c2 (bl : List UInt8) (q : Nat) : List UInt8 := bl ++ [128] ++ List.replicate (pz bl.length) 0 ++ lenB bl.length q
theorem c1_zero (bl : List UInt8) : bl ++ [128] = c1 bl 0 := by simp [c1]
theorem c1_succ (bl : List UInt8) (z : Nat) : c1 bl z ++ [0] = c1 bl (z + 1) := by rw [c1, c1, List.append_assoc, ← List.replicate_succ']
theorem c1_len (bl : List UInt8) (z : Nat) : (c1 bl z).length = bl.length + 1 + z := by simp [c1]; omega
theorem c2_zero (bl : List UInt8) : c1 bl (pz bl.length) = c2 bl 0 := by simp [c1, c2, lenB]
theorem c2_succ (bl : List UInt8) (q j : Nat) (h : j = 7 - q) : c2 bl q ++ [((UInt64.ofNat bl.length * 8) >>> UInt64.ofNat (8 * j)).toUInt8] = c2 bl (q + 1) := by rw [c2, c2, List.append_assoc, lenB, h]
theorem c2_len (bl : List UInt8) (q : Nat) : (c2 bl q).length = bl.length + 1 + pz bl.length + q := by simp [c2, lenB_len]; omega
theorem c2_pad (bl : List UInt8) : c2 bl 8 = padF bl := rfl
theorem pz_lt (n : Nat) : pz n < 64 := by unfold pz; omega
theorem rep_snoc (l : List UInt8) (z : Nat) : l ++ List.replicate z 0 ++ [0] = l ++ List.replicate (z + 1) 0 := by
  rw [List.append_assoc, List.replicate_succ']
def dctr (j : Nat) : Value := .int .i64 ((j : Int) - 1)
theorem dctr_succ (j : Nat) : dctr (j + 1) = vI j := by
  unfold dctr vI
  rw [show (((j + 1 : Nat) : Int) - 1) = (j : Int) by omega]


theorem pad_ok {bv : Value} {bl : List UInt8} {w0 : World} (hb : Rd w0 bv (bl.map vB)) (hn : bl.length ≤ 1099511627776) :
    Calls Tryd.prog 87 #[bv, vI 64] w0 fun e w' => ∃ o op, e = .returned (ownV o (padF bl).length ((padF bl).length + op.length)) ∧ (o = none → padF bl = [] ∧ op = []) ∧ (padF bl).length + op.length ≤ 9223372036854775807 ∧ St w0 w' [⟨true, o, blk 5 ((padF bl).map vB ++ op)⟩] := by
  obtain ⟨Ab, cb, rfl, hb1, hb2, hbc⟩ := hb.isB
  clear hbc
  refine calls_start 44 Tryd.func87 rfl Tryd.ntmps87 rfl fun a hF => ?_
  have hS := St.refl w0
  refine wp_seq_k fun Kq1 hKq1 => ?_
  -- region 0 (digest.go:37)
  refine wp_region_lit ?_
  refine wpList_stp (stp_gv hF (wanted_none rfl) rfl rfl (gv_assign rfl (ev_const _ _)) fun a hF => ?_)
  refine wpList_nil ?_
  refine then_normal (hKq1 _ _ ?_)
  refine wp_seq_k fun Kq2 hKq2 => ?_
  -- region 1 (digest.go:38)
  refine wp_region_lit ?_
  refine wpList_stp (stp_gv hF (wanted_none rfl) rfl rfl (gv_move rfl (hF.t rfl)) fun a hF => ?_)
  replace hS := hS.addNil (blk 5 (([] : List UInt8).map vB ++ []))
  refine wpList_stp (stp_appB (ob := none) (l := []) (pad := []) (k := 0) hF (wanted_none rfl) rfl rfl rfl Tryd.underlying22 Tryd.ty5 rfl (ev_const _ _) (hF.t rfl) hS rfl (fun _ => ⟨rfl, rfl⟩) (by simp) (hb) (by simp; omega) fun o op a w hF oo oc hS => ?_)
  simp only [List.nil_append] at hF oo oc hS
  refine wpList_stp (stp_build1 (v := 128) hF (wanted_none rfl) rfl rfl rfl Tryd.underlying22 Tryd.ty5 rfl hS fun zb a w hF hS => ?_)
  refine wpList_stp (stp_app1 (k := 0) hF (wanted_none rfl) rfl rfl rfl Tryd.underlying22 Tryd.ty5 rfl (hF.t rfl) (hF.t rfl) hS rfl oo oc (by omega) fun o op a w hF oo oc hS => ?_)
  refine wpList_stp (stp_gv hF (wanted_none rfl) rfl rfl (gv_assign rfl (hF.t rfl)) fun a hF => ?_)
  refine wpList_nil ?_
  refine then_normal (hKq2 _ _ ?_)
  refine wp_seq_k fun Kq3 hKq3 => ?_
  refine wp_block ?_
  rw [c1_zero] at hF oo oc hS
  have hz0 := pz_lt bl.length
  refine wp_loop_n (fun n a w => ∃ (z : Nat) (o : Option Nat) (op : List Value), z ≤ pz bl.length ∧ n = pz bl.length - z ∧ (o = none → (c1 bl z) = [] ∧ op = []) ∧ ((c1 bl z)).length + op.length ≤ 9223372036854775807 ∧ Fr 44 a [(0, .slice Ab bl.length cb), (1, vI 64), (5, ownV o (c1 bl z).length ((c1 bl z).length + op.length))] ∧ St w0 w [⟨true, o, blk 5 (((c1 bl z)).map vB ++ op)⟩]) (pz bl.length) ⟨0, o, op, by omega, by omega, oo, oc, hF.sub ⟨rfl, rfl, rfl, trivial⟩, hS⟩ ?_
  rintro n a w ⟨z, o, op, hz, hn, oo, oc, hF, hS⟩
  have hzl := c1_len bl z
  refine wp_seq_k fun Kq4 hKq4 => ?_
  refine wp_seq_k fun Kq5 hKq5 => ?_
  -- region 2 (digest.go:39)
  refine wp_region_lit ?_
  refine wpList_stp (stp_gv hF (wanted_none rfl) rfl rfl (gv_move rfl (hF.t rfl)) fun a hF => ?_)
  refine wpList_stp (stp_gv hF (wanted_none rfl) rfl rfl (gv_lenOwn rfl Tryd.underlying22 (hF.t rfl) (fun h => by rw [(oo h).1]; rfl)) fun a hF => ?_)
  refine wpList_stp (stp_gv hF (wanted_none rfl) rfl rfl (gv_move rfl (hF.t rfl)) fun a hF => ?_)
  refine wpList_stp (stp_gv hF (wanted_none rfl) rfl rfl (gv_nrem rfl (hF.t rfl) (hF.t rfl) (by omega)) fun a hF => ?_)
  refine wpList_stp (stp_gv hF (wanted_none rfl) rfl rfl (gv_move rfl (hF.t rfl)) fun a hF => ?_)
  refine wpList_stp (stp_gv hF (wanted_none rfl) rfl rfl (gv_move rfl (hF.t rfl)) fun a hF => ?_)
  refine wpList_stp (stp_gv hF (wanted_none rfl) rfl rfl (gv_nquo (n := 8) rfl (hF.t rfl) rfl (by omega) (by omega)) fun a hF => ?_)
  refine wpList_stp (stp_gv hF (wanted_none rfl) rfl rfl (gv_nsub rfl (hF.t rfl) (hF.t rfl) (by omega) (by omega)) fun a hF => ?_)
  refine wpList_stp (stp_gv hF (wanted_none rfl) rfl rfl (gv_neq rfl (hF.t rfl) (hF.t rfl)) fun a hF => ?_)
  refine wpList_nil ?_
  refine then_normal (hKq5 _ _ ?_)
  refine cond_dec (hF.t rfl) (fun h19 => ?_) (fun h19 => ?_)
  ·
    refine wp_skip ?_
    refine then_normal (hKq4 _ _ ?_)
    refine wp_block ?_
    -- region 3 (digest.go:40)
    refine wp_region_lit ?_
    refine wpList_stp (stp_gv hF (wanted_none rfl) rfl rfl (gv_move rfl (hF.t rfl)) fun a hF => ?_)
    refine wpList_stp (stp_build1 (v := 0) hF (wanted_none rfl) rfl rfl rfl Tryd.underlying22 Tryd.ty5 rfl hS fun zb a w hF hS => ?_)
    refine wpList_stp (stp_app1 (k := 0) hF (wanted_none rfl) rfl rfl rfl Tryd.underlying22 Tryd.ty5 rfl (hF.t rfl) (hF.t rfl) hS rfl oo oc (by omega) fun o op a w hF oo oc hS => ?_)
    refine wpList_stp (stp_gv hF (wanted_none rfl) rfl rfl (gv_assign rfl (hF.t rfl)) fun a hF => ?_)
    refine wpList_nil ?_
    refine block_normal ?_
    refine then_normal ?_
    rw [c1_succ] at hF oo oc hS
    have hlt : z < pz bl.length := by unfold pz at *; omega
    exact ⟨n - 1, by omega, z + 1, o, op, by omega, by omega, oo, oc, hF.sub ⟨rfl, rfl, rfl, trivial⟩, hS⟩
  ·
    refine wp_exit ?_
    refine then_exit ?_
    refine then_exit ?_
    refine block_exit ?_
    refine then_normal (hKq3 _ _ ?_)
    refine wp_seq_k fun Kq6 hKq6 => ?_
    -- region 4 (digest.go:42)
    refine wp_region_lit ?_
    refine wpList_stp (stp_gv hF (wanted_none rfl) rfl rfl (gv_move rfl (hF.t rfl)) fun a hF => ?_)
    refine wpList_stp (stp_gv hF (wanted_none rfl) rfl rfl (gv_move rfl (hF.t rfl)) fun a hF => ?_)
    refine wpList_stp (stp_gv hF (wanted_none rfl) rfl rfl (gv_nquo (m := 64) (n := 8) rfl (hF.t rfl) rfl (by omega) (by omega)) fun a hF => ?_)
    refine wpList_stp (stp_gv hF (wanted_none rfl) rfl rfl (gv_nsub (n := 8) rfl (hF.t rfl) rfl (by omega) (by omega)) fun a hF => ?_)
    obtain ⟨Ao, hAo, _⟩ := ownV_pos (ob := o) (n := (c1 bl z).length) (c := (c1 bl z).length + op.length) (hi := 0) (fun h => by rw [(oo h).1, (oo h).2]; exact ⟨rfl, rfl⟩) (Nat.zero_le _)
    rw [hAo] at hF
    refine wpList_stp (stp_app0 hF (wanted_none rfl) rfl rfl rfl Tryd.underlying22 Tryd.underlying3 Tryd.ty5 (hF.t rfl) (hF.t rfl) (by omega) fun a hF => ?_)
    rw [← hAo] at hF
    clear hAo
    refine wpList_stp (stp_gv hF (wanted_none rfl) rfl rfl (gv_assign rfl (hF.t rfl)) fun a hF => ?_)
    refine wpList_nil ?_
    refine then_normal (hKq6 _ _ ?_)
    refine wp_seq_k fun Kq7 hKq7 => ?_
    refine wp_seq_k fun Kq8 hKq8 => ?_
    -- region 5 (digest.go:43)
    refine wp_region_lit ?_
    refine wpList_stp (stp_gv hF (wanted_none rfl) rfl rfl (gv_assign rfl (ev_const _ _)) fun a hF => ?_)
    refine wpList_nil ?_
    refine then_normal (hKq8 _ _ ?_)
    refine wp_block ?_
    obtain rfl : z = pz bl.length := by unfold pz at *; omega
    rw [c2_zero] at hF oo oc hS
    refine wp_loop_n (fun q1 a w => ∃ (q j : Nat) (o : Option Nat) (op : List Value), q + j = 8 ∧ q1 = j ∧ (o = none → (c2 bl q) = [] ∧ op = []) ∧ ((c2 bl q)).length + op.length ≤ 9223372036854775807 ∧ Fr 44 a [(0, .slice Ab bl.length cb), (1, vI 64), (5, ownV o (c2 bl q).length ((c2 bl q).length + op.length)), (6, dctr j)] ∧ St w0 w [⟨true, o, blk 5 (((c2 bl q)).map vB ++ op)⟩]) 8 ⟨0, 8, o, op, rfl, rfl, oo, oc, hF.sub ⟨rfl, rfl, rfl, rfl, trivial⟩, hS⟩ ?_
    rintro q1 a w ⟨q, j, o, op, hqj, hn, oo, oc, hF, hS⟩
    have hzl := c2_len bl q
    refine wp_seq_k fun Kq9 hKq9 => ?_
    refine wp_seq_k fun Kq10 hKq10 => ?_
    -- region 6 (digest.go:43)
    refine wp_region_lit ?_
    refine wpList_stp (stp_gv hF (wanted_none rfl) rfl rfl (gv_move rfl (hF.t rfl)) fun a hF => ?_)
    refine wpList_stp (stp_gv hF (wanted_none rfl) rfl rfl (gv_geq rfl (hF.t rfl) (ev_const _ _)) fun a hF => ?_)
    refine wpList_nil ?_
    refine then_normal (hKq10 _ _ ?_)
    refine cond_dec (hF.t rfl) (fun h29 => ?_) (fun h29 => ?_)
    ·
      obtain ⟨j, rfl⟩ : ∃ i, j = i + 1 := ⟨j - 1, by omega⟩
      have hF0 := hF
      replace hF : Fr 44 a [(0, .slice Ab bl.length cb), (1, vI 64), (5, ownV o (c2 bl q).length ((c2 bl q).length + op.length)), (6, vI j)] := hF.sub ⟨rfl, rfl, rfl, congrArg some (dctr_succ j), trivial⟩
      clear hF0
      refine wp_skip ?_
      refine then_normal (hKq9 _ _ ?_)
      refine wp_seq_k fun Kq11 hKq11 => ?_
      refine wp_block ?_
      -- region 8 (digest.go:44)
      refine wp_region_lit ?_
      refine wpList_stp (stp_gv hF (wanted_none rfl) rfl rfl (gv_move rfl (hF.t rfl)) fun a hF => ?_)
      refine wpList_stp (stp_gv hF (wanted_none rfl) rfl rfl (gv_move rfl (hF.t rfl)) fun a hF => ?_)
      refine wpList_stp (stp_gv hF (wanted_none rfl) rfl rfl (gv_len rfl Tryd.underlying22 (hF.t rfl)) fun a hF => ?_)
      refine wpList_stp (stp_gv hF (wanted_none rfl) rfl rfl (gv_conv_i_d rfl Tryd.underlying3 Tryd.underlying76 (hF.t rfl)) fun a hF => ?_)
      refine wpList_stp (stp_gv hF (wanted_none rfl) rfl rfl (gv_d_mul (n := 8) rfl (hF.t rfl) rfl) fun a hF => ?_)
      refine wpList_stp (stp_gv hF (wanted_none rfl) rfl rfl (gv_move rfl (hF.t rfl)) fun a hF => ?_)
      refine wpList_stp (stp_gv hF (wanted_none rfl) rfl rfl (gv_nmul (m := 8) rfl rfl (hF.t rfl) (by omega)) fun a hF => ?_)
      refine wpList_stp (stp_gv hF (wanted_none rfl) rfl rfl (gv_d_shr rfl (hF.t rfl) (hF.t rfl) (by omega)) fun a hF => ?_)
      refine wpList_stp (stp_gv hF (wanted_none rfl) rfl rfl (gv_conv_d_b rfl Tryd.underlying76 Tryd.underlying5 (hF.t rfl)) fun a hF => ?_)
      refine wpList_stp (stp_build1 (v := _) hF (wanted_none rfl) rfl rfl rfl Tryd.underlying22 Tryd.ty5 (hF.t rfl) hS fun zb a w hF hS => ?_)
      refine wpList_stp (stp_app1 (k := 0) hF (wanted_none rfl) rfl rfl rfl Tryd.underlying22 Tryd.ty5 rfl (hF.t rfl) (hF.t rfl) hS rfl oo oc (by omega) fun o op a w hF oo oc hS => ?_)
      refine wpList_stp (stp_gv hF (wanted_none rfl) rfl rfl (gv_assign rfl (hF.t rfl)) fun a hF => ?_)
      refine wpList_nil ?_
      refine block_normal ?_
      refine then_normal (hKq11 _ _ ?_)
      -- region 7 (digest.go:43)
      refine wp_region_lit ?_
      refine wpList_stp (stp_gv hF (wanted_none rfl) rfl rfl (gv_move rfl (hF.t rfl)) fun a hF => ?_)
      refine wpList_stp (stp_gv hF (wanted_none rfl) rfl rfl (gv_sub rfl (hF.t rfl) (ev_const _ _) (by omega) (by omega)) fun a hF => ?_)
      refine wpList_stp (stp_gv hF (wanted_none rfl) rfl rfl (gv_assign rfl (hF.t rfl)) fun a hF => ?_)
      refine wpList_nil ?_
      refine then_normal ?_
      rw [c2_succ _ _ _ (show j = 7 - q by omega)] at hF oo oc hS
      exact ⟨q1 - 1, by omega, q + 1, j, o, op, by omega, by omega, oo, oc, hF.sub ⟨rfl, rfl, rfl, rfl, trivial⟩, hS⟩
    ·
      refine wp_exit ?_
      refine then_exit ?_
      refine then_exit ?_
      refine block_exit ?_
      refine then_normal (hKq7 _ _ ?_)
      refine wp_seq_k fun Kq12 hKq12 => ?_
      obtain rfl : j = 0 := by omega
      obtain rfl : q = 8 := by omega
      rw [c2_pad] at hF oo oc hS
      -- region 9 (digest.go:46)
      refine wp_region_lit ?_
      refine wpList_stp (stp_gv hF (wanted_none rfl) rfl rfl (gv_move rfl (hF.t rfl)) fun a hF => ?_)
      refine wpList_stp (stp_gv hF (wanted_none rfl) rfl rfl (gv_assign rfl (hF.t rfl)) fun a hF => ?_)
      refine wpList_nil ?_
      refine then_normal (hKq12 _ _ ?_)
      refine wp_ret ?_
      refine ret1 (fn := Tryd.f87) (t := 4) hF rfl rfl ?_
      exact ⟨o, op, rfl, oo, oc, hS⟩


end Go.Proofs.YtfhalnobaeogkaaDoor
