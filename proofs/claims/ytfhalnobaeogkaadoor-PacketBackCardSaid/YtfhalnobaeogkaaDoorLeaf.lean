/- What is proved: the contracts of the functions of cipher that call nothing. -/
import Derived.Test.YtfhalnobaeogkaaDoorProg
import Derived.Test.YtfhalnobaeogkaaDoorFwSep
import Derived.KernelRfl
set_option linter.unusedVariables false
set_option linter.unusedSimpArgs false
namespace Go.Proofs.YtfhalnobaeogkaaDoor
open Go Go.RowKit Go.Fw

theorem Tryd.sz5 : (Tryd.prog.info? 5).map (·.size) = some 1 := by kernel_rfl
theorem Tryd.sz136 : (Tryd.prog.info? 136).map (·.size) = some 256 := by kernel_rfl
theorem Tryd.zv136 : (Tryd.prog.info? 136).map (·.zero) = some (some (Value.agg ((List.replicate 256 (0 : UInt8)).map vB).toArray)) := by kernel_rfl


/-- A byte times x. -/
def dbl (x : UInt8) : UInt8 := if x &&& 128 ≠ 0 then (x <<< 1) ^^^ 27 else x <<< 1
theorem dbl_yes {x : UInt8} (h : ((x &&& 128).toNat : Int) ≠ 0) : (x <<< UInt8.ofNat 1) ^^^ 27 = dbl x := by
  have h' : x &&& 128 ≠ 0 := fun e => h (by rw [e]; rfl)
  unfold dbl; rw [if_pos h']; rfl
theorem dbl_no {x : UInt8} (h : ¬ ((x &&& 128).toNat : Int) ≠ 0) : x <<< UInt8.ofNat 1 = dbl x := by
  have h' : ¬ (x &&& 128 ≠ 0) := fun e => h fun h0 => e (UInt8.toNat_inj.1 (by rw [Int.natCast_eq_zero.1 h0]; rfl))
  unfold dbl; rw [if_neg h']; rfl
/-- Each byte's other one. -/
def swapL : List UInt8 := [99, 124, 119, 123, 242, 107, 111, 197, 48, 1, 103, 43, 254, 215, 171, 118, 202, 130, 201, 125, 250, 89, 71, 240, 173, 212, 162, 175, 156, 164, 114, 192, 183, 253, 147, 38, 54, 63, 247, 204, 52, 165, 229, 241, 113, 216, 49, 21, 4, 199, 35, 195, 24, 150, 5, 154, 7, 18, 128, 226, 235, 39, 178, 117, 9, 131, 44, 26, 27, 110, 90, 160, 82, 59, 214, 179, 41, 227, 47, 132, 83, 209, 0, 237, 32, 252, 177, 91, 106, 203, 190, 57, 74, 76, 88, 207, 208, 239, 170, 251, 67, 77, 51, 133, 69, 249, 2, 127, 80, 60, 159, 168, 81, 163, 64, 143, 146, 157, 56, 245, 188, 182, 218, 33, 16, 255, 243, 210, 205, 12, 19, 236, 95, 151, 68, 23, 196, 167, 126, 61, 100, 93, 25, 115, 96, 129, 79, 220, 34, 42, 144, 136, 70, 238, 184, 20, 222, 94, 11, 219, 224, 50, 58, 10, 73, 6, 36, 92, 194, 211, 172, 98, 145, 149, 228, 121, 231, 200, 55, 109, 141, 213, 78, 169, 108, 86, 244, 234, 101, 122, 174, 8, 186, 120, 37, 46, 28, 166, 180, 198, 232, 221, 116, 31, 75, 189, 139, 138, 112, 62, 181, 102, 72, 3, 246, 14, 97, 53, 87, 185, 134, 193, 29, 158, 225, 248, 152, 17, 105, 217, 142, 148, 155, 30, 135, 233, 206, 85, 40, 223, 140, 161, 137, 13, 191, 230, 66, 104, 65, 153, 45, 15, 176, 84, 187, 22]
theorem swapL_len : swapL.length = 256 := by decide +kernel
def sb (x : UInt8) : UInt8 := swapL.getD x.toNat 0
theorem sw_at (x : UInt8) : ((swapL.map vB).toArray)[x.toNat]? = some (vB (sb x)) := by
  have h : x.toNat < swapL.length := by rw [swapL_len]; exact x.toNat_lt
  have := map_at (f := vB) h 0
  simpa [sb] using this

theorem swap_fill : Instr.fill (fun i => some (i * 1, 1)) ((List.replicate 256 (0 : UInt8)).map vB).toArray [(0, .int .u8 99), (1, .int .u8 124), (2, .int .u8 119), (3, .int .u8 123), (4, .int .u8 242), (5, .int .u8 107), (6, .int .u8 111), (7, .int .u8 197), (8, .int .u8 48), (9, .int .u8 1), (10, .int .u8 103), (11, .int .u8 43), (12, .int .u8 254), (13, .int .u8 215), (14, .int .u8 171), (15, .int .u8 118), (16, .int .u8 202), (17, .int .u8 130), (18, .int .u8 201), (19, .int .u8 125), (20, .int .u8 250), (21, .int .u8 89), (22, .int .u8 71), (23, .int .u8 240), (24, .int .u8 173), (25, .int .u8 212), (26, .int .u8 162), (27, .int .u8 175), (28, .int .u8 156), (29, .int .u8 164), (30, .int .u8 114), (31, .int .u8 192), (32, .int .u8 183), (33, .int .u8 253), (34, .int .u8 147), (35, .int .u8 38), (36, .int .u8 54), (37, .int .u8 63), (38, .int .u8 247), (39, .int .u8 204), (40, .int .u8 52), (41, .int .u8 165), (42, .int .u8 229), (43, .int .u8 241), (44, .int .u8 113), (45, .int .u8 216), (46, .int .u8 49), (47, .int .u8 21), (48, .int .u8 4), (49, .int .u8 199), (50, .int .u8 35), (51, .int .u8 195), (52, .int .u8 24), (53, .int .u8 150), (54, .int .u8 5), (55, .int .u8 154), (56, .int .u8 7), (57, .int .u8 18), (58, .int .u8 128), (59, .int .u8 226), (60, .int .u8 235), (61, .int .u8 39), (62, .int .u8 178), (63, .int .u8 117), (64, .int .u8 9), (65, .int .u8 131), (66, .int .u8 44), (67, .int .u8 26), (68, .int .u8 27), (69, .int .u8 110), (70, .int .u8 90), (71, .int .u8 160), (72, .int .u8 82), (73, .int .u8 59), (74, .int .u8 214), (75, .int .u8 179), (76, .int .u8 41), (77, .int .u8 227), (78, .int .u8 47), (79, .int .u8 132), (80, .int .u8 83), (81, .int .u8 209), (82, .int .u8 0), (83, .int .u8 237), (84, .int .u8 32), (85, .int .u8 252), (86, .int .u8 177), (87, .int .u8 91), (88, .int .u8 106), (89, .int .u8 203), (90, .int .u8 190), (91, .int .u8 57), (92, .int .u8 74), (93, .int .u8 76), (94, .int .u8 88), (95, .int .u8 207), (96, .int .u8 208), (97, .int .u8 239), (98, .int .u8 170), (99, .int .u8 251), (100, .int .u8 67), (101, .int .u8 77), (102, .int .u8 51), (103, .int .u8 133), (104, .int .u8 69), (105, .int .u8 249), (106, .int .u8 2), (107, .int .u8 127), (108, .int .u8 80), (109, .int .u8 60), (110, .int .u8 159), (111, .int .u8 168), (112, .int .u8 81), (113, .int .u8 163), (114, .int .u8 64), (115, .int .u8 143), (116, .int .u8 146), (117, .int .u8 157), (118, .int .u8 56), (119, .int .u8 245), (120, .int .u8 188), (121, .int .u8 182), (122, .int .u8 218), (123, .int .u8 33), (124, .int .u8 16), (125, .int .u8 255), (126, .int .u8 243), (127, .int .u8 210), (128, .int .u8 205), (129, .int .u8 12), (130, .int .u8 19), (131, .int .u8 236), (132, .int .u8 95), (133, .int .u8 151), (134, .int .u8 68), (135, .int .u8 23), (136, .int .u8 196), (137, .int .u8 167), (138, .int .u8 126), (139, .int .u8 61), (140, .int .u8 100), (141, .int .u8 93), (142, .int .u8 25), (143, .int .u8 115), (144, .int .u8 96), (145, .int .u8 129), (146, .int .u8 79), (147, .int .u8 220), (148, .int .u8 34), (149, .int .u8 42), (150, .int .u8 144), (151, .int .u8 136), (152, .int .u8 70), (153, .int .u8 238), (154, .int .u8 184), (155, .int .u8 20), (156, .int .u8 222), (157, .int .u8 94), (158, .int .u8 11), (159, .int .u8 219), (160, .int .u8 224), (161, .int .u8 50), (162, .int .u8 58), (163, .int .u8 10), (164, .int .u8 73), (165, .int .u8 6), (166, .int .u8 36), (167, .int .u8 92), (168, .int .u8 194), (169, .int .u8 211), (170, .int .u8 172), (171, .int .u8 98), (172, .int .u8 145), (173, .int .u8 149), (174, .int .u8 228), (175, .int .u8 121), (176, .int .u8 231), (177, .int .u8 200), (178, .int .u8 55), (179, .int .u8 109), (180, .int .u8 141), (181, .int .u8 213), (182, .int .u8 78), (183, .int .u8 169), (184, .int .u8 108), (185, .int .u8 86), (186, .int .u8 244), (187, .int .u8 234), (188, .int .u8 101), (189, .int .u8 122), (190, .int .u8 174), (191, .int .u8 8), (192, .int .u8 186), (193, .int .u8 120), (194, .int .u8 37), (195, .int .u8 46), (196, .int .u8 28), (197, .int .u8 166), (198, .int .u8 180), (199, .int .u8 198), (200, .int .u8 232), (201, .int .u8 221), (202, .int .u8 116), (203, .int .u8 31), (204, .int .u8 75), (205, .int .u8 189), (206, .int .u8 139), (207, .int .u8 138), (208, .int .u8 112), (209, .int .u8 62), (210, .int .u8 181), (211, .int .u8 102), (212, .int .u8 72), (213, .int .u8 3), (214, .int .u8 246), (215, .int .u8 14), (216, .int .u8 97), (217, .int .u8 53), (218, .int .u8 87), (219, .int .u8 185), (220, .int .u8 134), (221, .int .u8 193), (222, .int .u8 29), (223, .int .u8 158), (224, .int .u8 225), (225, .int .u8 248), (226, .int .u8 152), (227, .int .u8 17), (228, .int .u8 105), (229, .int .u8 217), (230, .int .u8 142), (231, .int .u8 148), (232, .int .u8 155), (233, .int .u8 30), (234, .int .u8 135), (235, .int .u8 233), (236, .int .u8 206), (237, .int .u8 85), (238, .int .u8 40), (239, .int .u8 223), (240, .int .u8 140), (241, .int .u8 161), (242, .int .u8 137), (243, .int .u8 13), (244, .int .u8 191), (245, .int .u8 230), (246, .int .u8 66), (247, .int .u8 104), (248, .int .u8 65), (249, .int .u8 153), (250, .int .u8 45), (251, .int .u8 15), (252, .int .u8 176), (253, .int .u8 84), (254, .int .u8 187), (255, .int .u8 22)] = some (swapL.map vB).toArray := by kernel_rfl


theorem double_any (x : UInt8) (w : World) :
    Calls Tryd.prog 70 #[vB x] w fun e w' => e = .returned (vB (dbl x)) ∧ Ext w w' := by
  refine calls_start 11 Tryd.func70 rfl Tryd.ntmps70 rfl fun a hF => ?_
  refine wp_seq_k fun Kq1 hKq1 => ?_
  -- region 0 (cipher.go:36)
  refine wp_region_lit ?_
  refine wpList_stp (stp_gv hF (wanted_none rfl) rfl rfl (gv_assign rfl (ev_const _ _)) fun a hF => ?_)
  refine wpList_nil ?_
  refine then_normal (hKq1 _ _ ?_)
  refine wp_seq_k fun Kq2 hKq2 => ?_
  refine wp_seq_k fun Kq3 hKq3 => ?_
  -- region 1 (cipher.go:37)
  refine wp_region_lit ?_
  refine wpList_stp (stp_gv hF (wanted_none rfl) rfl rfl (gv_move rfl (hF.t rfl)) fun a hF => ?_)
  refine wpList_stp (stp_gv hF (wanted_none rfl) rfl rfl (gv_b_and (n := 128) rfl (hF.t rfl) rfl) fun a hF => ?_)
  refine wpList_stp (stp_gv hF (wanted_none rfl) rfl rfl (gv_neq rfl (hF.t rfl) (ev_const _ _)) fun a hF => ?_)
  refine wpList_nil ?_
  refine then_normal (hKq3 _ _ ?_)
  refine cond_dec (hF.t rfl) (fun hc5 => ?_) (fun hc5 => ?_)
  ·
    refine wp_seq_k fun Kq4 hKq4 => ?_
    -- region 2 (cipher.go:38)
    refine wp_region_lit ?_
    refine wpList_stp (stp_gv hF (wanted_none rfl) rfl rfl (gv_move rfl (hF.t rfl)) fun a hF => ?_)
    refine wpList_stp (stp_gv hF (wanted_none rfl) rfl rfl (gv_b_shl (n := 1) rfl (hF.t rfl) rfl (by omega)) fun a hF => ?_)
    refine wpList_stp (stp_gv hF (wanted_none rfl) rfl rfl (gv_b_xor (n := 27) rfl (hF.t rfl) rfl) fun a hF => ?_)
    refine wpList_stp (stp_gv hF (wanted_none rfl) rfl rfl (gv_assign rfl (hF.t rfl)) fun a hF => ?_)
    refine wpList_nil ?_
    refine then_normal (hKq4 _ _ ?_)
    refine wp_ret ?_
    refine then_ret ?_
    refine ret1 (fn := Tryd.f70) (t := 2) hF rfl rfl ?_
    exact ⟨by rw [dbl_yes hc5], Ext.refl _⟩
  ·
    refine wp_skip ?_
    refine then_normal (hKq2 _ _ ?_)
    refine wp_seq_k fun Kq5 hKq5 => ?_
    -- region 3 (cipher.go:40)
    refine wp_region_lit ?_
    refine wpList_stp (stp_gv hF (wanted_none rfl) rfl rfl (gv_move rfl (hF.t rfl)) fun a hF => ?_)
    refine wpList_stp (stp_gv hF (wanted_none rfl) rfl rfl (gv_b_shl (n := 1) rfl (hF.t rfl) rfl (by omega)) fun a hF => ?_)
    refine wpList_stp (stp_gv hF (wanted_none rfl) rfl rfl (gv_assign rfl (hF.t rfl)) fun a hF => ?_)
    refine wpList_nil ?_
    refine then_normal (hKq5 _ _ ?_)
    refine wp_ret ?_
    refine ret1 (fn := Tryd.f70) (t := 2) hF rfl rfl ?_
    exact ⟨by rw [dbl_no hc5], Ext.refl _⟩

set_option maxRecDepth 100000 in
theorem swap_any (w : World) :
    Calls Tryd.prog 69 #[] w fun e w' => e = .returned (.agg (swapL.map vB).toArray) ∧ Ext w w' := by
  refine calls_start 2 Tryd.func69 rfl Tryd.ntmps69 rfl fun a hF => ?_
  have hS := St.refl w
  refine wp_seq_k fun Kq1 hKq1 => ?_
  -- region 0 (cipher.go:7)
  refine wp_region_lit ?_
  refine wpList_stp (stp_alloc hF (wanted_none rfl) rfl rfl rfl Tryd.zv136 rfl hS fun b0 a w hF hS => ?_)
  refine wpList_nil ?_
  refine then_normal (hKq1 _ _ ?_)
  refine wp_seq_k fun Kq2 hKq2 => ?_
  -- region 1 (cipher.go:8)
  refine wp_region_lit ?_
  refine wpList_stp (stp_gv hF (wanted_none rfl) rfl rfl (gv_build rfl rfl (run_buildArr Tryd.underlying136 Tryd.sz5 Tryd.zv136 rfl swap_fill)) fun a hF => ?_)
  refine wpList_stp (stp_storeAll hF (wanted_none rfl) rfl rfl (Tryd.sz136.trans (congrArg some (by simp [swapL_len]))) (hF.t rfl) (hF.t rfl) (one_B _) hS (k := 0) rfl (by simp [swapL_len]) fun w hS => ?_)
  refine wpList_nil ?_
  refine then_normal (hKq2 _ _ ?_)
  refine wp_ret ?_
  refine retCell (fn := Tryd.f69) hF rfl Tryd.underlying136 rfl (Tryd.sz136.trans (congrArg some (by simp [swapL_len]))) rfl hS (k := 0) rfl ⟨rfl, hS.toExt (by simp)⟩


end Go.Proofs.YtfhalnobaeogkaaDoor
