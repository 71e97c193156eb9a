/- What is proved: the contract of vault.Open. -/
import Derived.Test.YtfhalnobaeogkaaDoorProg
import Derived.Test.YtfhalnobaeogkaaDoorFwSep
import Derived.KernelRfl
import Derived.Test.YtfhalnobaeogkaaDoorFwSto
import Derived.Test.YtfhalnobaeogkaaDoorFwVlt
import Derived.Test.YtfhalnobaeogkaaDoorFwApp
import Derived.Test.YtfhalnobaeogkaaDoorFwWord
import Derived.Test.YtfhalnobaeogkaaDoorFwPkt
import Derived.Test.YtfhalnobaeogkaaDoorFwTok
import Derived.Test.YtfhalnobaeogkaaDoorDig
import Derived.Test.YtfhalnobaeogkaaDoorSum
import Derived.Test.YtfhalnobaeogkaaDoorWire
import Derived.Test.YtfhalnobaeogkaaDoorPktW
import Derived.Test.YtfhalnobaeogkaaDoorPktR
import Derived.Test.YtfhalnobaeogkaaDoorWireA
import Derived.Test.YtfhalnobaeogkaaDoorDisk
import Derived.Test.YtfhalnobaeogkaaDoorHead
import Derived.Test.YtfhalnobaeogkaaDoorHalf
set_option linter.unusedVariables false
set_option linter.unusedSimpArgs false
namespace Go.Proofs.YtfhalnobaeogkaaDoor
open Go Go.RowKit Go.Fw

theorem Tryd.sz113 : (Tryd.prog.info? 113).map (·.size) = some 1 := by kernel_rfl
theorem Tryd.zv115 : (Tryd.prog.info? 115).map (·.zero) = some (some (Value.agg ([Value.nilIface] ++ [Value.int .u64 0] ++ [Value.int .i64 0]).toArray)) := by kernel_rfl
theorem Tryd.ok59 : CallOk Tryd.prog 59 := ⟨_, Tryd.func59, by kernel_rfl, by kernel_rfl⟩


structure OS where
  g : UInt64
  k : Nat
  r : Rc
  f : Bool
def openStep (l : List UInt8) (n k : Nat) (s : OS) : OS :=
  if (halfF l n k).2.2 = true ∧ (¬ s.f = true ∨ s.g.toNat < (halfF l n k).2.1.toNat) then ⟨(halfF l n k).2.1, k, (halfF l n k).1, true⟩ else s
def openN (l : List UInt8) (n : Nat) : Nat → OS
  | 0 => ⟨0, 1, rc0, false⟩
  | k + 1 => openStep l n k (openN l n k)
/-- What a disk's halves hold. -/
def openF (l : List UInt8) (n : Nat) : OS := openN l n 2
theorem openN_at (l : List UInt8) (n : Nat) : ∀ k, k ≤ 2 → (openN l n k).k ≤ 1
  | 0, _ => Nat.le_refl 1
  | k + 1, h => by
    rw [openN, openStep]
    split
    · show k ≤ 1; omega
    · exact openN_at l n k (by omega)
abbrev vltO (d : Nat) (g : UInt64) (k : Nat) : Obj := blk 115 [.iface 65 (.pointer (some ⟨d, 0, none⟩)), vD g, vI k]
theorem build_vault (t : TypeId) (q : Value) (w : World) : (Instr.build 115 #[(0, .iface t q), (2, .int .i64 1)]).run Tryd.prog w = .ok (.agg [.iface t q, vD 0, vI 1].toArray) w := by
  refine run_buildStr (pl := [(0, .iface t q), (2, .int .i64 1)]) (places := #[(0, 1), (1, 1), (2, 1)]) Tryd.underlying115 Tryd.zv115 rfl (fun w => ?_) ?_
  · simp [Fw.run_sizeOf Tryd.sz113, Fw.run_sizeOf Tryd.sz76, Fw.run_sizeOf Tryd.sz3]
  · rfl
theorem dec_b (b : Bool) : b = decide (b = true) := by cases b <;> rfl


theorem open_nil {w0 : World} :
    Calls Tryd.prog 29 #[.pointer none] w0 fun e w' => e = .returned (.tuple #[.pointer none, recV [] [] false, .int .i64 1]) ∧ Ext w0 w' := by
  refine calls_start 60 Tryd.func29 rfl Tryd.ntmps29 rfl fun a hF => ?_
  have hS := St.refl w0
  refine wp_seq_k fun Kq1 hKq1 => ?_
  -- region 0 (vault.go:138)
  refine wp_region_lit ?_
  refine wpList_stp (stp_gv hF (wanted_none rfl) rfl rfl (gv_assign rfl (ev_const _ _)) fun a hF => ?_)
  refine wpList_stp (stp_alloc hF (wanted_none rfl) rfl rfl rfl Tryd.zv63 rfl hS fun out a w hF hS => ?_)
  refine wpList_stp (stp_gv hF (wanted_none rfl) rfl rfl (gv_assign rfl (ev_const _ _)) fun a hF => ?_)
  refine wpList_nil ?_
  refine then_normal (hKq1 _ _ ?_)
  refine wp_seq_k fun Kq2 hKq2 => ?_
  refine wp_seq_k fun Kq3 hKq3 => ?_
  -- region 1 (vault.go:139)
  refine wp_region_lit ?_
  refine wpList_stp (stp_gv hF (wanted_none rfl) rfl rfl (gv_move rfl (hF.t rfl)) fun a hF => ?_)
  refine wpList_stp (stp_gv hF (wanted_none rfl) rfl rfl (gv_eqlNil rfl Tryd.underlying65 (hF.t rfl) (ev_const _ _)) fun a hF => ?_)
  refine wpList_nil ?_
  refine then_normal (hKq3 _ _ ?_)
  refine wp_cond_true (hF.t rfl) ?_
  refine wp_seq_k fun Kq4 hKq4 => ?_
  -- region 2 (vault.go:140)
  refine wp_region_lit ?_
  refine wpList_stp (stp_gv hF (wanted_none rfl) rfl rfl (gv_build rfl (EvP.map EvP.nil) (build_rec0 _)) fun a hF => ?_)
  refine wpList_stp (stp_gv hF (wanted_none rfl) rfl rfl (gv_assign rfl (ev_const _ _)) fun a hF => ?_)
  refine wpList_stp (stp_storeAll hF (wanted_none rfl) rfl rfl (Tryd.sz63.trans (congrArg some (rfl))) (hF.t rfl) (hF.t rfl) ((by intro u hu; simp at hu; rcases hu with rfl | rfl | rfl <;> rfl)) hS (k := 0) rfl (rfl) fun w hS => ?_)
  refine wpList_stp (stp_gv hF (wanted_none rfl) rfl rfl (gv_assign rfl (ev_const _ _)) fun a hF => ?_)
  refine wpList_nil ?_
  refine then_normal (hKq4 _ _ ?_)
  refine wp_ret ?_
  refine then_ret ?_
  refine retTCT (fn := Tryd.f29) (vs := [sV [], sV [], .bool false]) hF rfl Tryd.underlying63 rfl Tryd.sz63 rfl rfl rfl hS (k := 0) rfl ?_
  exact ⟨rfl, hS.toExt (nw_cons rfl nw_nil)⟩

set_option maxHeartbeats 1000000 in
theorem open_ok {d p n c : Nat} {D : Dk} {w0 : World} (hG : Glob w0) (hD : DskW w0 d p n c D) (hK : DkOk n D) :
    Calls Tryd.prog 29 #[.pointer (some ⟨d, 0, none⟩)] w0 fun e w' => ∃ v, e = .returned (.tuple #[.pointer (some ⟨v, 0, none⟩), (if (openF D.l n).f = true then (openF D.l n).r else rc0).v, .int .i64 (if (openF D.l n).f = true then 0 else 21)]) ∧ St w0 w' [⟨true, some v, vltO d (openF D.l n).g (openF D.l n).k⟩] := by
  refine calls_start 60 Tryd.func29 rfl Tryd.ntmps29 rfl fun a hF => ?_
  have hS := St.refl w0
  refine wp_seq_k fun Kq1 hKq1 => ?_
  -- region 0 (vault.go:138)
  refine wp_region_lit ?_
  refine wpList_stp (stp_gv hF (wanted_none rfl) rfl rfl (gv_assign rfl (ev_const _ _)) fun a hF => ?_)
  refine wpList_stp (stp_alloc hF (wanted_none rfl) rfl rfl rfl Tryd.zv63 rfl hS fun out a w hF hS => ?_)
  refine wpList_stp (stp_gv hF (wanted_none rfl) rfl rfl (gv_assign rfl (ev_const _ _)) fun a hF => ?_)
  refine wpList_nil ?_
  refine then_normal (hKq1 _ _ ?_)
  refine wp_seq_k fun Kq2 hKq2 => ?_
  refine wp_seq_k fun Kq3 hKq3 => ?_
  -- region 1 (vault.go:139)
  refine wp_region_lit ?_
  refine wpList_stp (stp_gv hF (wanted_none rfl) rfl rfl (gv_move rfl (hF.t rfl)) fun a hF => ?_)
  refine wpList_stp (stp_gv hF (wanted_none rfl) rfl rfl (gv_eqlNil rfl Tryd.underlying65 (hF.t rfl) (ev_const _ _)) fun a hF => ?_)
  refine wpList_nil ?_
  refine then_normal (hKq3 _ _ ?_)
  refine wp_cond_false (hF.t rfl) ?_
  refine wp_skip ?_
  refine then_normal (hKq2 _ _ ?_)
  refine wp_seq_k fun Kq4 hKq4 => ?_
  -- region 3 (vault.go:142)
  refine wp_region_lit ?_
  refine wpList_stp (stp_gv hF (wanted_none rfl) rfl rfl (gv_move rfl (hF.t rfl)) fun a hF => ?_)
  refine wpList_stp (stp_gv hF (wanted_none rfl) rfl rfl (gv_makeIface rfl Tryd.conc65 (hF.t rfl)) fun a hF => ?_)
  refine wpList_stp (stp_gv hF (wanted_none rfl) rfl rfl (gv_build rfl (EvP.map (EvP.cons (hF.t rfl) (EvP.cons (ev_const _ _) EvP.nil))) (build_vault _ _ _)) fun a hF => ?_)
  refine wpList_stp (stp_box (cs := [.iface 65 (.pointer (some ⟨d, 0, none⟩)), vD 0, vI 1]) hF (wanted_none rfl) rfl rfl rfl (hF.t rfl) rfl hS fun v a w hF hS => ?_)
  refine wpList_stp (stp_gv hF (wanted_none rfl) rfl rfl (gv_build rfl (EvP.map EvP.nil) (build_rec0 _)) fun a hF => ?_)
  refine wpList_stp (stp_alloc hF (wanted_none rfl) rfl rfl rfl Tryd.zv63 rfl hS fun rc a w hF hS => ?_)
  refine wpList_stp (stp_gv hF (wanted_none rfl) rfl rfl (gv_assign rfl (hF.t rfl)) fun a hF => ?_)
  refine wpList_stp (stp_storeAll hF (wanted_none rfl) rfl rfl (Tryd.sz63.trans (congrArg some (rfl))) (hF.t rfl) (hF.t rfl) ((by intro u hu; simp at hu; rcases hu with rfl | rfl | rfl <;> rfl)) hS (k := 0) rfl (rfl) fun w hS => ?_)
  refine wpList_stp (stp_gv hF (wanted_none rfl) rfl rfl (gv_assign rfl (ev_const _ _)) fun a hF => ?_)
  refine wpList_nil ?_
  refine then_normal (hKq4 _ _ ?_)
  refine wp_seq_k fun Kq5 hKq5 => ?_
  refine wp_seq_k fun Kq6 hKq6 => ?_
  -- region 4 (vault.go:143)
  refine wp_region_lit ?_
  refine wpList_stp (stp_gv hF (wanted_none rfl) rfl rfl (gv_move rfl (ev_const _ _)) fun a hF => ?_)
  refine wpList_nil ?_
  refine then_normal (hKq6 _ _ ?_)
  refine wp_block ?_
  refine wp_loop_n (fun nn a w => ∃ k, k ≤ 2 ∧ nn = 2 - k ∧ Fr 60 a [(0, .pointer (some ⟨d, 0, none⟩)), (3, .pointer (some ⟨out, 0, none⟩)), (4, .int .i64 0), (5, .pointer (some ⟨v, 0, none⟩)), (6, .pointer (some ⟨rc, 0, none⟩)), (7, .bool (decide ((openN D.l n k).f = true))), (20, vI k)] ∧ St w0 w [⟨true, some rc, recO (openN D.l n k).r.a (openN D.l n k).r.c (openN D.l n k).r.p⟩, ⟨true, some v, vltO d (openN D.l n k).g (openN D.l n k).k⟩, ⟨true, some out, recO [] [] false⟩]) 2 ⟨0, by omega, by omega, hF.sub ⟨rfl, rfl, rfl, rfl, rfl, rfl, rfl, trivial⟩, hS⟩ ?_
  rintro nn a w ⟨k, hk, hnn, hF, hS⟩
  obtain ⟨S, hSk⟩ : ∃ S, S = openN D.l n k := ⟨_, rfl⟩
  rw [← hSk] at hF hS
  refine wp_seq_k fun Kq7 hKq7 => ?_
  -- region 5 (vault.go:143)
  refine wp_region_lit ?_
  refine wpList_stp (stp_gv hF (wanted_none rfl) rfl rfl (gv_lss rfl (hF.t rfl) (ev_const _ _)) fun a hF => ?_)
  refine wpList_nil ?_
  refine then_normal (hKq7 _ _ ?_)
  refine wp_seq_k fun Kq8 hKq8 => ?_
  refine cond_dec (hF.t rfl) (fun h21 => ?_) (fun h21 => ?_)
  ·
    refine wp_skip ?_
    refine then_normal (hKq8 _ _ ?_)
    refine wp_seq_k fun Kq9 hKq9 => ?_
    refine wp_block ?_
    refine wp_seq_k fun Kq10 hKq10 => ?_
    -- region 6 (vault.go:143)
    refine wp_region_lit ?_
    refine wpList_stp (stp_gv hF (wanted_none rfl) rfl rfl (gv_move rfl (hF.t rfl)) fun a hF => ?_)
    refine wpList_stp (stp_gv hF (wanted_none rfl) rfl rfl (gv_assign rfl (hF.t rfl)) fun a hF => ?_)
    refine wpList_nil ?_
    refine then_normal (hKq10 _ _ ?_)
    refine wp_seq_k fun Kq11 hKq11 => ?_
    -- region 7 (vault.go:144)
    refine wp_region_lit ?_
    refine wpList_stp (stp_gv hF (wanted_none rfl) rfl rfl (gv_move rfl (hF.t rfl)) fun a hF => ?_)
    refine wpList_stp (stp_gv hF (wanted_none rfl) rfl rfl (gv_makeIface rfl Tryd.conc65 (hF.t rfl)) fun a hF => ?_)
    refine wpList_stp (stp_gv hF (wanted_none rfl) rfl rfl (gv_move rfl (hF.t rfl)) fun a hF => ?_)
    refine wpList_stp (stp_call hF (wanted_none rfl) rfl rfl Tryd.ok59 rfl (Evs.cons (hF.t rfl) (Evs.cons (hF.t rfl) Evs.nil)) (half_ok (hG.ext (hS.toExt (nw_cons rfl (nw_cons rfl (nw_cons rfl nw_nil))))) (hD.ext (hS.toExt (nw_cons rfl (nw_cons rfl (nw_cons rfl nw_nil))))) hK (by omega)) fun e w h => ?_)
    obtain ⟨rfl, hx⟩ := h
    refine ⟨_, rfl, fun a hF => ?_⟩
    replace hS := hS.ext hx
    clear hx
    obtain ⟨HH, hHH⟩ : ∃ x, x = halfF D.l n k := ⟨_, rfl⟩
    rw [← hHH] at hF
    obtain ⟨r1, g1, ok⟩ := HH
    refine wpList_stp (stp_gv hF (wanted_none rfl) rfl rfl (gv_move rfl (hF.t rfl)) fun a hF => ?_)
    refine wpList_stp (stp_gv hF (wanted_none rfl) rfl rfl (gv_extract rfl (hF.t rfl) rfl) fun a hF => ?_)
    refine wpList_stp (stp_gv hF (wanted_none rfl) rfl rfl (gv_extract rfl (hF.t rfl) rfl) fun a hF => ?_)
    refine wpList_stp (stp_gv hF (wanted_none rfl) rfl rfl (gv_extract rfl (hF.t rfl) rfl) fun a hF => ?_)
    refine wpList_stp (stp_alloc hF (wanted_none rfl) rfl rfl rfl Tryd.zv63 rfl hS fun r9 a w hF hS => ?_)
    refine wpList_stp (stp_storeAll hF (wanted_none rfl) rfl rfl (Tryd.sz63.trans (congrArg some (rfl))) (hF.t rfl) (hF.t rfl) ((by intro u hu; simp at hu; rcases hu with rfl | rfl | rfl <;> rfl)) hS (k := 0) rfl (rfl) fun w hS => ?_)
    refine wpList_stp (stp_gv hF (wanted_none rfl) rfl rfl (gv_assign rfl (hF.t rfl)) fun a hF => ?_)
    refine wpList_stp (stp_gv hF (wanted_none rfl) rfl rfl (gv_assign rfl (hF.t rfl)) fun a hF => ?_)
    refine wpList_nil ?_
    refine then_normal (hKq11 _ _ ?_)
    refine wp_seq_k fun Kq12 hKq12 => ?_
    replace hF : Fr 60 a [(0, .pointer (some ⟨d, 0, none⟩)), (3, .pointer (some ⟨out, 0, none⟩)), (4, .int .i64 0), (5, .pointer (some ⟨v, 0, none⟩)), (6, .pointer (some ⟨rc, 0, none⟩)), (7, .bool (decide (S.f = true))), (8, vI k), (9, .pointer (some ⟨r9, 0, none⟩)), (10, vD g1), (11, .bool (decide (ok = true))), (20, vI k)] := hF.sub ⟨rfl, rfl, rfl, rfl, rfl, rfl, rfl, rfl, rfl, congrArg (fun b => some (Value.bool b)) (dec_b ok), rfl, trivial⟩
    -- region 8 (vault.go:144)
    refine wp_region_lit ?_
    refine wpList_stp (stp_gv hF (wanted_none rfl) rfl rfl (gv_move rfl (hF.t rfl)) fun a hF => ?_)
    refine wpList_stp (stp_gv hF (wanted_none rfl) rfl rfl (gv_move rfl (hF.t rfl)) fun a hF => ?_)
    refine wpList_stp (stp_gvG hF rfl rfl rfl rfl rfl (fun hg => gv_move rfl (hF.t rfl)) fun a hF => ?_)
    refine wpList_stp (stp_gvG hF rfl rfl rfl rfl rfl (fun hg => gv_not rfl ((hF.t rfl).trans (if_pos hg))) fun a hF => ?_)
    rw [← decide_not] at hF
    refine wpList_stp (stp_gvG hF rfl rfl rfl rfl rfl (fun hg => gv_move rfl ((hF.t rfl).trans (if_pos hg))) fun a hF => ?_)
    refine wpList_stp (stp_gvN' hF rfl rfl rfl (fun h => if_pos h) (fun h => if_neg h) rfl rfl (fun hg => gv_move rfl (hF.t rfl)) fun a hF => ?_)
    refine wpList_stp (stp_gvN' hF rfl rfl rfl (fun h => if_pos h) (fun h => if_neg h) rfl rfl (fun hg => gv_move rfl (hF.t rfl)) fun a hF => ?_)
    refine wpList_stp (stp_gvN' hF rfl rfl rfl (fun h => if_pos h) (fun h => if_neg h) rfl rfl (fun hg => gv_nilCheck rfl ((hF.t rfl).trans (if_pos hg))) fun a hF => ?_)
    refine wpList_stp (stp_gvN' hF rfl rfl rfl (fun h => if_pos h) (fun h => if_neg h) rfl rfl (fun hg => gv_field (r := 1) rfl Tryd.underlying115 rfl rfl Tryd.sz76 (by decide) ((hF.t rfl).trans (if_pos hg))) fun a hF => ?_)
    refine wpList_stp (stp_gvN' hF rfl rfl rfl (fun h => if_pos h) (fun h => if_neg h) rfl rfl (fun hg => gv_load rfl Tryd.underlying76 rfl ((hF.t rfl).trans (if_pos hg)) (cell_ix (j := 1) (hS.cell (k := 2) rfl (rfl)) (by omega))) fun a hF => ?_)
    refine wpList_stp (stp_gvN' hF rfl rfl rfl (fun h => if_pos h) (fun h => if_neg h) rfl rfl (fun hg => gv_gtr rfl ((hF.t rfl).trans (if_pos hg)) ((hF.t rfl).trans (if_pos hg))) fun a hF => ?_)
    refine wpList_stp (stp_gvG hF rfl rfl rfl rfl rfl (fun hg => gv_pickOr rfl ((hF.t rfl).trans (if_pos hg)) (ev_const _ _) ((hF.t rfl).trans (nest_or hg))) fun a hF => ?_)
    refine wpList_stp (stp_gv hF (wanted_none rfl) rfl rfl (gv_pickAnd rfl (hF.t rfl) (hF.t rfl) (ev_const _ _)) fun a hF => ?_)
    refine wpList_nil ?_
    refine then_normal (hKq12 _ _ ?_)
    refine cond_dec (hF.t rfl) (fun h43 => ?_) (fun h43 => ?_)
    ·
      -- region 9 (vault.go:145)
      refine Fw.wp_region_draw (by kernel_rfl) fun w hx => ?_
      replace hS := hS.ext hx
      clear hx
      refine run_headU (n := 13) _ [7, 10, 11] [7, 10, 11] (fun s_ x => ∃ (g2 a2 : Value) (rl : List Value), (1 ≤ s_ → g2 = vD g1) ∧ (2 ≤ s_ → a2 = vI k) ∧ (s_ = 3 → rl = [sV r1.a, sV r1.c, .bool r1.p]) ∧ rl.length = 3 ∧ St w0 x [⟨true, some r9, recO r1.a r1.c r1.p⟩, ⟨true, some rc, blk 63 rl⟩, ⟨true, some v, blk 115 [.iface 65 (.pointer (some ⟨d, 0, none⟩)), g2, a2]⟩, ⟨true, some out, recO [] [] false⟩]) [(4, 48, FtE (.agg [sV r1.a, sV r1.c, .bool r1.p].toArray))] hF (hS.toExt (nw_cons rfl (nw_cons rfl (nw_cons rfl (nw_cons rfl nw_nil))))) (⟨_, _, _, (fun h => absurd h (by decide)), (fun h => absurd h (by decide)), (fun h => by cases h), rfl, hS⟩) (fun _ _ _ ⟨g2, a2, rl, h1, h2, h3, h4, h5⟩ hx => ⟨g2, a2, rl, h1, h2, h3, h4, h5.ext hx⟩) (by kernel_rfl) rfl (fa_cons rfl fa_nil) (fa_cons (FtE.lasts _) fa_nil) (fa_cons ⟨Nat.zero_le _, Nat.le_of_ble_eq_true rfl⟩ fa_nil) rfl (by kernel_rfl) (by kernel_rfl) ?_
      refine dw_gv hF rfl (wanted_none rfl) rfl rfl (fun w hx => gv_move rfl (hF.t rfl)) fun a hF => ?_
      refine dw_gv hF rfl (wanted_none rfl) rfl rfl (fun w hx => gv_move rfl (hF.t rfl)) fun a hF => ?_
      refine dw_gv hF rfl (wanted_none rfl) rfl rfl (fun w hx => gv_move rfl (hF.t rfl)) fun a hF => ?_
      refine dw_gv hF rfl (wanted_none rfl) rfl rfl (fun w hx => gv_move rfl (hF.t rfl)) fun a hF => ?_
      refine dw_fl rfl ?_
      refine dw_gv hF rfl (wanted_none rfl) rfl rfl (fun w hx => gv_nilCheck rfl (hF.t rfl)) fun a hF => ?_
      refine dw_gv hF rfl (wanted_none rfl) rfl rfl (fun w hx => gv_field (r := 1) rfl Tryd.underlying115 rfl rfl Tryd.sz76 (by decide) (hF.t rfl)) fun a hF => ?_
      refine dw_fl rfl ?_
      refine dw_gv hF rfl (wanted_none rfl) rfl rfl (fun w hx => gv_nilCheck rfl (hF.t rfl)) fun a hF => ?_
      refine dw_gv hF rfl (wanted_none rfl) rfl rfl (fun w hx => gv_field (r := 2) rfl Tryd.underlying115 rfl rfl Tryd.sz3 (by decide) (hF.t rfl)) fun a hF => ?_
      refine dw_fl rfl ?_
      refine dw_fl rfl ?_
      refine dw_gv hF rfl (wanted_none rfl) rfl rfl (fun w hx => gv_assign rfl (ev_const _ _)) fun a hF => ?_
      refine dw_nil ⟨(fa_cons ?_ fa_nil), (fa_cons ?_ (fa_cons ?_ (fa_cons ?_ fa_nil))), fun a w hx hA hR hP => ?_⟩
      · intro s_ a w hsl hx hA hdp hP
        replace hF := hA _ hF
        obtain ⟨g2, a2, rl, _, _, _, _, hS⟩ := hP
        exact ⟨_, rfl, .inl ⟨show (4 : Nat) ∉ [7, 10, 11] from by decide, sx_gv (wanted_none rfl) (gv_loadAll (cs := [sV r1.a, sV r1.c, .bool r1.p]) rfl Tryd.underlying63 rfl Tryd.sz63 (hF.t rfl) hS (k := 0) rfl) rfl⟩⟩
      · intro s_ a w hsl hx hA hdp hP
        replace hF := hA _ hF
        refine ⟨_, 0, rfl, rfl, fun hs => ?_⟩
        subst hs
        obtain ⟨g2, a2, rl, q1, q2, q3, q4, hS⟩ := hP
        refine ux_storeOne (i := 1) (wanted_none rfl) rfl Tryd.sz76 (hF.t rfl) (hF.t rfl) rfl hS (k := 2) rfl (by simp) fun w' hS' => ?_
        exact ⟨hS'.toExt (nw_cons rfl (nw_cons rfl (nw_cons rfl (nw_cons rfl nw_nil)))), ⟨_, _, rl, (fun _ => rfl), (fun h => absurd h (by decide)), (fun h => by cases h), q4, hS'⟩, (fa_cons id fa_nil)⟩
      · intro s_ a w hsl hx hA hdp hP
        replace hF := hA _ hF
        refine ⟨_, 1, rfl, rfl, fun hs => ?_⟩
        subst hs
        obtain ⟨g2, a2, rl, q1, q2, q3, q4, hS⟩ := hP
        refine ux_storeOne (i := 2) (wanted_none rfl) rfl Tryd.sz3 (hF.t rfl) (hF.t rfl) rfl hS (k := 2) rfl (by simp) fun w' hS' => ?_
        exact ⟨hS'.toExt (nw_cons rfl (nw_cons rfl (nw_cons rfl (nw_cons rfl nw_nil)))), ⟨_, _, rl, (fun _ => q1 (by decide)), (fun _ => rfl), (fun h => by cases h), q4, hS'⟩, (fa_cons id fa_nil)⟩
      · intro s_ a w hsl hx hA hdp hP
        replace hF := hA _ hF
        refine ⟨_, 2, rfl, rfl, fun hs => ?_⟩
        subst hs
        obtain ⟨g2, a2, rl, q1, q2, q3, q4, hS⟩ := hP
        refine ux_storeAgg (i := 0) (vs := [sV r1.a, sV r1.c, .bool r1.p]) (cs := rl) (wanted_none rfl) rfl Tryd.sz63 (hF.t rfl) ((hF.t rfl).trans (hdp _ (List.mem_of_getElem? (i := 0) rfl) (by kernel_rfl))) (by intro u hu; simp at hu; rcases hu with rfl | rfl | rfl <;> rfl) hS (k := 1) rfl (by rw [q4]; exact Nat.le_refl 3) fun w' hS' => ?_
        exact ⟨hS'.toExt (nw_cons rfl (nw_cons rfl (nw_cons rfl (nw_cons rfl nw_nil)))), ⟨g2, a2, _, (fun _ => q1 (by decide)), (fun _ => q2 (by decide)), (fun _ => by rw [List.drop_of_length_le (by rw [q4]; exact Nat.le_refl 3)]; rfl), by simp [q4], hS'⟩, (fa_cons id fa_nil)⟩
      replace hF := hA _ hF
      clear hA
      obtain ⟨g2, a2, rl, q1, q2, q3, _, hS⟩ := hP
      obtain rfl := q1 (by decide)
      obtain rfl := q2 (by decide)
      obtain rfl := q3 rfl
      replace hF : Fr 60 a [(0, .pointer (some ⟨d, 0, none⟩)), (3, .pointer (some ⟨out, 0, none⟩)), (4, .int .i64 0), (5, .pointer (some ⟨v, 0, none⟩)), (6, .pointer (some ⟨rc, 0, none⟩)), (7, .bool true), (20, vI k)] := hF.sub ⟨rfl, rfl, rfl, rfl, rfl, rfl, rfl, trivial⟩
      clear hR q1 q2 q3
      refine run_done (by decide) ?_
      refine block_normal ?_
      refine then_normal (hKq9 _ _ ?_)
      -- region 10 (vault.go:143)
      refine wp_region_lit ?_
      refine wpList_stp (stp_gv hF (wanted_none rfl) rfl rfl (gv_nadd (n := 1) rfl (hF.t rfl) rfl (by omega)) fun a hF => ?_)
      refine wpList_stp (stp_gv hF (wanted_none rfl) rfl rfl (gv_move rfl (hF.t rfl)) fun a hF => ?_)
      refine wpList_nil ?_
      refine then_normal ?_
      have hn1 : openN D.l n (k + 1) = ⟨g1, k, r1, true⟩ := by
        rw [openN, openStep, if_pos (by rw [← hHH, ← hSk]; exact ⟨h43.1, h43.2.imp id (fun h => Int.ofNat_lt.1 h)⟩), ← hHH]
      replace hS := hS.drop rfl
      exact ⟨nn - 1, by omega, k + 1, by omega, by omega, by rw [hn1]; exact hF.sub ⟨rfl, rfl, rfl, rfl, rfl, rfl, rfl, trivial⟩, by rw [hn1]; exact hS⟩
    ·
      refine wp_skip ?_
      refine block_normal ?_
      refine then_normal (hKq9 _ _ ?_)
      -- region 10 (vault.go:143)
      refine wp_region_lit ?_
      refine wpList_stp (stp_gv hF (wanted_none rfl) rfl rfl (gv_nadd (n := 1) rfl (hF.t rfl) rfl (by omega)) fun a hF => ?_)
      refine wpList_stp (stp_gv hF (wanted_none rfl) rfl rfl (gv_move rfl (hF.t rfl)) fun a hF => ?_)
      refine wpList_nil ?_
      refine then_normal ?_
      have hn1 : openN D.l n (k + 1) = S := by
        rw [openN, openStep, if_neg (by rw [← hHH, ← hSk]; exact fun h => h43 ⟨h.1, h.2.imp id (fun h => Int.ofNat_lt.2 h)⟩), ← hSk]
      replace hS := hS.drop rfl
      exact ⟨nn - 1, by omega, k + 1, by omega, by omega, by rw [hn1]; exact hF.sub ⟨rfl, rfl, rfl, rfl, rfl, rfl, rfl, trivial⟩, by rw [hn1]; exact hS⟩
  ·
    refine wp_exit ?_
    refine then_exit ?_
    refine then_exit ?_
    refine block_exit ?_
    refine then_normal (hKq5 _ _ ?_)
    refine wp_seq_k fun Kq13 hKq13 => ?_
    refine wp_seq_k fun Kq14 hKq14 => ?_
    obtain rfl : k = 2 := by omega
    clear h21 hk hnn
    -- region 11 (vault.go:148)
    refine wp_region_lit ?_
    refine wpList_stp (stp_gv hF (wanted_none rfl) rfl rfl (gv_move rfl (hF.t rfl)) fun a hF => ?_)
    refine wpList_stp (stp_gv hF (wanted_none rfl) rfl rfl (gv_not rfl (hF.t rfl)) fun a hF => ?_)
    rw [← decide_not] at hF
    refine wpList_nil ?_
    refine then_normal (hKq14 _ _ ?_)
    refine cond_dec (hF.t rfl) (fun h55 => ?_) (fun h55 => ?_)
    ·
      refine wp_seq_k fun Kq15 hKq15 => ?_
      -- region 12 (vault.go:149)
      refine wp_region_lit ?_
      refine wpList_stp (stp_gv hF (wanted_none rfl) rfl rfl (gv_move rfl (hF.t rfl)) fun a hF => ?_)
      refine wpList_stp (stp_gv hF (wanted_none rfl) rfl rfl (gv_build rfl (EvP.map EvP.nil) (build_rec0 _)) fun a hF => ?_)
      refine wpList_stp (stp_gv hF (wanted_none rfl) rfl rfl (gv_assign rfl (hF.t rfl)) fun a hF => ?_)
      refine wpList_stp (stp_storeAll hF (wanted_none rfl) rfl rfl (Tryd.sz63.trans (congrArg some (rfl))) (hF.t rfl) (hF.t rfl) ((by intro u hu; simp at hu; rcases hu with rfl | rfl | rfl <;> rfl)) hS (k := 2) rfl (rfl) fun w hS => ?_)
      refine wpList_stp (stp_gv hF (wanted_none rfl) rfl rfl (gv_assign rfl (ev_const _ _)) fun a hF => ?_)
      refine wpList_nil ?_
      refine then_normal (hKq15 _ _ ?_)
      refine wp_ret ?_
      refine then_ret ?_
      have hSS : S = openF D.l n := hSk
      refine retTCT (fn := Tryd.f29) (vs := [sV [], sV [], .bool false]) hF rfl Tryd.underlying63 rfl Tryd.sz63 rfl rfl rfl hS (k := 2) rfl ?_
      replace hS := (hS.drop rfl).drop2 rfl
      rw [hSS] at hS h55
      exact ⟨v, by rw [if_neg h55, if_neg h55]; rfl, hS⟩
    ·
      refine wp_skip ?_
      refine then_normal (hKq13 _ _ ?_)
      refine wp_seq_k fun Kq16 hKq16 => ?_
      -- region 13 (vault.go:151)
      refine Fw.wp_region_draw (by kernel_rfl) fun w hx => ?_
      replace hS := hS.ext hx
      clear hx
      refine run_headU (n := 5) _ [3] [3] (fun s_ x => ∃ rl : List Value, rl.length = 3 ∧ (s_ = 1 → rl = [sV S.r.a, sV S.r.c, .bool S.r.p]) ∧ St w0 x [⟨true, some rc, recO S.r.a S.r.c S.r.p⟩, ⟨true, some v, vltO d S.g S.k⟩, ⟨true, some out, blk 63 rl⟩]) [(1, 59, FtE (.agg [sV S.r.a, sV S.r.c, .bool S.r.p].toArray))] hF (hS.toExt (nw_cons rfl (nw_cons rfl (nw_cons rfl nw_nil)))) (⟨_, rfl, (fun h => by cases h), hS⟩) (fun _ _ _ ⟨rl, h1, h2, h3⟩ hx => ⟨rl, h1, h2, h3.ext hx⟩) (by kernel_rfl) rfl (fa_cons rfl fa_nil) (fa_cons (FtE.lasts _) fa_nil) (fa_cons ⟨Nat.zero_le _, Nat.le_of_ble_eq_true rfl⟩ fa_nil) rfl (by kernel_rfl) (by kernel_rfl) ?_
      refine dw_gv hF rfl (wanted_none rfl) rfl rfl (fun w hx => gv_move rfl (hF.t rfl)) fun a hF => ?_
      refine dw_fl rfl ?_
      refine dw_gv hF rfl (wanted_none rfl) rfl rfl (fun w hx => gv_assign rfl (hF.t rfl)) fun a hF => ?_
      refine dw_fl rfl ?_
      refine dw_gv hF rfl (wanted_none rfl) rfl rfl (fun w hx => gv_assign rfl (ev_const _ _)) fun a hF => ?_
      refine dw_nil ⟨(fa_cons ?_ fa_nil), (fa_cons ?_ fa_nil), fun a w hx hA hR hP => ?_⟩
      · intro s_ a w hsl hx hA hdp hP
        replace hF := hA _ hF
        obtain ⟨rl, _, _, hS⟩ := hP
        exact ⟨_, rfl, .inl ⟨show (1 : Nat) ∉ [3] from by decide, sx_gv (wanted_none rfl) (gv_loadAll (cs := [sV S.r.a, sV S.r.c, .bool S.r.p]) rfl Tryd.underlying63 rfl Tryd.sz63 (hF.t rfl) hS (k := 0) rfl) rfl⟩⟩
      · intro s_ a w hsl hx hA hdp hP
        replace hF := hA _ hF
        refine ⟨_, 0, rfl, rfl, fun hs => ?_⟩
        subst hs
        obtain ⟨rl, q4, _, hS⟩ := hP
        refine ux_storeAgg (i := 0) (vs := [sV S.r.a, sV S.r.c, .bool S.r.p]) (cs := rl) (wanted_none rfl) rfl Tryd.sz63 (hF.t rfl) ((hF.t rfl).trans (hdp _ (List.mem_of_getElem? (i := 0) rfl) (by kernel_rfl))) (by intro u hu; simp at hu; rcases hu with rfl | rfl | rfl <;> rfl) hS (k := 2) rfl (by rw [q4]; exact Nat.le_refl 3) fun w' hS' => ?_
        exact ⟨hS'.toExt (nw_cons rfl (nw_cons rfl (nw_cons rfl nw_nil))), ⟨_, by simp [q4], (fun _ => by rw [List.drop_of_length_le (by rw [q4]; exact Nat.le_refl 3)]; rfl), hS'⟩, (fa_cons id fa_nil)⟩
      replace hF := hA _ hF
      clear hA
      obtain ⟨rl, _, q3, hS⟩ := hP
      obtain rfl := q3 rfl
      replace hF : Fr 60 a [(2, .pointer (some ⟨v, 0, none⟩)), (3, .pointer (some ⟨out, 0, none⟩)), (4, .int .i64 0)] := hF.sub ⟨rfl, rfl, rfl, trivial⟩
      clear hR q3
      refine run_done (by decide) ?_
      refine then_normal (hKq16 _ _ ?_)
      refine wp_ret ?_
      have hSS : S = openF D.l n := hSk
      refine retTCT (fn := Tryd.f29) (vs := [sV S.r.a, sV S.r.c, .bool S.r.p]) hF rfl Tryd.underlying63 rfl Tryd.sz63 rfl rfl rfl hS (k := 2) rfl ?_
      replace hS := (hS.drop rfl).drop2 rfl
      rw [hSS] at hS h55 ⊢
      exact ⟨v, by rw [if_pos (Decidable.not_not.1 h55), if_pos (Decidable.not_not.1 h55)]; rfl, hS⟩


end Go.Proofs.YtfhalnobaeogkaaDoor
