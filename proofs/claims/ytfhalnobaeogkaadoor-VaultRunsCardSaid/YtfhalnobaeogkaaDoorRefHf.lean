/- What is proved: how the reference reads a half. -/
import Derived.Test.YtfhalnobaeogkaaDoorProg
import Derived.Test.YtfhalnobaeogkaaDoorFwSep
import Derived.KernelRfl
import Derived.Test.YtfhalnobaeogkaaDoorFwSto
import Derived.Test.YtfhalnobaeogkaaDoorFwVlt
import Derived.Test.YtfhalnobaeogkaaDoorFwApp
import Derived.Test.YtfhalnobaeogkaaDoorFwWord
import Derived.Test.YtfhalnobaeogkaaDoorFwPkt
import Derived.Test.YtfhalnobaeogkaaDoorFwTok
import Derived.Test.YtfhalnobaeogkaaDoorDig
import Derived.Test.YtfhalnobaeogkaaDoorSum
import Derived.Test.YtfhalnobaeogkaaDoorWire
import Derived.Test.YtfhalnobaeogkaaDoorPktW
import Derived.Test.YtfhalnobaeogkaaDoorPktR
import Derived.Test.YtfhalnobaeogkaaDoorWireA
import Derived.Test.YtfhalnobaeogkaaDoorDisk
import Derived.Test.YtfhalnobaeogkaaDoorFwZer
import Derived.Test.YtfhalnobaeogkaaDoorFwSeq
import Derived.Test.YtfhalnobaeogkaaDoorWireA
import Derived.Test.YtfhalnobaeogkaaDoorHead
import Derived.Test.YtfhalnobaeogkaaDoorHalf
import Derived.Test.YtfhalnobaeogkaaDoorOpen
import Derived.Test.YtfhalnobaeogkaaDoorSave
import Derived.Test.YtfhalnobaeogkaaDoorVPure
import Derived.Test.YtfhalnobaeogkaaDoorRefH
import Derived.Test.YtfhalnobaeogkaaDoorRefSum
import Derived.Test.YtfhalnobaeogkaaDoorRefCur
import Derived.Test.YtfhalnobaeogkaaDoorRefBy
import Derived.Test.YtfhalnobaeogkaaDoorRefIm
set_option linter.unusedVariables false
set_option linter.unusedSimpArgs false
namespace Go.Proofs.YtfhalnobaeogkaaDoor
open Go Go.RowKit Go.Fw

theorem Tryd.zv75 : (Tryd.prog.info? 75).map (·.zero) = some (some (Value.agg ([Value.string .empty] ++ [Value.string .empty] ++ [Value.bool false]).toArray)) := by kernel_rfl
theorem Tryd.zv143 : (Tryd.prog.info? 143).map (·.zero) = some (some (Value.agg ([Value.slice none 0 0] ++ [Value.int .i64 0] ++ [Value.bool false]).toArray)) := by kernel_rfl
theorem Tryd.ok38 : CallOk Tryd.prog 38 := ⟨_, Tryd.func38, by kernel_rfl, by kernel_rfl⟩
theorem Tryd.ok80 : CallOk Tryd.prog 80 := ⟨_, Tryd.func80, by kernel_rfl, by kernel_rfl⟩
theorem Tryd.ok81 : CallOk Tryd.prog 81 := ⟨_, Tryd.func81, by kernel_rfl, by kernel_rfl⟩
theorem Tryd.ok82 : CallOk Tryd.prog 82 := ⟨_, Tryd.func82, by kernel_rfl, by kernel_rfl⟩


def szR (b : List UInt8) : Nat := (u32R (some ((b.take 16).drop 12))).1.toNat
def genB (b : List UInt8) : Nat → UInt64
  | 0 => 0
  | i + 1 => genB b i * 256 + (b.getD (4 + i) 0).toUInt64
def flR (b : List UInt8) (n : Nat) : UInt8 := if 0 < n then b.getD (63 + n) 0 else 0
def datR (b : List UInt8) : List UInt8 := (b.drop 64).take (szR b)
def wantR (b : List UInt8) (g : UInt64) (r : List UInt8) (fl : UInt8) : List UInt8 :=
  if 1 < fl.toNat then b.take 16 ++ sum256 (b.take 16 ++ r.set (r.length - 1) fl) ++ (b.take 12).drop 4 ++ List.replicate 8 0 else imgF g r
def recR (b : List UInt8) : List UInt8 := recB (parseF (datR b)).1.a (parseF (datR b)).1.c (parseF (datR b)).1.p
/-- A half's record and generation, as the reference has it. -/
def halfR (b : List UInt8) : Rc × UInt64 × Bool :=
  if b.length - 64 < szR b then (rc0, 0, false)
  else if (parseF (datR b)).2 = true ∧ b.take 4 = mun ∧ (wantR b (genB b 8) (recR b) (flR b (szR b))).take 64 = b.take 64 ∧ (recR b).length = szR b then ((parseF (datR b)).1, genB b 8, true) else (rc0, 0, false)
theorem wantR_len {b : List UInt8} {g : UInt64} {r : List UInt8} {fl : UInt8} (hb : 16 ≤ b.length) : 64 ≤ (wantR b g r fl).length := by
  unfold wantR
  split
  · simp only [List.length_append, sum256_len, List.length_take, List.length_drop, List.length_replicate]; omega
  · rw [imgF_len]; omega
theorem textR_len (s : RSt) : (textR s).1.length ≤ 16384 := by
  unfold textR
  split
  · exact Nat.zero_le _
  · rename_i h
    cases hn : (takeR (u32R s).1.toNat (u32R s).2).1 with
    | none => exact Nat.zero_le _
    | some ys =>
      have := takeR_len hn
      simp only [Option.getD_some]
      omega
theorem build_cur {A : Option Addr} {n c : Nat} (w : World) : (Instr.build 143 #[(0, .slice A n c)]).run Tryd.prog w = .ok (.agg [.slice A n c, vI 0, .bool false].toArray) w := by
  refine run_buildStr (pl := [(0, .slice A n c)]) (places := #[(0, 1), (1, 1), (2, 1)]) Tryd.underlying143 Tryd.zv143 rfl (fun w => ?_) ?_
  · simp [Fw.run_sizeOf Tryd.sz22, Fw.run_sizeOf Tryd.sz3, Fw.run_sizeOf Tryd.sz4]
  · rfl
theorem build_rrec0 (w : World) : (Instr.build 75 #[]).run Tryd.prog w = .ok (.agg [sV [], sV [], .bool false].toArray) w := by
  refine run_buildStr (pl := []) (places := #[(0, 1), (1, 1), (2, 1)]) Tryd.underlying75 Tryd.zv75 rfl (fun w => ?_) rfl
  simp [Fw.run_sizeOf Tryd.sz9, Fw.run_sizeOf Tryd.sz4]
theorem build_rrec (a c : List UInt8) (p : Bool) (w : World) : (Instr.build 75 #[(0, sV a), (1, sV c), (2, .bool p)]).run Tryd.prog w = .ok (.agg [sV a, sV c, .bool p].toArray) w := by
  refine run_buildStr (pl := [(0, sV a), (1, sV c), (2, .bool p)]) (places := #[(0, 1), (1, 1), (2, 1)]) Tryd.underlying75 Tryd.zv75 rfl (fun w => ?_) ?_
  · simp [Fw.run_sizeOf Tryd.sz9, Fw.run_sizeOf Tryd.sz4]
  · rfl
theorem CurR.cells {w00 w : World} {T : List Ent} {c : Nat} {bv : Value} {bl : List UInt8} : ∀ {s : RSt}, CurR w00 T c bv bl s w → ∃ i bad, St w00 w (⟨true, some c, curO bv i bad⟩ :: T) ∧ decide (bad = false ∧ i = bl.length) = decide (s = some [])
  | some xs, ⟨i, hi, hx, h3⟩ => ⟨i, false, h3, decide_eq_decide.2 ⟨fun h => by rw [hx, h.2, List.drop_of_length_le (Nat.le_refl _)], fun h => by
      injection h with h
      rw [h] at hx
      have := congrArg List.length hx
      rw [List.length_drop, List.length_nil] at this
      exact ⟨rfl, by omega⟩⟩⟩
  | none, ⟨i, h⟩ => ⟨i, true, h, by rw [decide_eq_false (fun h => by cases h.1), decide_eq_false (fun h => by cases h)]⟩
theorem cend_cells {w0 : World} {c n i cc : Nat} {A : Option Addr} {bad ev : Bool} (h0 : w0.cell? ⟨c, 0, none⟩ = some (.slice A n cc)) (h1 : w0.cell? ⟨c, 1, none⟩ = some (vI i)) (h2 : w0.cell? ⟨c, 2, none⟩ = some (.bool bad)) (he : decide (bad = false ∧ i = n) = ev) : Calls Tryd.prog 82 #[.pointer (some ⟨c, 0, none⟩)] w0 fun e w' => e = .returned (.bool ev) ∧ Ext w0 w' := by
  cases bad with
  | true => exact (cend_bad h2).mono fun e w' ⟨h, hx⟩ => ⟨by rw [h, ← he, decide_eq_false (fun h => by cases h.1)], hx⟩
  | false => exact (cend_good h0 h1 h2).mono fun e w' ⟨h, hx⟩ => ⟨by rw [h, ← he]; congr 2; exact decide_eq_decide.2 ⟨fun h => ⟨rfl, h⟩, fun h => h.2⟩, hx⟩
theorem byte_ne0 (x : UInt8) : decide (((x.toNat : Nat) : Int) ≠ 0) = decide (x ≠ 0) := by
  refine decide_eq_decide.2 (not_congr ⟨fun h => UInt8.toNat_inj.1 (by show x.toNat = 0; omega), fun h => by rw [h]; rfl⟩)
theorem five (p q r s : Prop) : ¬ p ∨ (p ∧ ¬ q) ∨ (p ∧ q ∧ ¬ r) ∨ (p ∧ q ∧ r ∧ ¬ s) ∨ (p ∧ q ∧ r ∧ s) := by
  by_cases hp : p <;> by_cases hq : q <;> by_cases hr : r <;> by_cases hs : s <;> simp [hp, hq, hr, hs]
theorem NewB.own {w w' : World} {n : Nat} {l : List UInt8} {v : Value} (h : NewB w n l v w') : ∃ b bp, v = .slice (some ⟨b, 0, none⟩) n (n + bp.length) ∧ n + bp.length ≤ 9223372036854775807 ∧ w.heap.size ≤ b ∧ w'.heap[b]? = some (blk 5 (l.map vB ++ bp)) := h


set_option maxHeartbeats 2000000 in
theorem rhalf_ok {bv : Value} {bl : List UInt8} {w0 : World} (hb : Rd w0 bv (bl.map vB)) (h64 : 64 ≤ bl.length) (hbl : bl.length ≤ 16777216) :
    Calls Tryd.prog 62 #[bv] w0 fun e w' => e = .returned (.tuple #[(halfR bl).1.v, vD (halfR bl).2.1, .bool (halfR bl).2.2]) ∧ Ext w0 w' := by
  obtain ⟨Ab, cb, rfl, hb1, hb2, hbc⟩ := hb.isB
  obtain ⟨b0, o0, rfl, _⟩ := hbc (by omega)
  clear hbc
  have hbs : SRd w0 [] (.slice (some ⟨b0, o0, none⟩) bl.length cb) (bl.map vB) := fun w H hS hn _ => hb.ext (hS.toExt hn)
  have nil_in : ∀ {H : List Ent}, ∀ e ∈ ([] : List Ent), e ∈ H := fun e he => by cases he
  refine calls_start 116 Tryd.func62 rfl Tryd.ntmps62 rfl fun a hF => ?_
  have hS := St.refl w0
  refine wp_seq_k fun Kq1 hKq1 => ?_
  -- region 0 (ref.go:43)
  refine wp_region_lit ?_
  refine wpList_stp (stp_alloc hF (wanted_none rfl) rfl rfl rfl Tryd.zv75 rfl hS fun out a w hF hS => ?_)
  refine wpList_stp (stp_gv hF (wanted_none rfl) rfl rfl (gv_assign rfl (ev_const _ _)) fun a hF => ?_)
  refine wpList_stp (stp_gv hF (wanted_none rfl) rfl rfl (gv_assign rfl (ev_const _ _)) fun a hF => ?_)
  refine wpList_nil ?_
  refine then_normal (hKq1 _ _ ?_)
  refine wp_seq_k fun Kq2 hKq2 => ?_
  -- region 1 (ref.go:44)
  refine wp_region_lit ?_
  refine wpList_stp (stp_gv hF (wanted_none rfl) rfl rfl (gv_move rfl (hF.t rfl)) fun a hF => ?_)
  refine wpList_stp (stp_gv hF (wanted_none rfl) rfl rfl (gv_slice2 (l := 12) (h := 16) rfl Tryd.underlying22 Tryd.sz5 (hF.t rfl) rfl rfl (by omega) (by omega)) fun a hF => ?_)
  refine wpList_stp (stp_gv hF (wanted_none rfl) rfl rfl (gv_build rfl (EvP.map (EvP.cons (hF.t rfl) EvP.nil)) (build_cur _)) fun a hF => ?_)
  refine wpList_stp (stp_box (cs := [.slice (if cb = 12 then some ⟨b0, o0, none⟩ else (some (⟨b0, o0, none⟩ : Addr)).map (·.add 12)) (16 - 12) (cb - 12), vI 0, .bool false]) hF (wanted_none rfl) rfl rfl rfl (hF.t rfl) rfl hS fun cu a w hF hS => ?_)
  refine wpList_stp (stp_gv hF (wanted_none rfl) rfl rfl (gv_assign rfl (hF.t rfl)) fun a hF => ?_)
  refine wpList_nil ?_
  refine then_normal (hKq2 _ _ ?_)
  refine wp_seq_k fun Kq3 hKq3 => ?_
  -- region 2 (ref.go:45)
  refine wp_region_lit ?_
  refine wpList_stp (stp_gv hF (wanted_none rfl) rfl rfl (gv_move rfl (hF.t rfl)) fun a hF => ?_)
  obtain ⟨b1, hb1e⟩ : ∃ b1, b1 = (bl.take 16).drop 12 := ⟨_, rfl⟩
  have hb1l : b1.length = 4 := by rw [hb1e, List.length_drop, List.length_take]; omega
  obtain ⟨A1, hA1⟩ : ∃ A1 : Option Addr, A1 = (if cb = 12 then some ⟨b0, o0, none⟩ else (some (⟨b0, o0, none⟩ : Addr)).map (·.add 12)) := ⟨_, rfl⟩
  obtain ⟨cc1, hcc1⟩ : ∃ cc1, cc1 = cb - 12 := ⟨_, rfl⟩
  have hB : SRd w0 [⟨true, some out, rrO [] [] false⟩] (.slice A1 b1.length cc1) (b1.map vB) := by
    have := SRd.cut3 (T := [⟨true, some out, rrO [] [] false⟩]) (l := 12) (h := 16) (mx := cb) (hbs.mono (fun e he => nil_in e he)) (by omega) (by omega) (by omega) (Nat.le_refl _)
    rw [← List.map_take, ← List.map_drop, ← hb1e] at this
    rw [hb1l, hA1, hcc1]
    exact this
  have hcc : b1.length ≤ cc1 := by omega
  have hR : CurR w0 [⟨true, some out, rrO [] [] false⟩] cu (.slice A1 b1.length cc1) b1 (some b1) w := ⟨0, by omega, rfl, by rw [hb1l, hA1, hcc1]; exact hS⟩
  clear hS
  refine wpList_stp (stp_call hF (wanted_none rfl) rfl rfl Tryd.ok74 rfl (Evs.cons (hF.t rfl) Evs.nil) (cu32_all (nw_cons rfl nw_nil) hB hcc (by omega) hR) fun e w h => ?_)
  obtain ⟨rfl, hR⟩ := h
  refine ⟨_, rfl, fun a hF => ?_⟩
  refine wpList_stp (stp_gv hF (wanted_none rfl) rfl rfl (gv_assign rfl (hF.t rfl)) fun a hF => ?_)
  obtain ⟨n, hn⟩ : ∃ n, n = szR bl := ⟨_, rfl⟩
  rw [hb1e, show (u32R (some ((bl.take 16).drop 12))).1.toNat = n from hn.symm] at hF
  obtain ⟨i1, bad1, hS⟩ := hR.st
  replace hS := hS.drop rfl
  clear hR hB hcc hcc1 hA1 hb1l hb1e
  refine wpList_nil ?_
  refine then_normal (hKq3 _ _ ?_)
  refine wp_seq_k fun Kq4 hKq4 => ?_
  refine wp_seq_k fun Kq5 hKq5 => ?_
  -- region 3 (ref.go:46)
  refine wp_region_lit ?_
  refine wpList_stp (stp_gv hF (wanted_none rfl) rfl rfl (gv_move rfl (hF.t rfl)) fun a hF => ?_)
  refine wpList_stp (stp_gv hF (wanted_none rfl) rfl rfl (gv_move rfl (hF.t rfl)) fun a hF => ?_)
  refine wpList_stp (stp_gv hF (wanted_none rfl) rfl rfl (gv_len rfl Tryd.underlying22 (hF.t rfl)) fun a hF => ?_)
  refine wpList_stp (stp_gv hF (wanted_none rfl) rfl rfl (gv_nsub (n := 64) rfl (hF.t rfl) rfl (by omega) (by omega)) fun a hF => ?_)
  refine wpList_stp (stp_gv hF (wanted_none rfl) rfl rfl (gv_gtr rfl (hF.t rfl) (hF.t rfl)) fun a hF => ?_)
  refine wpList_nil ?_
  refine then_normal (hKq5 _ _ ?_)
  refine cond_dec (hF.t rfl) (fun h24 => ?_) (fun h24 => ?_)
  ·
    refine wp_seq_k fun Kq6 hKq6 => ?_
    -- region 4 (ref.go:47)
    refine wp_region_lit ?_
    refine wpList_stp (stp_gv hF (wanted_none rfl) rfl rfl (gv_build rfl (EvP.map EvP.nil) (build_rrec0 _)) fun a hF => ?_)
    refine wpList_stp (stp_storeAll hF (wanted_none rfl) rfl rfl (Tryd.sz75.trans (congrArg some (rfl))) (hF.t rfl) (hF.t rfl) ((by intro u hu; simp at hu; rcases hu with rfl | rfl | rfl <;> rfl)) hS (k := 0) rfl (rfl) fun w hS => ?_)
    refine wpList_stp (stp_gv hF (wanted_none rfl) rfl rfl (gv_assign rfl (ev_const _ _)) fun a hF => ?_)
    refine wpList_stp (stp_gv hF (wanted_none rfl) rfl rfl (gv_assign rfl (ev_const _ _)) fun a hF => ?_)
    refine wpList_nil ?_
    refine then_normal (hKq6 _ _ ?_)
    refine wp_ret ?_
    refine then_ret ?_
    refine retCTT (fn := Tryd.f62) (vs := [sV [], sV [], .bool false]) hF rfl Tryd.underlying75 rfl Tryd.sz75 rfl rfl rfl hS (k := 0) rfl ?_
    refine ⟨?_, hS.toExt (nw_cons rfl nw_nil)⟩
    rw [halfR, if_pos (by rw [← hn]; omega)]
    rfl
  ·
    refine wp_skip ?_
    refine then_normal (hKq4 _ _ ?_)
    refine wp_seq_k fun Kq7 hKq7 => ?_
    -- region 5 (ref.go:49)
    refine wp_region_lit ?_
    refine wpList_stp (stp_gv hF (wanted_none rfl) rfl rfl (gv_assign rfl (ev_const _ _)) fun a hF => ?_)
    refine wpList_nil ?_
    refine then_normal (hKq7 _ _ ?_)
    refine wp_seq_k fun Kq8 hKq8 => ?_
    refine wp_seq_k fun Kq9 hKq9 => ?_
    -- region 6 (ref.go:50)
    refine wp_region_lit ?_
    refine wpList_stp (stp_gv hF (wanted_none rfl) rfl rfl (gv_assign rfl (ev_const _ _)) fun a hF => ?_)
    refine wpList_nil ?_
    refine then_normal (hKq9 _ _ ?_)
    refine wp_block ?_
    have hg0 : genB bl 0 = 0 := rfl
    refine wp_loop_n (fun q a w => ∃ i, i ≤ 8 ∧ q = 8 - i ∧ Fr 116 a [(0, .slice (some ⟨b0, o0, none⟩) bl.length cb), (2, .pointer (some ⟨out, 0, none⟩)), (6, vI n), (7, vD (genB bl i)), (8, vI (4 + i))] ∧ St w0 w [⟨true, some out, rrO [] [] false⟩]) 8 ⟨0, by omega, by omega, hF.sub ⟨rfl, rfl, rfl, rfl, rfl, trivial⟩, hS⟩ ?_
    rintro q a w ⟨i, hi, hq, hF, hS⟩
    refine wp_seq_k fun Kq10 hKq10 => ?_
    refine wp_seq_k fun Kq11 hKq11 => ?_
    -- region 7 (ref.go:50)
    refine wp_region_lit ?_
    refine wpList_stp (stp_gv hF (wanted_none rfl) rfl rfl (gv_move rfl (hF.t rfl)) fun a hF => ?_)
    refine wpList_stp (stp_gv hF (wanted_none rfl) rfl rfl (gv_lss rfl (hF.t rfl) (ev_const _ _)) fun a hF => ?_)
    refine wpList_nil ?_
    refine then_normal (hKq11 _ _ ?_)
    refine cond_dec (hF.t rfl) (fun h27 => ?_) (fun h27 => ?_)
    ·
      refine wp_skip ?_
      refine then_normal (hKq10 _ _ ?_)
      refine wp_seq_k fun Kq12 hKq12 => ?_
      refine wp_block ?_
      -- region 9 (ref.go:51)
      refine wp_region_lit ?_
      refine wpList_stp (stp_gv hF (wanted_none rfl) rfl rfl (gv_move rfl (hF.t rfl)) fun a hF => ?_)
      refine wpList_stp (stp_gv hF (wanted_none rfl) rfl rfl (gv_d_mul (n := 256) rfl (hF.t rfl) rfl) fun a hF => ?_)
      refine wpList_stp (stp_gv hF (wanted_none rfl) rfl rfl (gv_move rfl (hF.t rfl)) fun a hF => ?_)
      refine wpList_stp (stp_gv hF (wanted_none rfl) rfl rfl (gv_move rfl (hF.t rfl)) fun a hF => ?_)
      refine wpList_stp (stp_gv hF (wanted_none rfl) rfl rfl (gv_indexSl rfl Tryd.underlying22 Tryd.sz5 (hF.t rfl) (hF.t rfl) (by omega)) fun a hF => ?_)
      refine wpList_stp (stp_gv hF (wanted_none rfl) rfl rfl (gv_load rfl Tryd.underlying5 rfl (hF.t rfl) (cell_ix ((hb.ext (hS.toExt (nw_cons rfl nw_nil))).cellB (4 + i) (by omega)) (by omega))) fun a hF => ?_)
      refine wpList_stp (stp_gv hF (wanted_none rfl) rfl rfl (gv_conv_b_d rfl Tryd.underlying5 Tryd.underlying76 (hF.t rfl)) fun a hF => ?_)
      refine wpList_stp (stp_gv hF (wanted_none rfl) rfl rfl (gv_d_add rfl (hF.t rfl) (hF.t rfl)) fun a hF => ?_)
      refine wpList_stp (stp_gv hF (wanted_none rfl) rfl rfl (gv_assign rfl (hF.t rfl)) fun a hF => ?_)
      refine wpList_nil ?_
      refine block_normal ?_
      refine then_normal (hKq12 _ _ ?_)
      -- region 8 (ref.go:50)
      refine wp_region_lit ?_
      refine wpList_stp (stp_gv hF (wanted_none rfl) rfl rfl (gv_move rfl (hF.t rfl)) fun a hF => ?_)
      refine wpList_stp (stp_gv hF (wanted_none rfl) rfl rfl (gv_nadd (n := 1) rfl (hF.t rfl) rfl (by omega)) fun a hF => ?_)
      refine wpList_stp (stp_gv hF (wanted_none rfl) rfl rfl (gv_assign rfl (hF.t rfl)) fun a hF => ?_)
      refine wpList_nil ?_
      refine then_normal ?_
      exact ⟨q - 1, by omega, i + 1, by omega, by omega, hF.sub ⟨rfl, rfl, rfl, rfl, rfl, trivial⟩, hS⟩
    ·
      refine wp_exit ?_
      refine then_exit ?_
      refine then_exit ?_
      refine block_exit ?_
      refine then_normal (hKq8 _ _ ?_)
      refine wp_seq_k fun Kq13 hKq13 => ?_
      obtain rfl : i = 8 := by omega
      obtain ⟨G, hG⟩ : ∃ G, G = genB bl 8 := ⟨_, rfl⟩
      rw [← hG] at hF
      -- region 10 (ref.go:53)
      refine wp_region_lit ?_
      refine wpList_stp (stp_gv hF (wanted_none rfl) rfl rfl (gv_move rfl (hF.t rfl)) fun a hF => ?_)
      refine wpList_stp (stp_gv hF (wanted_none rfl) rfl rfl (gv_move rfl (hF.t rfl)) fun a hF => ?_)
      refine wpList_stp (stp_gv hF (wanted_none rfl) rfl rfl (gv_nadd (m := 64) rfl rfl (hF.t rfl) (by omega)) fun a hF => ?_)
      refine wpList_stp (stp_gv hF (wanted_none rfl) rfl rfl (gv_slice2 (l := 64) (h := 64 + n) rfl Tryd.underlying22 Tryd.sz5 (hF.t rfl) rfl (hF.t rfl) (by omega) (by omega)) fun a hF => ?_)
      refine wpList_stp (stp_gv hF (wanted_none rfl) rfl rfl (gv_build rfl (EvP.map (EvP.cons (hF.t rfl) EvP.nil)) (build_cur _)) fun a hF => ?_)
      refine wpList_stp (stp_box (cs := [.slice (if cb = 64 then some ⟨b0, o0, none⟩ else (some (⟨b0, o0, none⟩ : Addr)).map (·.add 64)) ((64 + n) - 64) (cb - 64), vI 0, .bool false]) hF (wanted_none rfl) rfl rfl rfl (hF.t rfl) rfl hS fun c2 a w hF hS => ?_)
      refine wpList_stp (stp_gv hF (wanted_none rfl) rfl rfl (gv_assign rfl (hF.t rfl)) fun a hF => ?_)
      refine wpList_nil ?_
      refine then_normal (hKq13 _ _ ?_)
      refine wp_seq_k fun Kq14 hKq14 => ?_
      -- region 11 (ref.go:54)
      refine wp_region_lit ?_
      refine wpList_stp (stp_gv hF (wanted_none rfl) rfl rfl (gv_move rfl (hF.t rfl)) fun a hF => ?_)
      obtain ⟨dl, hdl⟩ : ∃ dl, dl = datR bl := ⟨_, rfl⟩
      have hde : dl = (bl.take (64 + n)).drop 64 := by rw [hdl, datR, ← hn, List.drop_take, show 64 + n - 64 = n by omega]
      have hdll : dl.length = n := by rw [hde, List.length_drop, List.length_take]; omega
      obtain ⟨A2, hA2⟩ : ∃ A2 : Option Addr, A2 = (if cb = 64 then some ⟨b0, o0, none⟩ else (some (⟨b0, o0, none⟩ : Addr)).map (·.add 64)) := ⟨_, rfl⟩
      obtain ⟨cc2, hcc2⟩ : ∃ cc2, cc2 = cb - 64 := ⟨_, rfl⟩
      have hB : SRd w0 [⟨true, some out, rrO [] [] false⟩] (.slice A2 dl.length cc2) (dl.map vB) := by
        have := SRd.cut3 (T := [⟨true, some out, rrO [] [] false⟩]) (l := 64) (h := 64 + n) (mx := cb) (hbs.mono (fun e he => nil_in e he)) (by omega) (by omega) (by omega) (Nat.le_refl _)
        rw [← List.map_take, ← List.map_drop, ← hde] at this
        rw [hdll, hA2, hcc2, show n = 64 + n - 64 by omega]
        exact this
      have hcc : dl.length ≤ cc2 := by omega
      have hR : CurR w0 [⟨true, some out, rrO [] [] false⟩] c2 (.slice A2 dl.length cc2) dl (some dl) w := ⟨0, by omega, rfl, by rw [hdll, hA2, hcc2]; rw [show 64 + n - 64 = n by omega] at hS; exact hS⟩
      clear hS
      refine wpList_stp (stp_call hF (wanted_none rfl) rfl rfl Tryd.ok80 rfl (Evs.cons (hF.t rfl) Evs.nil) (ctext_all (nw_cons rfl nw_nil) hB hcc (by omega) hR) fun e w h => ?_)
      obtain ⟨rfl, hR⟩ := h
      refine ⟨_, rfl, fun a hF => ?_⟩
      refine wpList_stp (stp_gv hF (wanted_none rfl) rfl rfl (gv_move rfl (hF.t rfl)) fun a hF => ?_)
      refine wpList_stp (stp_call hF (wanted_none rfl) rfl rfl Tryd.ok80 rfl (Evs.cons (hF.t rfl) Evs.nil) (ctext_all (nw_cons rfl nw_nil) hB hcc (by omega) hR) fun e w h => ?_)
      obtain ⟨rfl, hR⟩ := h
      refine ⟨_, rfl, fun a hF => ?_⟩
      refine wpList_stp (stp_gv hF (wanted_none rfl) rfl rfl (gv_move rfl (hF.t rfl)) fun a hF => ?_)
      refine wpList_stp (stp_call hF (wanted_none rfl) rfl rfl Tryd.ok81 rfl (Evs.cons (hF.t rfl) Evs.nil) (cbyte_all (nw_cons rfl nw_nil) hB hcc (by omega) hR) fun e w h => ?_)
      obtain ⟨rfl, hR⟩ := h
      refine ⟨_, rfl, fun a hF => ?_⟩
      refine wpList_stp (stp_gv hF (wanted_none rfl) rfl rfl (gv_neq rfl (hF.t rfl) (ev_const _ _)) fun a hF => ?_)
      rw [byte_ne0] at hF
      obtain ⟨i2, bad2, hS, hev⟩ := hR.cells
      have htl1 := textR_len (some dl)
      have htl2 := textR_len (textR (some dl)).2
      obtain ⟨r1, hr1⟩ : ∃ r1, r1 = parseF dl := ⟨_, rfl⟩
      obtain ⟨⟨a1, c1, p1⟩, ev⟩ := r1
      have ha1 : (textR (some dl)).1 = a1 := congrArg (fun x : Rc × Bool => x.1.a) hr1.symm
      have hc1 : (textR (textR (some dl)).2).1 = c1 := congrArg (fun x : Rc × Bool => x.1.c) hr1.symm
      have hp1 : decide ((byteR (textR (textR (some dl)).2).2).1 ≠ 0) = p1 := congrArg (fun x : Rc × Bool => x.1.p) hr1.symm
      rw [show decide ((byteR (textR (textR (some dl)).2).2).2 = some []) = ev from congrArg (fun x : Rc × Bool => x.2) hr1.symm] at hev
      rw [ha1, hc1, hp1] at hF
      rw [ha1] at htl1
      rw [hc1] at htl2
      have hpar : parseF dl = (⟨a1, c1, p1⟩, ev) := hr1.symm
      clear hR ha1 hc1 hp1 hr1
      obtain ⟨RB, hRB⟩ : ∃ RB, RB = recB a1 c1 p1 := ⟨_, rfl⟩
      have hRl := recB_len a1 c1 p1
      rw [← hRB] at hRl
      refine wpList_stp (stp_gv hF (wanted_none rfl) rfl rfl (gv_build rfl (EvP.map (EvP.cons (hF.t rfl) (EvP.cons (hF.t rfl) (EvP.cons (hF.t rfl) EvP.nil)))) (build_rrec _ _ _ _)) fun a hF => ?_)
      refine wpList_stp (stp_alloc hF (wanted_none rfl) rfl rfl rfl Tryd.zv75 rfl hS fun rc a w hF hS => ?_)
      refine wpList_stp (stp_storeAll hF (wanted_none rfl) rfl rfl (Tryd.sz75.trans (congrArg some (rfl))) (hF.t rfl) (hF.t rfl) ((by intro u hu; simp at hu; rcases hu with rfl | rfl | rfl <;> rfl)) hS (k := 0) rfl (rfl) fun w hS => ?_)
      refine wpList_nil ?_
      refine then_normal (hKq14 _ _ ?_)
      refine wp_seq_k fun Kq15 hKq15 => ?_
      -- region 12 (ref.go:55)
      refine wp_region_lit ?_
      refine wpList_stp (stp_gv hF (wanted_none rfl) rfl rfl (gv_move rfl (hF.t rfl)) fun a hF => ?_)
      refine wpList_stp (stp_gv hF (wanted_none rfl) rfl rfl (gv_loadAll rfl Tryd.underlying75 rfl (Tryd.sz75.trans (congrArg some (rfl))) (hF.t rfl) hS (k := 0) rfl) fun a hF => ?_)
      refine wpList_stp (stp_call hF (wanted_none rfl) rfl rfl Tryd.ok38 rfl (Evs.cons (hF.t rfl) (Evs.cons (hF.t rfl) Evs.nil)) (rimage_ok (g := G) (al := a1) (cl := c1) (p := p1) (by omega) (by omega)) fun e w h => ?_)
      obtain ⟨wt, wp, rfl, wc, hN⟩ := h
      refine ⟨_, rfl, fun a hF => ?_⟩
      replace hS := hS.join hN (nw_cons rfl nw_nil)
      simp only [List.cons_append, List.nil_append] at hS
      clear hN
      rw [← hRB] at hF wc hS
      obtain ⟨IL, hIL⟩ : ∃ IL, IL = imgF G RB := ⟨_, rfl⟩
      have hILl : 64 ≤ IL.length := by rw [hIL, imgF_len]; omega
      rw [← hIL] at hF wc hS
      refine wpList_stp (stp_gv hF (wanted_none rfl) rfl rfl (gv_assign rfl (hF.t rfl)) fun a hF => ?_)
      refine wpList_nil ?_
      refine then_normal (hKq15 _ _ ?_)
      refine wp_seq_k fun Kq16 hKq16 => ?_
      -- region 13 (ref.go:56)
      refine wp_region_lit ?_
      refine wpList_stp (stp_gv hF (wanted_none rfl) rfl rfl (gv_assign rfl (ev_const _ _)) fun a hF => ?_)
      refine wpList_nil ?_
      refine then_normal (hKq16 _ _ ?_)
      refine wp_cut (fun a w => Fr 116 a [(0, .slice (some ⟨b0, o0, none⟩) bl.length cb), (2, .pointer (some ⟨out, 0, none⟩)), (6, vI n), (7, vD G), (9, .pointer (some ⟨c2, 0, none⟩)), (10, .pointer (some ⟨rc, 0, none⟩)), (11, .slice (some ⟨wt, 0, none⟩) IL.length (IL.length + wp.length)), (12, vB (flR bl n))] ∧ St w0 w [⟨true, some wt, blk 5 (IL.map vB ++ wp)⟩, ⟨true, some rc, rrO a1 c1 p1⟩, ⟨true, some c2, curO (.slice A2 dl.length cc2) i2 bad2⟩, ⟨true, some out, rrO [] [] false⟩]) ?_ ?_
      ·
        refine wp_seq_k fun Kq17 hKq17 => ?_
        -- region 14 (ref.go:57)
        refine wp_region_lit ?_
        refine wpList_stp (stp_gv hF (wanted_none rfl) rfl rfl (gv_move rfl (hF.t rfl)) fun a hF => ?_)
        refine wpList_stp (stp_gv hF (wanted_none rfl) rfl rfl (gv_gtr rfl (hF.t rfl) (ev_const _ _)) fun a hF => ?_)
        refine wpList_nil ?_
        refine then_normal (hKq17 _ _ ?_)
        refine cond_dec (hF.t rfl) (fun h56 => ?_) (fun h56 => ?_)
        ·
          -- region 15 (ref.go:58)
          refine wp_region_lit ?_
          refine wpList_stp (stp_gv hF (wanted_none rfl) rfl rfl (gv_move rfl (hF.t rfl)) fun a hF => ?_)
          refine wpList_stp (stp_gv hF (wanted_none rfl) rfl rfl (gv_move rfl (hF.t rfl)) fun a hF => ?_)
          refine wpList_stp (stp_gv hF (wanted_none rfl) rfl rfl (gv_nadd (m := 63) rfl rfl (hF.t rfl) (by omega)) fun a hF => ?_)
          refine wpList_stp (stp_gv hF (wanted_none rfl) rfl rfl (gv_indexSl rfl Tryd.underlying22 Tryd.sz5 (hF.t rfl) (hF.t rfl) (by omega)) fun a hF => ?_)
          refine wpList_stp (stp_gv hF (wanted_none rfl) rfl rfl (gv_load rfl Tryd.underlying5 rfl (hF.t rfl) (cell_ix ((hb.ext (hS.toExt (nw_cons rfl (nw_cons rfl (nw_cons rfl (nw_cons rfl nw_nil)))))).cellB (63 + n) (by omega)) (by omega))) fun a hF => ?_)
          refine wpList_stp (stp_gv hF (wanted_none rfl) rfl rfl (gv_assign rfl (hF.t rfl)) fun a hF => ?_)
          refine wpList_nil ?_
          refine then_normal ?_
          rw [show bl.getD (63 + n) 0 = flR bl n from (if_pos (by omega)).symm] at hF
          exact ⟨hF.sub ⟨rfl, rfl, rfl, rfl, rfl, rfl, rfl, rfl, trivial⟩, hS⟩
        ·
          refine wp_skip ?_
          refine then_normal ?_
          have hfl0 : flR bl n = 0 := if_neg (by omega)
          exact ⟨by rw [hfl0]; exact hF.sub ⟨rfl, rfl, rfl, rfl, rfl, rfl, rfl, rfl, trivial⟩, hS⟩
      · rintro a w ⟨hF, hS⟩
        obtain ⟨FL, hFL⟩ : ∃ FL, FL = flR bl n := ⟨_, rfl⟩
        rw [← hFL] at hF
        obtain ⟨WL, hWL⟩ : ∃ WL, WL = wantR bl G RB FL := ⟨_, rfl⟩
        have hWl : 64 ≤ WL.length := by rw [hWL]; exact wantR_len (by omega)
        refine wp_cut (fun a w => ∃ (wt : Nat) (wp : List Value), WL.length + wp.length ≤ 9223372036854775807 ∧ Fr 116 a [(0, .slice (some ⟨b0, o0, none⟩) bl.length cb), (2, .pointer (some ⟨out, 0, none⟩)), (6, vI n), (7, vD G), (9, .pointer (some ⟨c2, 0, none⟩)), (10, .pointer (some ⟨rc, 0, none⟩)), (11, .slice (some ⟨wt, 0, none⟩) WL.length (WL.length + wp.length))] ∧ St w0 w [⟨true, some wt, blk 5 (WL.map vB ++ wp)⟩, ⟨true, some rc, rrO a1 c1 p1⟩, ⟨true, some c2, curO (.slice A2 dl.length cc2) i2 bad2⟩, ⟨true, some out, rrO [] [] false⟩]) ?_ ?_
        ·
          refine wp_seq_k fun Kq18 hKq18 => ?_
          -- region 16 (ref.go:60)
          refine wp_region_lit ?_
          refine wpList_stp (stp_gv hF (wanted_none rfl) rfl rfl (gv_move rfl (hF.t rfl)) fun a hF => ?_)
          refine wpList_stp (stp_gv hF (wanted_none rfl) rfl rfl (gv_gtr rfl (hF.t rfl) (ev_const _ _)) fun a hF => ?_)
          refine wpList_nil ?_
          refine then_normal (hKq18 _ _ ?_)
          refine cond_dec (hF.t rfl) (fun h63 => ?_) (fun h63 => ?_)
          ·
            refine wp_seq_k fun Kq19 hKq19 => ?_
            -- region 17 (ref.go:61)
            refine wp_region_lit ?_
            refine wpList_stp (stp_gv hF (wanted_none rfl) rfl rfl (gv_loadAll rfl Tryd.underlying75 rfl (Tryd.sz75.trans (congrArg some (rfl))) (hF.t rfl) hS (k := 1) rfl) fun a hF => ?_)
            refine wpList_stp (stp_call hF (wanted_none rfl) rfl rfl Tryd.ok63 rfl (Evs.cons (hF.t rfl) Evs.nil) (rbytes_ok (al := a1) (cl := c1) (p := p1) (by omega) (by omega)) fun e w h => ?_)
            obtain ⟨y, yp, rfl, yc, hN⟩ := h
            refine ⟨_, rfl, fun a hF => ?_⟩
            replace hS := hS.join hN (nw_cons rfl nw_nil)
            simp only [List.cons_append, List.nil_append] at hS
            clear hN
            rw [← hRB] at hF yc hS
            replace hS := hS.addNil (blk 5 (([] : List UInt8).map vB ++ []))
            refine wpList_stp (stp_appB (ob := none) (l := []) (pad := []) (k := 0) hF (wanted_none rfl) rfl rfl rfl Tryd.underlying22 Tryd.ty5 rfl (ev_const _ _) (hF.t rfl) hS rfl (fun _ => ⟨rfl, rfl⟩) (by simp) ((own_rd (w0 := w0) (ob := some y) (l := RB) List.mem_cons_self (fun h => by cases h) rfl yc) w _ (hS.drop rfl) (nw_cons rfl (nw_cons rfl (nw_cons rfl (nw_cons rfl (nw_cons rfl nw_nil))))) (fun e he => he)) (by simp; omega) fun x xp a w hF xo xc hS => ?_)
            simp only [List.nil_append] at hF xo xc hS
            replace hS := hS.drop2 rfl
            refine wpList_stp (stp_gv hF (wanted_none rfl) rfl rfl (gv_assign rfl (hF.t rfl)) fun a hF => ?_)
            refine wpList_nil ?_
            refine then_normal (hKq19 _ _ ?_)
            refine wp_seq_k fun Kq20 hKq20 => ?_
            obtain ⟨x, rfl⟩ := own_some xo (by omega)
            -- region 18 (ref.go:62)
            refine wp_region_lit ?_
            refine wpList_stp (stp_gv hF (wanted_none rfl) rfl rfl (gv_move rfl (hF.t rfl)) fun a hF => ?_)
            refine wpList_stp (stp_gv hF (wanted_none rfl) rfl rfl (gv_move rfl (hF.t rfl)) fun a hF => ?_)
            refine wpList_stp (stp_gv hF (wanted_none rfl) rfl rfl (gv_len rfl Tryd.underlying22 (hF.t rfl)) fun a hF => ?_)
            refine wpList_stp (stp_gv hF (wanted_none rfl) rfl rfl (gv_nsub (n := 1) rfl (hF.t rfl) rfl (by omega) (by omega)) fun a hF => ?_)
            refine wpList_stp (stp_gv hF (wanted_none rfl) rfl rfl (gv_move rfl (hF.t rfl)) fun a hF => ?_)
            refine wpList_stp (stp_gv hF (wanted_none rfl) rfl rfl (gv_indexSl rfl Tryd.underlying22 Tryd.sz5 (hF.t rfl) (hF.t rfl) (by omega)) fun a hF => ?_)
            refine wpList_stp (stp_storeAt (RB.length - 1) hF (wanted_none rfl) rfl rfl Tryd.sz5 (hF.t rfl) (by omega) (hF.t rfl) rfl hS (k := 0) rfl (by rw [List.length_append, List.length_map]; omega) fun w hS => ?_)
            rw [own_set (by omega)] at hS
            refine wpList_nil ?_
            refine then_normal (hKq20 _ _ ?_)
            refine wp_seq_k fun Kq21 hKq21 => ?_
            obtain ⟨XL, hXL⟩ : ∃ XL, XL = RB.set (RB.length - 1) FL := ⟨_, rfl⟩
            have hXl : XL.length = RB.length := by rw [hXL, List.length_set]
            rw [← hXL] at hS
            obtain ⟨B16, hB16⟩ : ∃ B16, B16 = bl.take 16 := ⟨_, rfl⟩
            have hBl : B16.length = 16 := by rw [hB16, List.length_take]; omega
            have hb16 : SRd w0 [] (.slice (some ⟨b0, o0, none⟩) 16 cb) (B16.map vB) := by
              have := hbs.cutHi (hi := 16) (by omega)
              rwa [← List.map_take, ← hB16] at this
            -- region 19 (ref.go:63)
            refine Fw.wp_region_draw (by kernel_rfl) fun w hx => ?_
            replace hS := hS.ext hx
            clear hx
            refine run_swalk _ 0 10 [2, 5, 7, 8, 9] [[2], [5], [7], [8]] _ (by kernel_rfl) (by kernel_rfl) rfl hF.size ?_
            have hO := hS
            clear hS
            have hS := St.refl w
            refine sw_gv hF rfl (wanted_none rfl) rfl rfl (fun w hx => gv_move rfl (hF.t rfl)) fun a hF => ?_
            refine sw_gv hF rfl (wanted_none rfl) rfl rfl (fun w hx => gv_sliceHi (hi := 16) rfl Tryd.underlying22 Tryd.sz5 (hF.t rfl) rfl (by omega)) fun a hF => ?_
            replace hS := hS.addNil (blk 5 (([] : List UInt8).map vB ++ []))
            refine sw_eff rfl (stp_appB (ob := none) (l := []) (pad := []) (k := 0) hF (wanted_none rfl) rfl rfl rfl Tryd.underlying22 Tryd.ty5 rfl (ev_const _ _) (hF.t rfl) hS rfl (fun _ => ⟨rfl, rfl⟩) (by simp) (hb16 w _ (hO.ext (hS.toExt (nw_cons rfl nw_nil))) (nw_cons rfl (nw_cons rfl (nw_cons rfl (nw_cons rfl (nw_cons rfl nw_nil))))) nil_in) (by simp; omega) fun g gp a w hF go gc hS => ?_)
            simp only [List.nil_append] at hF go gc hS
            refine ⟨hS.toExt (nw_cons rfl nw_nil), ?_⟩
            refine sw_gv hF rfl (wanted_none rfl) rfl rfl (fun w hx => gv_move rfl (hF.t rfl)) fun a hF => ?_
            refine sw_gv hF rfl (wanted_none rfl) rfl rfl (fun w hx => gv_sliceHi (hi := 16) rfl Tryd.underlying22 Tryd.sz5 (hF.t rfl) rfl (by omega)) fun a hF => ?_
            replace hS := hS.addNil (blk 5 (([] : List UInt8).map vB ++ []))
            refine sw_eff rfl (stp_appB (ob := none) (l := []) (pad := []) (k := 0) hF (wanted_none rfl) rfl rfl rfl Tryd.underlying22 Tryd.ty5 rfl (ev_const _ _) (hF.t rfl) hS rfl (fun _ => ⟨rfl, rfl⟩) (by simp) (hb16 w _ (hO.ext (hS.toExt (nw_cons rfl (nw_cons rfl nw_nil)))) (nw_cons rfl (nw_cons rfl (nw_cons rfl (nw_cons rfl (nw_cons rfl nw_nil))))) nil_in) (by simp; omega) fun f fp a w hF fo fc hS => ?_)
            simp only [List.nil_append] at hF fo fc hS
            refine ⟨hS.toExt (nw_cons rfl (nw_cons rfl nw_nil)), ?_⟩
            refine sw_gv hF rfl (wanted_none rfl) rfl rfl (fun w hx => gv_move rfl (hF.t rfl)) fun a hF => ?_
            have hR : Rd w (.slice (some ⟨x, 0, none⟩) RB.length (RB.length + xp.length)) (XL.map vB) := ((own_rd (w0 := w0) (ob := some x) (l := XL) (n := RB.length) List.mem_cons_self (fun h => by cases h) hXl xc) _ _ hO (nw_cons rfl (nw_cons rfl (nw_cons rfl (nw_cons rfl (nw_cons rfl nw_nil))))) (fun e he => he)).ext (hS.toExt (nw_cons rfl (nw_cons rfl nw_nil)))
            refine sw_eff rfl (stp_appB (k := 0) hF (wanted_none rfl) rfl rfl rfl Tryd.underlying22 Tryd.ty5 rfl (hF.t rfl) (hF.t rfl) hS rfl fo fc hR (by omega) fun f fp a w hF fo fc hS => ?_)
            clear hR
            refine ⟨hS.toExt (nw_cons rfl (nw_cons rfl nw_nil)), ?_⟩
            refine sw_eff rfl (stp_call hF (wanted_none rfl) rfl rfl Tryd.ok64 rfl (Evs.cons (hF.t rfl) (Evs.cons (ev_const _ _) Evs.nil)) (rsum_ok ((own_rd (w0 := _) (ob := f) (l := B16 ++ XL) List.mem_cons_self fo rfl fc) w _ hS (nw_cons rfl (nw_cons rfl nw_nil)) (fun e he => he)) (by rw [List.length_append]; omega)) fun e w h => ?_)
            obtain ⟨s, sp, rfl, sc, hN⟩ := h
            refine ⟨_, rfl, fun a hF => ?_⟩
            replace hS := hS.join hN (nw_cons rfl nw_nil)
            simp only [List.cons_append, List.nil_append] at hS
            clear hN
            obtain ⟨SM, hSM⟩ : ∃ SM, SM = sum256 (B16 ++ XL) := ⟨_, rfl⟩
            have hSl : SM.length = 32 := by rw [hSM]; exact sum256_len _
            rw [← hSM] at hS
            refine ⟨hS.toExt (nw_cons rfl (nw_cons rfl (nw_cons rfl nw_nil))), ?_⟩
            have hR : Rd w (.slice (some ⟨s, 0, none⟩) 32 (32 + sp.length)) (SM.map vB) := (own_rd (w0 := _) (ob := some s) (l := SM) (n := 32) List.mem_cons_self (fun h => by cases h) hSl sc) w _ hS (nw_cons rfl (nw_cons rfl (nw_cons rfl nw_nil))) (fun e he => he)
            refine sw_eff rfl (stp_appB (l := B16) (k := 2) hF (wanted_none rfl) rfl rfl rfl Tryd.underlying22 Tryd.ty5 rfl (hF.t rfl) (hF.t rfl) hS rfl go gc hR (by omega) fun g gp a w hF go gc hS => ?_)
            replace hS := (hS.drop rfl).drop rfl
            have h48 : (B16 ++ SM).length = 48 := by rw [List.length_append]; omega
            clear hR
            refine ⟨hS.toExt (nw_cons rfl nw_nil), ?_⟩
            refine sw_nil ?_
            replace hS := hO.join hS (nw_cons rfl nw_nil)
            simp only [List.cons_append, List.nil_append] at hS
            clear hO
            refine run_stp (by kernel_rfl) rfl (stp_gv hF (wanted_none rfl) rfl rfl (gv_assign rfl (hF.t rfl)) fun a hF => ?_)
            refine run_done (by decide) ?_
            refine then_normal (hKq21 _ _ ?_)
            -- region 20 (ref.go:64)
            refine wp_region_lit ?_
            refine wpList_stp (stp_gv hF (wanted_none rfl) rfl rfl (gv_move rfl (hF.t rfl)) fun a hF => ?_)
            refine wpList_stp (stp_gv hF (wanted_none rfl) rfl rfl (gv_move rfl (hF.t rfl)) fun a hF => ?_)
            refine wpList_stp (stp_gv hF (wanted_none rfl) rfl rfl (gv_slice2 (l := 4) (h := 12) rfl Tryd.underlying22 Tryd.sz5 (hF.t rfl) rfl rfl (by omega) (by omega)) fun a hF => ?_)
            have hR : Rd w (cut3V (some ⟨b0, o0, none⟩) 4 12 cb) (((bl.take 12).drop 4).map vB) := by
              have := (SRd.cut3 (l := 4) (h := 12) hbs (by omega) (by omega) (by omega) (Nat.le_refl _)) w _ hS (nw_cons rfl (nw_cons rfl (nw_cons rfl (nw_cons rfl (nw_cons rfl (nw_cons rfl nw_nil)))))) nil_in
              rwa [← List.map_take, ← List.map_drop] at this
            refine wpList_stp (stp_appB (l := B16 ++ SM) (k := 0) hF (wanted_none rfl) rfl rfl rfl Tryd.underlying22 Tryd.ty5 rfl (hF.t rfl) (hF.t rfl) hS rfl go gc hR (by rw [h48, List.length_drop, List.length_take]; omega) fun g gp a w hF go gc hS => ?_)
            obtain ⟨L2, hL2⟩ : ∃ L2, L2 = B16 ++ SM ++ (bl.take 12).drop 4 := ⟨_, rfl⟩
            have hL2l : L2.length = 56 := by rw [hL2, List.length_append, h48, List.length_drop, List.length_take]; omega
            rw [← hL2] at hF go gc hS
            obtain ⟨g, rfl⟩ := own_some go (by omega)
            clear go hR
            refine wpList_stp (stp_appZ (ob := some g) (l := L2) (k := 0) (n := 8) hF (wanted_none rfl) rfl rfl rfl Tryd.underlying22 Tryd.underlying3 Tryd.underlying9 Tryd.ty5 (hF.t rfl) (ev_const _ _) (by decide) hS rfl (fun h => by cases h) gc (by omega) fun g gp a w hF go gc hS => ?_)
            obtain ⟨g, rfl⟩ := own_some go (by rw [List.length_append]; omega)
            clear go
            refine wpList_stp (stp_gv hF (wanted_none rfl) rfl rfl (gv_assign rfl (hF.t rfl)) fun a hF => ?_)
            refine wpList_nil ?_
            refine then_normal ?_
            rw [show L2 ++ List.replicate 8 0 = WL from by rw [hWL, wantR, if_pos (by omega), hL2, hSM, hXL, hB16]] at hF gc hS
            exact ⟨g, gp, gc, hF.sub ⟨rfl, rfl, rfl, rfl, rfl, rfl, rfl, trivial⟩, ((hS.drop2 rfl).drop2 rfl)⟩
          ·
            refine wp_skip ?_
            refine then_normal ?_
            rw [show IL = WL from by rw [hWL, wantR, if_neg (by omega), hIL]] at hF wc hS
            exact ⟨wt, wp, wc, hF.sub ⟨rfl, rfl, rfl, rfl, rfl, rfl, rfl, trivial⟩, hS⟩
        · rintro a w ⟨wt, wp, wc, hF, hS⟩
          refine wp_seq_k fun Kq22 hKq22 => ?_
          rcases five (ev = true) (bl.take 4 = mun) (WL.take 64 = bl.take 64) (RB.length = n) with hev1 | ⟨hev1, h4⟩ | ⟨hev1, h4, hw⟩ | ⟨hev1, h4, hw, hle⟩ | ⟨hev1, h4, hw, hle⟩
          ·
            rw [Bool.not_eq_true] at hev1
            subst hev1
            refine wp_seq_k fun Kq23 hKq23 => ?_
            have hb4 : SRd w0 [] (.slice (some ⟨b0, o0, none⟩) 4 cb) ((bl.take 4).map vB) := by
              have := hbs.cutHi (hi := 4) (by omega)
              rwa [← List.map_take] at this
            have hb64 : SRd w0 [] (.slice (some ⟨b0, o0, none⟩) 64 cb) ((bl.take 64).map vB) := by
              have := hbs.cutHi (hi := 64) (by omega)
              rwa [← List.map_take] at this
            have hw64 : SRd w0 [⟨true, some wt, blk 5 (WL.map vB ++ wp)⟩, ⟨true, some rc, rrO a1 c1 p1⟩, ⟨true, some c2, curO (.slice A2 dl.length cc2) i2 bad2⟩, ⟨true, some out, rrO [] [] false⟩] (.slice (some ⟨wt, 0, none⟩) 64 (WL.length + wp.length)) ((WL.take 64).map vB) := by
              have := (own_rd (w0 := w0) (T := [⟨true, some wt, blk 5 (WL.map vB ++ wp)⟩, ⟨true, some rc, rrO a1 c1 p1⟩, ⟨true, some c2, curO (.slice A2 dl.length cc2) i2 bad2⟩, ⟨true, some out, rrO [] [] false⟩]) (ob := some wt) (l := WL) List.mem_cons_self (fun h => by cases h) rfl wc).cutHi (hi := 64) (by omega)
              rwa [← List.map_take] at this
            -- region 21 (ref.go:66)
            refine Fw.wp_region_draw (by kernel_rfl) fun w hx => ?_
            replace hS := hS.ext hx
            clear hx
            refine run_swalk _ 0 25 [1, 20] [[18, 9, 3, 1]] _ (by kernel_rfl) (by kernel_rfl) rfl hF.size ?_
            have hO := hS
            clear hS
            have hS := St.refl w
            refine sw_gv hF rfl (wanted_none rfl) rfl rfl (fun w hx => gv_move rfl (hF.t rfl)) fun a hF => ?_
            refine sw_eff rfl (stp_call hF (wanted_none rfl) rfl rfl Tryd.ok82 rfl (Evs.cons (hF.t rfl) Evs.nil) (cend_cells (hO.cell (k := 2) (i := 0) rfl rfl) (hO.cell (k := 2) (i := 1) rfl rfl) (hO.cell (k := 2) (i := 2) rfl rfl) hev) fun e w h => ?_)
            obtain ⟨rfl, hx⟩ := h
            refine ⟨_, rfl, fun a hF => ?_⟩
            replace hS := hS.ext hx
            clear hx
            refine ⟨hS.toExt nw_nil, ?_⟩
            refine sw_gv hF rfl (wanted_none rfl) rfl rfl (fun w hx => gv_not rfl (hF.t rfl)) fun a hF => ?_
            refine sw_gv hF rfl (wanted_none rfl) rfl rfl (fun w hx => gv_move rfl (hF.t rfl)) fun a hF => ?_
            refine sw_skip hF rfl (unwanted_of hF rfl rfl (rfl) rfl) rfl rfl fun a hF => ?_
            refine sw_skip hF rfl (unwanted_of hF rfl rfl (rfl) rfl) rfl rfl fun a hF => ?_
            refine sw_skip hF rfl (unwanted_of hF rfl rfl (rfl) rfl) rfl rfl fun a hF => ?_
            refine sw_skip hF rfl (unwanted_of hF rfl rfl (rfl) rfl) rfl rfl fun a hF => ?_
            refine sw_gv hF rfl (wanted_none rfl) rfl rfl (fun w hx => gv_pickT rfl (hF.t rfl) (ev_const _ _)) fun a hF => ?_
            refine sw_gv hF rfl (wanted_none rfl) rfl rfl (fun w hx => gv_move rfl (hF.t rfl)) fun a hF => ?_
            refine sw_skip hF rfl (unwanted_of hF rfl rfl (rfl) rfl) rfl rfl fun a hF => ?_
            refine sw_skip hF rfl (unwanted_of hF rfl rfl (rfl) rfl) rfl rfl fun a hF => ?_
            refine sw_skip hF rfl (unwanted_of hF rfl rfl (rfl) rfl) rfl rfl fun a hF => ?_
            refine sw_skip hF rfl (unwanted_of hF rfl rfl (rfl) rfl) rfl rfl fun a hF => ?_
            refine sw_skip hF rfl (unwanted_of hF rfl rfl (rfl) rfl) rfl rfl fun a hF => ?_
            refine sw_skip hF rfl (unwanted_of hF rfl rfl (rfl) rfl) rfl rfl fun a hF => ?_
            refine sw_skip hF rfl (unwanted_of hF rfl rfl (rfl) rfl) rfl rfl fun a hF => ?_
            refine sw_gv hF rfl (wanted_none rfl) rfl rfl (fun w hx => gv_pickT rfl (hF.t rfl) (ev_const _ _)) fun a hF => ?_
            refine sw_gv hF rfl (wanted_none rfl) rfl rfl (fun w hx => gv_move rfl (hF.t rfl)) fun a hF => ?_
            refine sw_skip hF rfl (unwanted_of hF rfl rfl (rfl) rfl) rfl rfl fun a hF => ?_
            refine sw_eff rfl (stp_skip hF (unwanted_of hF rfl rfl (rfl) rfl) rfl rfl fun a hF => ?_)
            refine ⟨hS.toExt nw_nil, ?_⟩
            refine sw_skip hF rfl (unwanted_of hF rfl rfl (rfl) rfl) rfl rfl fun a hF => ?_
            refine sw_skip hF rfl (unwanted_of hF rfl rfl (rfl) rfl) rfl rfl fun a hF => ?_
            refine sw_skip hF rfl (unwanted_of hF rfl rfl (rfl) rfl) rfl rfl fun a hF => ?_
            refine sw_gv hF rfl (wanted_none rfl) rfl rfl (fun w hx => gv_pickT rfl (hF.t rfl) (ev_const _ _)) fun a hF => ?_
            refine sw_nil ?_
            replace hS := hO.join hS nw_nil
            simp only [List.cons_append, List.nil_append] at hS
            clear hO
            refine run_done (by decide) ?_
            refine then_normal (hKq23 _ _ ?_)
            refine wp_cond_true (hF.t rfl) ?_
            refine wp_seq_k fun Kq24 hKq24 => ?_
            -- region 22 (ref.go:67)
            refine wp_region_lit ?_
            refine wpList_stp (stp_gv hF (wanted_none rfl) rfl rfl (gv_build rfl (EvP.map EvP.nil) (build_rrec0 _)) fun a hF => ?_)
            refine wpList_stp (stp_storeAll hF (wanted_none rfl) rfl rfl (Tryd.sz75.trans (congrArg some (rfl))) (hF.t rfl) (hF.t rfl) ((by intro u hu; simp at hu; rcases hu with rfl | rfl | rfl <;> rfl)) hS (k := 3) rfl (rfl) fun w hS => ?_)
            refine wpList_stp (stp_gv hF (wanted_none rfl) rfl rfl (gv_assign rfl (ev_const _ _)) fun a hF => ?_)
            refine wpList_stp (stp_gv hF (wanted_none rfl) rfl rfl (gv_assign rfl (ev_const _ _)) fun a hF => ?_)
            refine wpList_nil ?_
            refine then_normal (hKq24 _ _ ?_)
            refine wp_ret ?_
            refine then_ret ?_
            refine retCTT (fn := Tryd.f62) (vs := [sV [], sV [], .bool false]) hF rfl Tryd.underlying75 rfl Tryd.sz75 rfl rfl rfl hS (k := 3) rfl ?_
            refine ⟨?_, hS.toExt (nw_cons rfl (nw_cons rfl (nw_cons rfl (nw_cons rfl nw_nil))))⟩
            rw [halfR, if_neg (by rw [← hn]; omega), if_neg (by rw [recR, ← hn, ← hG, ← hdl, hpar, ← hRB, ← hFL, ← hWL]; exact fun h => Bool.noConfusion h.1)]
            rfl
          ·
            subst hev1
            have H21 := decide_eq_true h4
            refine wp_seq_k fun Kq25 hKq25 => ?_
            have hb4 : SRd w0 [] (.slice (some ⟨b0, o0, none⟩) 4 cb) ((bl.take 4).map vB) := by
              have := hbs.cutHi (hi := 4) (by omega)
              rwa [← List.map_take] at this
            have hb64 : SRd w0 [] (.slice (some ⟨b0, o0, none⟩) 64 cb) ((bl.take 64).map vB) := by
              have := hbs.cutHi (hi := 64) (by omega)
              rwa [← List.map_take] at this
            have hw64 : SRd w0 [⟨true, some wt, blk 5 (WL.map vB ++ wp)⟩, ⟨true, some rc, rrO a1 c1 p1⟩, ⟨true, some c2, curO (.slice A2 dl.length cc2) i2 bad2⟩, ⟨true, some out, rrO [] [] false⟩] (.slice (some ⟨wt, 0, none⟩) 64 (WL.length + wp.length)) ((WL.take 64).map vB) := by
              have := (own_rd (w0 := w0) (T := [⟨true, some wt, blk 5 (WL.map vB ++ wp)⟩, ⟨true, some rc, rrO a1 c1 p1⟩, ⟨true, some c2, curO (.slice A2 dl.length cc2) i2 bad2⟩, ⟨true, some out, rrO [] [] false⟩]) (ob := some wt) (l := WL) List.mem_cons_self (fun h => by cases h) rfl wc).cutHi (hi := 64) (by omega)
              rwa [← List.map_take] at this
            -- region 21 (ref.go:66)
            refine Fw.wp_region_draw (by kernel_rfl) fun w hx => ?_
            replace hS := hS.ext hx
            clear hx
            refine run_swalk _ 0 25 [1, 20] [[18, 9, 3, 1]] _ (by kernel_rfl) (by kernel_rfl) rfl hF.size ?_
            have hO := hS
            clear hS
            have hS := St.refl w
            refine sw_gv hF rfl (wanted_none rfl) rfl rfl (fun w hx => gv_move rfl (hF.t rfl)) fun a hF => ?_
            refine sw_eff rfl (stp_call hF (wanted_none rfl) rfl rfl Tryd.ok82 rfl (Evs.cons (hF.t rfl) Evs.nil) (cend_cells (hO.cell (k := 2) (i := 0) rfl rfl) (hO.cell (k := 2) (i := 1) rfl rfl) (hO.cell (k := 2) (i := 2) rfl rfl) hev) fun e w h => ?_)
            obtain ⟨rfl, hx⟩ := h
            refine ⟨_, rfl, fun a hF => ?_⟩
            replace hS := hS.ext hx
            clear hx
            refine ⟨hS.toExt nw_nil, ?_⟩
            refine sw_gv hF rfl (wanted_none rfl) rfl rfl (fun w hx => gv_not rfl (hF.t rfl)) fun a hF => ?_
            refine sw_gv hF rfl (wanted_none rfl) rfl rfl (fun w hx => gv_move rfl (hF.t rfl)) fun a hF => ?_
            refine sw_gv hF rfl (wanted_of hF rfl rfl (rfl)) rfl rfl (fun w hx => gv_move rfl (hF.t rfl)) fun a hF => ?_
            refine sw_gv hF rfl (wanted_of hF rfl rfl (rfl)) rfl rfl (fun w hx => gv_sliceHi (hi := 4) rfl Tryd.underlying22 Tryd.sz5 (hF.t rfl) rfl (by omega)) fun a hF => ?_
            refine sw_gv hF rfl (wanted_of hF rfl rfl (rfl)) rfl rfl (fun w hx => gv_convStr rfl Tryd.underlying22 Tryd.underlying5 Tryd.underlying9 (hF.t rfl) (hb4 w _ (hO.ext hx) (nw_cons rfl (nw_cons rfl (nw_cons rfl (nw_cons rfl nw_nil)))) nil_in)) fun a hF => ?_
            refine sw_gv hF rfl (wanted_of hF rfl rfl (rfl)) rfl rfl (fun w hx => gv_strNeq (l' := mun) rfl (hF.t rfl) (ev_const _ _)) fun a hF => ?_
            rw [H21] at hF
            refine sw_gv hF rfl (wanted_none rfl) rfl rfl (fun w hx => gv_pickF rfl (hF.t rfl) (hF.t rfl)) fun a hF => ?_
            refine sw_gv hF rfl (wanted_none rfl) rfl rfl (fun w hx => gv_move rfl (hF.t rfl)) fun a hF => ?_
            refine sw_skip hF rfl (unwanted_of hF rfl rfl (rfl) rfl) rfl rfl fun a hF => ?_
            refine sw_skip hF rfl (unwanted_of hF rfl rfl (rfl) rfl) rfl rfl fun a hF => ?_
            refine sw_skip hF rfl (unwanted_of hF rfl rfl (rfl) rfl) rfl rfl fun a hF => ?_
            refine sw_skip hF rfl (unwanted_of hF rfl rfl (rfl) rfl) rfl rfl fun a hF => ?_
            refine sw_skip hF rfl (unwanted_of hF rfl rfl (rfl) rfl) rfl rfl fun a hF => ?_
            refine sw_skip hF rfl (unwanted_of hF rfl rfl (rfl) rfl) rfl rfl fun a hF => ?_
            refine sw_skip hF rfl (unwanted_of hF rfl rfl (rfl) rfl) rfl rfl fun a hF => ?_
            refine sw_gv hF rfl (wanted_none rfl) rfl rfl (fun w hx => gv_pickT rfl (hF.t rfl) (ev_const _ _)) fun a hF => ?_
            refine sw_gv hF rfl (wanted_none rfl) rfl rfl (fun w hx => gv_move rfl (hF.t rfl)) fun a hF => ?_
            refine sw_skip hF rfl (unwanted_of hF rfl rfl (rfl) rfl) rfl rfl fun a hF => ?_
            refine sw_eff rfl (stp_skip hF (unwanted_of hF rfl rfl (rfl) rfl) rfl rfl fun a hF => ?_)
            refine ⟨hS.toExt nw_nil, ?_⟩
            refine sw_skip hF rfl (unwanted_of hF rfl rfl (rfl) rfl) rfl rfl fun a hF => ?_
            refine sw_skip hF rfl (unwanted_of hF rfl rfl (rfl) rfl) rfl rfl fun a hF => ?_
            refine sw_skip hF rfl (unwanted_of hF rfl rfl (rfl) rfl) rfl rfl fun a hF => ?_
            refine sw_gv hF rfl (wanted_none rfl) rfl rfl (fun w hx => gv_pickT rfl (hF.t rfl) (ev_const _ _)) fun a hF => ?_
            refine sw_nil ?_
            replace hS := hO.join hS nw_nil
            simp only [List.cons_append, List.nil_append] at hS
            clear hO
            refine run_done (by decide) ?_
            refine then_normal (hKq25 _ _ ?_)
            refine wp_cond_true (hF.t rfl) ?_
            refine wp_seq_k fun Kq26 hKq26 => ?_
            -- region 22 (ref.go:67)
            refine wp_region_lit ?_
            refine wpList_stp (stp_gv hF (wanted_none rfl) rfl rfl (gv_build rfl (EvP.map EvP.nil) (build_rrec0 _)) fun a hF => ?_)
            refine wpList_stp (stp_storeAll hF (wanted_none rfl) rfl rfl (Tryd.sz75.trans (congrArg some (rfl))) (hF.t rfl) (hF.t rfl) ((by intro u hu; simp at hu; rcases hu with rfl | rfl | rfl <;> rfl)) hS (k := 3) rfl (rfl) fun w hS => ?_)
            refine wpList_stp (stp_gv hF (wanted_none rfl) rfl rfl (gv_assign rfl (ev_const _ _)) fun a hF => ?_)
            refine wpList_stp (stp_gv hF (wanted_none rfl) rfl rfl (gv_assign rfl (ev_const _ _)) fun a hF => ?_)
            refine wpList_nil ?_
            refine then_normal (hKq26 _ _ ?_)
            refine wp_ret ?_
            refine then_ret ?_
            refine retCTT (fn := Tryd.f62) (vs := [sV [], sV [], .bool false]) hF rfl Tryd.underlying75 rfl Tryd.sz75 rfl rfl rfl hS (k := 3) rfl ?_
            refine ⟨?_, hS.toExt (nw_cons rfl (nw_cons rfl (nw_cons rfl (nw_cons rfl nw_nil))))⟩
            rw [halfR, if_neg (by rw [← hn]; omega), if_neg (by rw [recR, ← hn, ← hG, ← hdl, hpar, ← hRB, ← hFL, ← hWL]; exact fun h => h4 h.2.1)]
            rfl
          ·
            subst hev1
            have H21 := decide_eq_false (not_not_intro h4)
            have H22 := decide_eq_true hw
            refine wp_seq_k fun Kq27 hKq27 => ?_
            have hb4 : SRd w0 [] (.slice (some ⟨b0, o0, none⟩) 4 cb) ((bl.take 4).map vB) := by
              have := hbs.cutHi (hi := 4) (by omega)
              rwa [← List.map_take] at this
            have hb64 : SRd w0 [] (.slice (some ⟨b0, o0, none⟩) 64 cb) ((bl.take 64).map vB) := by
              have := hbs.cutHi (hi := 64) (by omega)
              rwa [← List.map_take] at this
            have hw64 : SRd w0 [⟨true, some wt, blk 5 (WL.map vB ++ wp)⟩, ⟨true, some rc, rrO a1 c1 p1⟩, ⟨true, some c2, curO (.slice A2 dl.length cc2) i2 bad2⟩, ⟨true, some out, rrO [] [] false⟩] (.slice (some ⟨wt, 0, none⟩) 64 (WL.length + wp.length)) ((WL.take 64).map vB) := by
              have := (own_rd (w0 := w0) (T := [⟨true, some wt, blk 5 (WL.map vB ++ wp)⟩, ⟨true, some rc, rrO a1 c1 p1⟩, ⟨true, some c2, curO (.slice A2 dl.length cc2) i2 bad2⟩, ⟨true, some out, rrO [] [] false⟩]) (ob := some wt) (l := WL) List.mem_cons_self (fun h => by cases h) rfl wc).cutHi (hi := 64) (by omega)
              rwa [← List.map_take] at this
            -- region 21 (ref.go:66)
            refine Fw.wp_region_draw (by kernel_rfl) fun w hx => ?_
            replace hS := hS.ext hx
            clear hx
            refine run_swalk _ 0 25 [1, 20] [[18, 9, 3, 1]] _ (by kernel_rfl) (by kernel_rfl) rfl hF.size ?_
            have hO := hS
            clear hS
            have hS := St.refl w
            refine sw_gv hF rfl (wanted_none rfl) rfl rfl (fun w hx => gv_move rfl (hF.t rfl)) fun a hF => ?_
            refine sw_eff rfl (stp_call hF (wanted_none rfl) rfl rfl Tryd.ok82 rfl (Evs.cons (hF.t rfl) Evs.nil) (cend_cells (hO.cell (k := 2) (i := 0) rfl rfl) (hO.cell (k := 2) (i := 1) rfl rfl) (hO.cell (k := 2) (i := 2) rfl rfl) hev) fun e w h => ?_)
            obtain ⟨rfl, hx⟩ := h
            refine ⟨_, rfl, fun a hF => ?_⟩
            replace hS := hS.ext hx
            clear hx
            refine ⟨hS.toExt nw_nil, ?_⟩
            refine sw_gv hF rfl (wanted_none rfl) rfl rfl (fun w hx => gv_not rfl (hF.t rfl)) fun a hF => ?_
            refine sw_gv hF rfl (wanted_none rfl) rfl rfl (fun w hx => gv_move rfl (hF.t rfl)) fun a hF => ?_
            refine sw_gv hF rfl (wanted_of hF rfl rfl (rfl)) rfl rfl (fun w hx => gv_move rfl (hF.t rfl)) fun a hF => ?_
            refine sw_gv hF rfl (wanted_of hF rfl rfl (rfl)) rfl rfl (fun w hx => gv_sliceHi (hi := 4) rfl Tryd.underlying22 Tryd.sz5 (hF.t rfl) rfl (by omega)) fun a hF => ?_
            refine sw_gv hF rfl (wanted_of hF rfl rfl (rfl)) rfl rfl (fun w hx => gv_convStr rfl Tryd.underlying22 Tryd.underlying5 Tryd.underlying9 (hF.t rfl) (hb4 w _ (hO.ext hx) (nw_cons rfl (nw_cons rfl (nw_cons rfl (nw_cons rfl nw_nil)))) nil_in)) fun a hF => ?_
            refine sw_gv hF rfl (wanted_of hF rfl rfl (rfl)) rfl rfl (fun w hx => gv_strNeq (l' := mun) rfl (hF.t rfl) (ev_const _ _)) fun a hF => ?_
            rw [H21] at hF
            refine sw_gv hF rfl (wanted_none rfl) rfl rfl (fun w hx => gv_pickF rfl (hF.t rfl) (hF.t rfl)) fun a hF => ?_
            refine sw_gv hF rfl (wanted_none rfl) rfl rfl (fun w hx => gv_move rfl (hF.t rfl)) fun a hF => ?_
            refine sw_gv hF rfl (wanted_of hF rfl rfl (rfl)) rfl rfl (fun w hx => gv_move rfl (hF.t rfl)) fun a hF => ?_
            refine sw_gv hF rfl (wanted_of hF rfl rfl (rfl)) rfl rfl (fun w hx => gv_sliceHi (hi := 64) rfl Tryd.underlying22 Tryd.sz5 (hF.t rfl) rfl (by omega)) fun a hF => ?_
            refine sw_gv hF rfl (wanted_of hF rfl rfl (rfl)) rfl rfl (fun w hx => gv_convStr rfl Tryd.underlying22 Tryd.underlying5 Tryd.underlying9 (hF.t rfl) (hw64 w _ (hO.ext hx) (nw_cons rfl (nw_cons rfl (nw_cons rfl (nw_cons rfl nw_nil)))) (fun e he => he))) fun a hF => ?_
            refine sw_gv hF rfl (wanted_of hF rfl rfl (rfl)) rfl rfl (fun w hx => gv_move rfl (hF.t rfl)) fun a hF => ?_
            refine sw_gv hF rfl (wanted_of hF rfl rfl (rfl)) rfl rfl (fun w hx => gv_sliceHi (hi := 64) rfl Tryd.underlying22 Tryd.sz5 (hF.t rfl) rfl (by omega)) fun a hF => ?_
            refine sw_gv hF rfl (wanted_of hF rfl rfl (rfl)) rfl rfl (fun w hx => gv_convStr rfl Tryd.underlying22 Tryd.underlying5 Tryd.underlying9 (hF.t rfl) (hb64 w _ (hO.ext hx) (nw_cons rfl (nw_cons rfl (nw_cons rfl (nw_cons rfl nw_nil)))) nil_in)) fun a hF => ?_
            refine sw_gv hF rfl (wanted_of hF rfl rfl (rfl)) rfl rfl (fun w hx => gv_strNeq rfl (hF.t rfl) (hF.t rfl)) fun a hF => ?_
            rw [H22] at hF
            refine sw_gv hF rfl (wanted_none rfl) rfl rfl (fun w hx => gv_pickF rfl (hF.t rfl) (hF.t rfl)) fun a hF => ?_
            refine sw_gv hF rfl (wanted_none rfl) rfl rfl (fun w hx => gv_move rfl (hF.t rfl)) fun a hF => ?_
            refine sw_skip hF rfl (unwanted_of hF rfl rfl (rfl) rfl) rfl rfl fun a hF => ?_
            refine sw_eff rfl (stp_skip hF (unwanted_of hF rfl rfl (rfl) rfl) rfl rfl fun a hF => ?_)
            refine ⟨hS.toExt nw_nil, ?_⟩
            refine sw_skip hF rfl (unwanted_of hF rfl rfl (rfl) rfl) rfl rfl fun a hF => ?_
            refine sw_skip hF rfl (unwanted_of hF rfl rfl (rfl) rfl) rfl rfl fun a hF => ?_
            refine sw_skip hF rfl (unwanted_of hF rfl rfl (rfl) rfl) rfl rfl fun a hF => ?_
            refine sw_gv hF rfl (wanted_none rfl) rfl rfl (fun w hx => gv_pickT rfl (hF.t rfl) (ev_const _ _)) fun a hF => ?_
            refine sw_nil ?_
            replace hS := hO.join hS nw_nil
            simp only [List.cons_append, List.nil_append] at hS
            clear hO
            refine run_done (by decide) ?_
            refine then_normal (hKq27 _ _ ?_)
            refine wp_cond_true (hF.t rfl) ?_
            refine wp_seq_k fun Kq28 hKq28 => ?_
            -- region 22 (ref.go:67)
            refine wp_region_lit ?_
            refine wpList_stp (stp_gv hF (wanted_none rfl) rfl rfl (gv_build rfl (EvP.map EvP.nil) (build_rrec0 _)) fun a hF => ?_)
            refine wpList_stp (stp_storeAll hF (wanted_none rfl) rfl rfl (Tryd.sz75.trans (congrArg some (rfl))) (hF.t rfl) (hF.t rfl) ((by intro u hu; simp at hu; rcases hu with rfl | rfl | rfl <;> rfl)) hS (k := 3) rfl (rfl) fun w hS => ?_)
            refine wpList_stp (stp_gv hF (wanted_none rfl) rfl rfl (gv_assign rfl (ev_const _ _)) fun a hF => ?_)
            refine wpList_stp (stp_gv hF (wanted_none rfl) rfl rfl (gv_assign rfl (ev_const _ _)) fun a hF => ?_)
            refine wpList_nil ?_
            refine then_normal (hKq28 _ _ ?_)
            refine wp_ret ?_
            refine then_ret ?_
            refine retCTT (fn := Tryd.f62) (vs := [sV [], sV [], .bool false]) hF rfl Tryd.underlying75 rfl Tryd.sz75 rfl rfl rfl hS (k := 3) rfl ?_
            refine ⟨?_, hS.toExt (nw_cons rfl (nw_cons rfl (nw_cons rfl (nw_cons rfl nw_nil))))⟩
            rw [halfR, if_neg (by rw [← hn]; omega), if_neg (by rw [recR, ← hn, ← hG, ← hdl, hpar, ← hRB, ← hFL, ← hWL]; exact fun h => hw h.2.2.1)]
            rfl
          ·
            subst hev1
            have H21 := decide_eq_false (not_not_intro h4)
            have H22 := decide_eq_false (not_not_intro hw)
            refine wp_seq_k fun Kq29 hKq29 => ?_
            have hb4 : SRd w0 [] (.slice (some ⟨b0, o0, none⟩) 4 cb) ((bl.take 4).map vB) := by
              have := hbs.cutHi (hi := 4) (by omega)
              rwa [← List.map_take] at this
            have hb64 : SRd w0 [] (.slice (some ⟨b0, o0, none⟩) 64 cb) ((bl.take 64).map vB) := by
              have := hbs.cutHi (hi := 64) (by omega)
              rwa [← List.map_take] at this
            have hw64 : SRd w0 [⟨true, some wt, blk 5 (WL.map vB ++ wp)⟩, ⟨true, some rc, rrO a1 c1 p1⟩, ⟨true, some c2, curO (.slice A2 dl.length cc2) i2 bad2⟩, ⟨true, some out, rrO [] [] false⟩] (.slice (some ⟨wt, 0, none⟩) 64 (WL.length + wp.length)) ((WL.take 64).map vB) := by
              have := (own_rd (w0 := w0) (T := [⟨true, some wt, blk 5 (WL.map vB ++ wp)⟩, ⟨true, some rc, rrO a1 c1 p1⟩, ⟨true, some c2, curO (.slice A2 dl.length cc2) i2 bad2⟩, ⟨true, some out, rrO [] [] false⟩]) (ob := some wt) (l := WL) List.mem_cons_self (fun h => by cases h) rfl wc).cutHi (hi := 64) (by omega)
              rwa [← List.map_take] at this
            -- region 21 (ref.go:66)
            refine Fw.wp_region_draw (by kernel_rfl) fun w hx => ?_
            replace hS := hS.ext hx
            clear hx
            refine run_swalk _ 0 25 [1, 20] [[18, 9, 3, 1]] _ (by kernel_rfl) (by kernel_rfl) rfl hF.size ?_
            have hO := hS
            clear hS
            have hS := St.refl w
            refine sw_gv hF rfl (wanted_none rfl) rfl rfl (fun w hx => gv_move rfl (hF.t rfl)) fun a hF => ?_
            refine sw_eff rfl (stp_call hF (wanted_none rfl) rfl rfl Tryd.ok82 rfl (Evs.cons (hF.t rfl) Evs.nil) (cend_cells (hO.cell (k := 2) (i := 0) rfl rfl) (hO.cell (k := 2) (i := 1) rfl rfl) (hO.cell (k := 2) (i := 2) rfl rfl) hev) fun e w h => ?_)
            obtain ⟨rfl, hx⟩ := h
            refine ⟨_, rfl, fun a hF => ?_⟩
            replace hS := hS.ext hx
            clear hx
            refine ⟨hS.toExt nw_nil, ?_⟩
            refine sw_gv hF rfl (wanted_none rfl) rfl rfl (fun w hx => gv_not rfl (hF.t rfl)) fun a hF => ?_
            refine sw_gv hF rfl (wanted_none rfl) rfl rfl (fun w hx => gv_move rfl (hF.t rfl)) fun a hF => ?_
            refine sw_gv hF rfl (wanted_of hF rfl rfl (rfl)) rfl rfl (fun w hx => gv_move rfl (hF.t rfl)) fun a hF => ?_
            refine sw_gv hF rfl (wanted_of hF rfl rfl (rfl)) rfl rfl (fun w hx => gv_sliceHi (hi := 4) rfl Tryd.underlying22 Tryd.sz5 (hF.t rfl) rfl (by omega)) fun a hF => ?_
            refine sw_gv hF rfl (wanted_of hF rfl rfl (rfl)) rfl rfl (fun w hx => gv_convStr rfl Tryd.underlying22 Tryd.underlying5 Tryd.underlying9 (hF.t rfl) (hb4 w _ (hO.ext hx) (nw_cons rfl (nw_cons rfl (nw_cons rfl (nw_cons rfl nw_nil)))) nil_in)) fun a hF => ?_
            refine sw_gv hF rfl (wanted_of hF rfl rfl (rfl)) rfl rfl (fun w hx => gv_strNeq (l' := mun) rfl (hF.t rfl) (ev_const _ _)) fun a hF => ?_
            rw [H21] at hF
            refine sw_gv hF rfl (wanted_none rfl) rfl rfl (fun w hx => gv_pickF rfl (hF.t rfl) (hF.t rfl)) fun a hF => ?_
            refine sw_gv hF rfl (wanted_none rfl) rfl rfl (fun w hx => gv_move rfl (hF.t rfl)) fun a hF => ?_
            refine sw_gv hF rfl (wanted_of hF rfl rfl (rfl)) rfl rfl (fun w hx => gv_move rfl (hF.t rfl)) fun a hF => ?_
            refine sw_gv hF rfl (wanted_of hF rfl rfl (rfl)) rfl rfl (fun w hx => gv_sliceHi (hi := 64) rfl Tryd.underlying22 Tryd.sz5 (hF.t rfl) rfl (by omega)) fun a hF => ?_
            refine sw_gv hF rfl (wanted_of hF rfl rfl (rfl)) rfl rfl (fun w hx => gv_convStr rfl Tryd.underlying22 Tryd.underlying5 Tryd.underlying9 (hF.t rfl) (hw64 w _ (hO.ext hx) (nw_cons rfl (nw_cons rfl (nw_cons rfl (nw_cons rfl nw_nil)))) (fun e he => he))) fun a hF => ?_
            refine sw_gv hF rfl (wanted_of hF rfl rfl (rfl)) rfl rfl (fun w hx => gv_move rfl (hF.t rfl)) fun a hF => ?_
            refine sw_gv hF rfl (wanted_of hF rfl rfl (rfl)) rfl rfl (fun w hx => gv_sliceHi (hi := 64) rfl Tryd.underlying22 Tryd.sz5 (hF.t rfl) rfl (by omega)) fun a hF => ?_
            refine sw_gv hF rfl (wanted_of hF rfl rfl (rfl)) rfl rfl (fun w hx => gv_convStr rfl Tryd.underlying22 Tryd.underlying5 Tryd.underlying9 (hF.t rfl) (hb64 w _ (hO.ext hx) (nw_cons rfl (nw_cons rfl (nw_cons rfl (nw_cons rfl nw_nil)))) nil_in)) fun a hF => ?_
            refine sw_gv hF rfl (wanted_of hF rfl rfl (rfl)) rfl rfl (fun w hx => gv_strNeq rfl (hF.t rfl) (hF.t rfl)) fun a hF => ?_
            rw [H22] at hF
            refine sw_gv hF rfl (wanted_none rfl) rfl rfl (fun w hx => gv_pickF rfl (hF.t rfl) (hF.t rfl)) fun a hF => ?_
            refine sw_gv hF rfl (wanted_none rfl) rfl rfl (fun w hx => gv_move rfl (hF.t rfl)) fun a hF => ?_
            refine sw_gv hF rfl (wanted_of hF rfl rfl (rfl)) rfl rfl (fun w hx => gv_loadAll rfl Tryd.underlying75 rfl (Tryd.sz75.trans (congrArg some (rfl))) (hF.t rfl) (hO.ext hx) (k := 1) rfl) fun a hF => ?_
            refine sw_eff rfl (stp_call hF (wanted_of hF rfl rfl (by rfl)) rfl rfl Tryd.ok63 rfl (Evs.cons (hF.t rfl) Evs.nil) (rbytes_ok (al := a1) (cl := c1) (p := p1) (by omega) (by omega)) fun e w h => ?_)
            obtain ⟨y, yp, rfl, yc, hN⟩ := h
            refine ⟨_, rfl, fun a hF => ?_⟩
            replace hS := hS.join hN (nw_cons rfl nw_nil)
            simp only [List.cons_append, List.nil_append] at hS
            clear hN
            rw [← hRB] at hF yc hS
            refine ⟨hS.toExt (nw_cons rfl nw_nil), ?_⟩
            refine sw_gv hF rfl (wanted_of hF rfl rfl (rfl)) rfl rfl (fun w hx => gv_len rfl Tryd.underlying22 (hF.t rfl)) fun a hF => ?_
            refine sw_gv hF rfl (wanted_of hF rfl rfl (rfl)) rfl rfl (fun w hx => gv_move rfl (hF.t rfl)) fun a hF => ?_
            refine sw_gv hF rfl (wanted_of hF rfl rfl (rfl)) rfl rfl (fun w hx => gv_neqT rfl (hF.t rfl) (hF.t rfl) (by omega)) fun a hF => ?_
            refine sw_gv hF rfl (wanted_none rfl) rfl rfl (fun w hx => gv_pickF rfl (hF.t rfl) (hF.t rfl)) fun a hF => ?_
            refine sw_nil ?_
            replace hS := hO.join hS (nw_cons rfl nw_nil)
            simp only [List.cons_append, List.nil_append] at hS
            clear hO
            refine run_done (by decide) ?_
            refine then_normal (hKq29 _ _ ?_)
            refine wp_cond_true (hF.t rfl) ?_
            refine wp_seq_k fun Kq30 hKq30 => ?_
            -- region 22 (ref.go:67)
            refine wp_region_lit ?_
            refine wpList_stp (stp_gv hF (wanted_none rfl) rfl rfl (gv_build rfl (EvP.map EvP.nil) (build_rrec0 _)) fun a hF => ?_)
            refine wpList_stp (stp_storeAll hF (wanted_none rfl) rfl rfl (Tryd.sz75.trans (congrArg some (rfl))) (hF.t rfl) (hF.t rfl) ((by intro u hu; simp at hu; rcases hu with rfl | rfl | rfl <;> rfl)) hS (k := 4) rfl (rfl) fun w hS => ?_)
            refine wpList_stp (stp_gv hF (wanted_none rfl) rfl rfl (gv_assign rfl (ev_const _ _)) fun a hF => ?_)
            refine wpList_stp (stp_gv hF (wanted_none rfl) rfl rfl (gv_assign rfl (ev_const _ _)) fun a hF => ?_)
            refine wpList_nil ?_
            refine then_normal (hKq30 _ _ ?_)
            refine wp_ret ?_
            refine then_ret ?_
            refine retCTT (fn := Tryd.f62) (vs := [sV [], sV [], .bool false]) hF rfl Tryd.underlying75 rfl Tryd.sz75 rfl rfl rfl hS (k := 4) rfl ?_
            refine ⟨?_, hS.toExt (nw_cons rfl (nw_cons rfl (nw_cons rfl (nw_cons rfl (nw_cons rfl nw_nil)))))⟩
            rw [halfR, if_neg (by rw [← hn]; omega), if_neg (by rw [recR, ← hn, ← hG, ← hdl, hpar, ← hRB, ← hFL, ← hWL]; exact fun h => hle h.2.2.2)]
            rfl
          ·
            subst hev1
            have H21 := decide_eq_false (not_not_intro h4)
            have H22 := decide_eq_false (not_not_intro hw)
            refine wp_seq_k fun Kq31 hKq31 => ?_
            have hb4 : SRd w0 [] (.slice (some ⟨b0, o0, none⟩) 4 cb) ((bl.take 4).map vB) := by
              have := hbs.cutHi (hi := 4) (by omega)
              rwa [← List.map_take] at this
            have hb64 : SRd w0 [] (.slice (some ⟨b0, o0, none⟩) 64 cb) ((bl.take 64).map vB) := by
              have := hbs.cutHi (hi := 64) (by omega)
              rwa [← List.map_take] at this
            have hw64 : SRd w0 [⟨true, some wt, blk 5 (WL.map vB ++ wp)⟩, ⟨true, some rc, rrO a1 c1 p1⟩, ⟨true, some c2, curO (.slice A2 dl.length cc2) i2 bad2⟩, ⟨true, some out, rrO [] [] false⟩] (.slice (some ⟨wt, 0, none⟩) 64 (WL.length + wp.length)) ((WL.take 64).map vB) := by
              have := (own_rd (w0 := w0) (T := [⟨true, some wt, blk 5 (WL.map vB ++ wp)⟩, ⟨true, some rc, rrO a1 c1 p1⟩, ⟨true, some c2, curO (.slice A2 dl.length cc2) i2 bad2⟩, ⟨true, some out, rrO [] [] false⟩]) (ob := some wt) (l := WL) List.mem_cons_self (fun h => by cases h) rfl wc).cutHi (hi := 64) (by omega)
              rwa [← List.map_take] at this
            -- region 21 (ref.go:66)
            refine Fw.wp_region_draw (by kernel_rfl) fun w hx => ?_
            replace hS := hS.ext hx
            clear hx
            refine run_swalk _ 0 25 [1, 20] [[18, 9, 3, 1]] _ (by kernel_rfl) (by kernel_rfl) rfl hF.size ?_
            have hO := hS
            clear hS
            have hS := St.refl w
            refine sw_gv hF rfl (wanted_none rfl) rfl rfl (fun w hx => gv_move rfl (hF.t rfl)) fun a hF => ?_
            refine sw_eff rfl (stp_call hF (wanted_none rfl) rfl rfl Tryd.ok82 rfl (Evs.cons (hF.t rfl) Evs.nil) (cend_cells (hO.cell (k := 2) (i := 0) rfl rfl) (hO.cell (k := 2) (i := 1) rfl rfl) (hO.cell (k := 2) (i := 2) rfl rfl) hev) fun e w h => ?_)
            obtain ⟨rfl, hx⟩ := h
            refine ⟨_, rfl, fun a hF => ?_⟩
            replace hS := hS.ext hx
            clear hx
            refine ⟨hS.toExt nw_nil, ?_⟩
            refine sw_gv hF rfl (wanted_none rfl) rfl rfl (fun w hx => gv_not rfl (hF.t rfl)) fun a hF => ?_
            refine sw_gv hF rfl (wanted_none rfl) rfl rfl (fun w hx => gv_move rfl (hF.t rfl)) fun a hF => ?_
            refine sw_gv hF rfl (wanted_of hF rfl rfl (rfl)) rfl rfl (fun w hx => gv_move rfl (hF.t rfl)) fun a hF => ?_
            refine sw_gv hF rfl (wanted_of hF rfl rfl (rfl)) rfl rfl (fun w hx => gv_sliceHi (hi := 4) rfl Tryd.underlying22 Tryd.sz5 (hF.t rfl) rfl (by omega)) fun a hF => ?_
            refine sw_gv hF rfl (wanted_of hF rfl rfl (rfl)) rfl rfl (fun w hx => gv_convStr rfl Tryd.underlying22 Tryd.underlying5 Tryd.underlying9 (hF.t rfl) (hb4 w _ (hO.ext hx) (nw_cons rfl (nw_cons rfl (nw_cons rfl (nw_cons rfl nw_nil)))) nil_in)) fun a hF => ?_
            refine sw_gv hF rfl (wanted_of hF rfl rfl (rfl)) rfl rfl (fun w hx => gv_strNeq (l' := mun) rfl (hF.t rfl) (ev_const _ _)) fun a hF => ?_
            rw [H21] at hF
            refine sw_gv hF rfl (wanted_none rfl) rfl rfl (fun w hx => gv_pickF rfl (hF.t rfl) (hF.t rfl)) fun a hF => ?_
            refine sw_gv hF rfl (wanted_none rfl) rfl rfl (fun w hx => gv_move rfl (hF.t rfl)) fun a hF => ?_
            refine sw_gv hF rfl (wanted_of hF rfl rfl (rfl)) rfl rfl (fun w hx => gv_move rfl (hF.t rfl)) fun a hF => ?_
            refine sw_gv hF rfl (wanted_of hF rfl rfl (rfl)) rfl rfl (fun w hx => gv_sliceHi (hi := 64) rfl Tryd.underlying22 Tryd.sz5 (hF.t rfl) rfl (by omega)) fun a hF => ?_
            refine sw_gv hF rfl (wanted_of hF rfl rfl (rfl)) rfl rfl (fun w hx => gv_convStr rfl Tryd.underlying22 Tryd.underlying5 Tryd.underlying9 (hF.t rfl) (hw64 w _ (hO.ext hx) (nw_cons rfl (nw_cons rfl (nw_cons rfl (nw_cons rfl nw_nil)))) (fun e he => he))) fun a hF => ?_
            refine sw_gv hF rfl (wanted_of hF rfl rfl (rfl)) rfl rfl (fun w hx => gv_move rfl (hF.t rfl)) fun a hF => ?_
            refine sw_gv hF rfl (wanted_of hF rfl rfl (rfl)) rfl rfl (fun w hx => gv_sliceHi (hi := 64) rfl Tryd.underlying22 Tryd.sz5 (hF.t rfl) rfl (by omega)) fun a hF => ?_
            refine sw_gv hF rfl (wanted_of hF rfl rfl (rfl)) rfl rfl (fun w hx => gv_convStr rfl Tryd.underlying22 Tryd.underlying5 Tryd.underlying9 (hF.t rfl) (hb64 w _ (hO.ext hx) (nw_cons rfl (nw_cons rfl (nw_cons rfl (nw_cons rfl nw_nil)))) nil_in)) fun a hF => ?_
            refine sw_gv hF rfl (wanted_of hF rfl rfl (rfl)) rfl rfl (fun w hx => gv_strNeq rfl (hF.t rfl) (hF.t rfl)) fun a hF => ?_
            rw [H22] at hF
            refine sw_gv hF rfl (wanted_none rfl) rfl rfl (fun w hx => gv_pickF rfl (hF.t rfl) (hF.t rfl)) fun a hF => ?_
            refine sw_gv hF rfl (wanted_none rfl) rfl rfl (fun w hx => gv_move rfl (hF.t rfl)) fun a hF => ?_
            refine sw_gv hF rfl (wanted_of hF rfl rfl (rfl)) rfl rfl (fun w hx => gv_loadAll rfl Tryd.underlying75 rfl (Tryd.sz75.trans (congrArg some (rfl))) (hF.t rfl) (hO.ext hx) (k := 1) rfl) fun a hF => ?_
            refine sw_eff rfl (stp_call hF (wanted_of hF rfl rfl (by rfl)) rfl rfl Tryd.ok63 rfl (Evs.cons (hF.t rfl) Evs.nil) (rbytes_ok (al := a1) (cl := c1) (p := p1) (by omega) (by omega)) fun e w h => ?_)
            obtain ⟨y, yp, rfl, yc, hN⟩ := h
            refine ⟨_, rfl, fun a hF => ?_⟩
            replace hS := hS.join hN (nw_cons rfl nw_nil)
            simp only [List.cons_append, List.nil_append] at hS
            clear hN
            rw [← hRB] at hF yc hS
            refine ⟨hS.toExt (nw_cons rfl nw_nil), ?_⟩
            refine sw_gv hF rfl (wanted_of hF rfl rfl (rfl)) rfl rfl (fun w hx => gv_len rfl Tryd.underlying22 (hF.t rfl)) fun a hF => ?_
            refine sw_gv hF rfl (wanted_of hF rfl rfl (rfl)) rfl rfl (fun w hx => gv_move rfl (hF.t rfl)) fun a hF => ?_
            refine sw_gv hF rfl (wanted_of hF rfl rfl (rfl)) rfl rfl (fun w hx => gv_neqF rfl (hF.t rfl) (hF.t rfl) (by omega)) fun a hF => ?_
            refine sw_gv hF rfl (wanted_none rfl) rfl rfl (fun w hx => gv_pickF rfl (hF.t rfl) (hF.t rfl)) fun a hF => ?_
            refine sw_nil ?_
            replace hS := hO.join hS (nw_cons rfl nw_nil)
            simp only [List.cons_append, List.nil_append] at hS
            clear hO
            refine run_done (by decide) ?_
            refine then_normal (hKq31 _ _ ?_)
            refine wp_cond_false (hF.t rfl) ?_
            refine wp_skip ?_
            refine then_normal (hKq22 _ _ ?_)
            refine wp_seq_k fun Kq32 hKq32 => ?_
            -- region 23 (ref.go:69)
            refine wp_region_lit ?_
            refine wpList_stp (stp_gv hF (wanted_none rfl) rfl rfl (gv_loadAll rfl Tryd.underlying75 rfl (Tryd.sz75.trans (congrArg some (rfl))) (hF.t rfl) hS (k := 2) rfl) fun a hF => ?_)
            refine wpList_stp (stp_gv hF (wanted_none rfl) rfl rfl (gv_move rfl (hF.t rfl)) fun a hF => ?_)
            refine wpList_stp (stp_storeAll hF (wanted_none rfl) rfl rfl (Tryd.sz75.trans (congrArg some (rfl))) (hF.t rfl) (hF.t rfl) ((by intro u hu; simp at hu; rcases hu with rfl | rfl | rfl <;> rfl)) hS (k := 4) rfl (rfl) fun w hS => ?_)
            refine wpList_stp (stp_gv hF (wanted_none rfl) rfl rfl (gv_assign rfl (hF.t rfl)) fun a hF => ?_)
            refine wpList_stp (stp_gv hF (wanted_none rfl) rfl rfl (gv_assign rfl (ev_const _ _)) fun a hF => ?_)
            refine wpList_nil ?_
            refine then_normal (hKq32 _ _ ?_)
            refine wp_ret ?_
            refine retCTT (fn := Tryd.f62) (vs := [sV a1, sV c1, .bool p1]) hF rfl Tryd.underlying75 rfl Tryd.sz75 rfl rfl rfl hS (k := 4) rfl ?_
            refine ⟨?_, hS.toExt (nw_cons rfl (nw_cons rfl (nw_cons rfl (nw_cons rfl (nw_cons rfl nw_nil)))))⟩
            rw [halfR, if_neg (by rw [← hn]; omega), if_pos (by rw [recR, ← hn, ← hG, ← hdl, hpar, ← hRB, ← hFL, ← hWL]; exact ⟨rfl, h4, hw, hle⟩), ← hG, ← hdl, hpar]
            rfl


end Go.Proofs.YtfhalnobaeogkaaDoor
