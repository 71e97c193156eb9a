/- What is proved: the contract of vault.Save. -/
import Derived.Test.YtfhalnobaeogkaaDoorProg
import Derived.Test.YtfhalnobaeogkaaDoorFwSep
import Derived.KernelRfl
import Derived.Test.YtfhalnobaeogkaaDoorFwSto
import Derived.Test.YtfhalnobaeogkaaDoorFwVlt
import Derived.Test.YtfhalnobaeogkaaDoorFwApp
import Derived.Test.YtfhalnobaeogkaaDoorFwWord
import Derived.Test.YtfhalnobaeogkaaDoorFwPkt
import Derived.Test.YtfhalnobaeogkaaDoorFwTok
import Derived.Test.YtfhalnobaeogkaaDoorDig
import Derived.Test.YtfhalnobaeogkaaDoorSum
import Derived.Test.YtfhalnobaeogkaaDoorWire
import Derived.Test.YtfhalnobaeogkaaDoorPktW
import Derived.Test.YtfhalnobaeogkaaDoorPktR
import Derived.Test.YtfhalnobaeogkaaDoorWireA
import Derived.Test.YtfhalnobaeogkaaDoorDisk
import Derived.Test.YtfhalnobaeogkaaDoorHead
import Derived.Test.YtfhalnobaeogkaaDoorHalf
import Derived.Test.YtfhalnobaeogkaaDoorOpen
set_option linter.unusedVariables false
set_option linter.unusedSimpArgs false
namespace Go.Proofs.YtfhalnobaeogkaaDoor
open Go Go.RowKit Go.Fw

theorem Tryd.ok60 : CallOk Tryd.prog 60 := ⟨_, Tryd.func60, by kernel_rfl, by kernel_rfl⟩


def chunkF (b : List UInt8) (j : Nat) : List UInt8 := (b.drop (64 * j)).take 64 ++ (List.replicate 64 (0 : UInt8)).drop (min (b.drop (64 * j)).length 64)
theorem chunkF_len (b : List UInt8) (j : Nat) : (chunkF b j).length = 64 := by
  simp only [chunkF, List.length_append, List.length_take, List.length_drop, List.length_replicate]; omega
/-- So many blocks are written, till one can't be. -/
def saveL (n base : Nat) (b : List UInt8) : Nat → Nat → Dk → Nat × Dk
  | 0, _, D => (0, D)
  | f + 1, j, D => if (wrF D n ((base + j : Nat) : Int) (chunkF b j)).1 = 0 then saveL n base b f (j + 1) (wrF D n ((base + j : Nat) : Int) (chunkF b j)).2 else wrF D n ((base + j : Nat) : Int) (chunkF b j)
/-- A vault's generation and half. -/
structure Vt where
  g : UInt64
  k : Nat
def cntF (b : List UInt8) : Nat := (b.length + 63) / 64
def savB (V : Vt) (D : Dk) (n : Nat) (b : List UInt8) : Nat × Vt × Dk :=
  let s := saveL n ((1 - V.k) * (n / 2) + 1) b (cntF b) 0 D
  if s.1 = 0 then
    let t := wrF s.2 n (((1 - V.k) * (n / 2) : Nat) : Int) (headF (V.g + 1) b)
    if t.1 = 0 then (0, ⟨V.g + 1, 1 - V.k⟩, t.2) else (t.1, V, t.2)
  else (s.1, V, s.2)
def saveF (V : Vt) (D : Dk) (n : Nat) (r : Rc) : Nat × Vt × Dk :=
  if ((n / 2 - 1) * 64 < (recB r.a r.c r.p).length ∨ 16384 < r.a.length) ∨ 16384 < r.c.length then (22, V, D) else savB V D n (recB r.a r.c r.p)
theorem wrF_le (D : Dk) (n : Nat) (i : Int) (x : List UInt8) : (wrF D n i x).1 ≤ 20 := by
  unfold wrF; split
  · exact (by decide : 1 ≤ 20)
  · split
    · exact Nat.le_refl 20
    · split
      · exact Nat.le_refl 20
      · exact Nat.zero_le _
theorem saveL_ok {n base : Nat} {b : List UInt8} : ∀ f j (D : Dk), DkOk n D → DkOk n (saveL n base b f j D).2
  | 0, _, D, h => h
  | f + 1, j, D, h => by
    rw [saveL]
    split
    · exact saveL_ok f (j + 1) _ (wrF_ok h (chunkF_len b j))
    · exact wrF_ok h (chunkF_len b j)
theorem savB_ok {V : Vt} {D : Dk} {n : Nat} {b : List UInt8} (h : DkOk n D) (hk : V.k ≤ 1) : DkOk n (savB V D n b).2.2 ∧ (savB V D n b).2.1.k ≤ 1 := by
  have h1 := saveL_ok (base := (1 - V.k) * (n / 2) + 1) (b := b) (cntF b) 0 D h
  unfold savB
  simp only
  split
  · split
    · exact ⟨wrF_ok h1 (headF_len _ _), by show 1 - V.k ≤ 1; omega⟩
    · exact ⟨wrF_ok h1 (headF_len _ _), hk⟩
  · exact ⟨h1, hk⟩
theorem saveF_ok {V : Vt} {D : Dk} {n : Nat} {r : Rc} (h : DkOk n D) (hk : V.k ≤ 1) : DkOk n (saveF V D n r).2.2 ∧ (saveF V D n r).2.1.k ≤ 1 := by
  unfold saveF
  split
  · exact ⟨h, hk⟩
  · exact savB_ok h hk


theorem save_nil {al cl : List UInt8} {pp : Bool} {w0 : World} :
    Calls Tryd.prog 30 #[.pointer none, recV al cl pp] w0 fun e w' => e = .returned (.int .i64 1) ∧ Ext w0 w' := by
  refine calls_start 104 Tryd.func30 rfl Tryd.ntmps30 rfl fun a hF => ?_
  have hS := St.refl w0
  refine wp_seq_k fun Kq1 hKq1 => ?_
  -- region 0 (vault.go:155)
  refine wp_region_lit ?_
  refine wpList_stp (stp_box (cs := [sV al, sV cl, .bool pp]) hF (wanted_none rfl) rfl rfl rfl (hF.t rfl) rfl hS fun rb a w hF hS => ?_)
  refine wpList_stp (stp_gv hF (wanted_none rfl) rfl rfl (gv_assign rfl (ev_const _ _)) fun a hF => ?_)
  refine wpList_nil ?_
  refine then_normal (hKq1 _ _ ?_)
  refine wp_seq_k fun Kq2 hKq2 => ?_
  refine wp_seq_k fun Kq3 hKq3 => ?_
  -- region 1 (vault.go:156)
  refine wp_region_lit ?_
  refine wpList_stp (stp_gv hF (wanted_none rfl) rfl rfl (gv_move rfl (hF.t rfl)) fun a hF => ?_)
  refine wpList_stp (stp_gv hF (wanted_none rfl) rfl rfl (gv_eqlNil rfl Tryd.underlying68 (hF.t rfl) (ev_const _ _)) fun a hF => ?_)
  refine wpList_nil ?_
  refine then_normal (hKq3 _ _ ?_)
  refine wp_cond_true (hF.t rfl) ?_
  refine wp_seq_k fun Kq4 hKq4 => ?_
  -- region 2 (vault.go:157)
  refine wp_region_lit ?_
  refine wpList_stp (stp_gv hF (wanted_none rfl) rfl rfl (gv_assign rfl (ev_const _ _)) fun a hF => ?_)
  refine wpList_nil ?_
  refine then_normal (hKq4 _ _ ?_)
  refine wp_ret ?_
  refine then_ret ?_
  refine ret1 (fn := Tryd.f30) (t := 4) hF rfl rfl ?_
  exact ⟨rfl, hS.toExt (nw_cons rfl nw_nil)⟩

set_option maxHeartbeats 1000000 in
theorem save_ok {w00 w : World} {T : List Ent} {v d p n c : Nat} {V : Vt} {D : Dk} {pad : List Value} {al cl : List UInt8} {pp : Bool} (hG : Glob w00) (hT : ∀ e ∈ T, e.nw = true) (hS : St w00 w (⟨true, some v, vltO d V.g V.k⟩ :: ⟨true, some d, dskO p n c D⟩ :: ⟨true, some p, datO D pad⟩ :: T)) (hK : DkOk n D) (hk : V.k ≤ 1) (ha : al.length ≤ 137438953472) (hc : cl.length ≤ 137438953472) :
    Calls Tryd.prog 30 #[.pointer (some ⟨v, 0, none⟩), recV al cl pp] w fun e w' => e = .returned (.int .i64 ((saveF V D n ⟨al, cl, pp⟩).1 : Nat)) ∧ St w00 w' (⟨true, some v, vltO d (saveF V D n ⟨al, cl, pp⟩).2.1.g (saveF V D n ⟨al, cl, pp⟩).2.1.k⟩ :: ⟨true, some d, dskO p n c (saveF V D n ⟨al, cl, pp⟩).2.2⟩ :: ⟨true, some p, datO (saveF V D n ⟨al, cl, pp⟩).2.2 pad⟩ :: T) := by
  obtain ⟨m, hm⟩ : ∃ m, m = n / 2 := ⟨_, rfl⟩
  have hn4 := hK.n4
  have hn1 := hK.n1k
  have hm2 : 2 ≤ m := by omega
  have hkm : (1 - V.k) * m + m ≤ n := by
    have : (1 - V.k) * m ≤ 1 * m := Nat.mul_le_mul_right m (by omega)
    omega
  refine calls_start 104 Tryd.func30 rfl Tryd.ntmps30 rfl fun a hF => ?_
  refine wp_seq_k fun Kq1 hKq1 => ?_
  -- region 0 (vault.go:155)
  refine wp_region_lit ?_
  refine wpList_stp (stp_box (cs := [sV al, sV cl, .bool pp]) hF (wanted_none rfl) rfl rfl rfl (hF.t rfl) rfl hS fun rb a w hF hS => ?_)
  refine wpList_stp (stp_gv hF (wanted_none rfl) rfl rfl (gv_assign rfl (ev_const _ _)) fun a hF => ?_)
  refine wpList_nil ?_
  refine then_normal (hKq1 _ _ ?_)
  refine wp_seq_k fun Kq2 hKq2 => ?_
  refine wp_seq_k fun Kq3 hKq3 => ?_
  -- region 1 (vault.go:156)
  refine wp_region_lit ?_
  refine wpList_stp (stp_gv hF (wanted_none rfl) rfl rfl (gv_move rfl (hF.t rfl)) fun a hF => ?_)
  refine wpList_stp (stp_gv hF (wanted_none rfl) rfl rfl (gv_eqlNil rfl Tryd.underlying68 (hF.t rfl) (ev_const _ _)) fun a hF => ?_)
  refine wpList_nil ?_
  refine then_normal (hKq3 _ _ ?_)
  refine wp_cond_false (hF.t rfl) ?_
  refine wp_skip ?_
  refine then_normal (hKq2 _ _ ?_)
  refine wp_seq_k fun Kq4 hKq4 => ?_
  -- region 3 (vault.go:159)
  refine Fw.wp_region_draw (by kernel_rfl) fun w hx => ?_
  replace hS := hS.ext hx
  clear hx
  refine run_headS (n := 16) _ [(1, 15, fun v x => ∃ o op r2, v = ownV o (recB al cl pp).length ((recB al cl pp).length + op.length) ∧ (o = none → (recB al cl pp) = [] ∧ op = []) ∧ ((recB al cl pp)).length + op.length ≤ 9223372036854775807 ∧ St w x [⟨true, o, blk 5 ((recB al cl pp).map vB ++ op)⟩, ⟨true, some r2, recO al cl pp⟩]), (13, 5, fun v x => ∃ o op r2, v = ownV o (recB al cl pp).length ((recB al cl pp).length + op.length) ∧ (o = none → (recB al cl pp) = [] ∧ op = []) ∧ ((recB al cl pp)).length + op.length ≤ 9223372036854775807 ∧ St w x [⟨true, o, blk 5 ((recB al cl pp).map vB ++ op)⟩, ⟨true, some r2, recO al cl pp⟩])] hF (by kernel_rfl) rfl (fa_cons rfl (fa_cons rfl fa_nil)) (fa_cons (fun v w w' ⟨o, op, r2, h1, h2, h3, h4⟩ hx => ⟨o, op, r2, h1, h2, h3, h4.ext hx⟩) (fa_cons (fun v w w' ⟨o, op, r2, h1, h2, h3, h4⟩ hx => ⟨o, op, r2, h1, h2, h3, h4.ext hx⟩) fa_nil)) (fa_cons ⟨Nat.zero_le _, Nat.le_of_ble_eq_true rfl⟩ (fa_cons ⟨Nat.zero_le _, Nat.le_of_ble_eq_true rfl⟩ fa_nil)) rfl ?_
  refine dw_gv hF rfl (wanted_none rfl) rfl rfl (fun w hx => gv_loadAll rfl Tryd.underlying63 rfl (Tryd.sz63.trans (congrArg some (rfl))) (hF.t rfl) (hS.ext hx) (k := 0) rfl) fun a hF => ?_
  refine dw_fl rfl ?_
  refine dw_gv hF rfl (wanted_none rfl) rfl rfl (fun w hx => gv_move rfl (hF.t rfl)) fun a hF => ?_
  refine dw_gv hF rfl (wanted_none rfl) rfl rfl (fun w hx => gv_nilCheck rfl (hF.t rfl)) fun a hF => ?_
  refine dw_gv hF rfl (wanted_none rfl) rfl rfl (fun w hx => gv_field (r := 0) rfl Tryd.underlying115 rfl rfl Tryd.sz113 (by decide) (hF.t rfl)) fun a hF => ?_
  refine dw_gv hF rfl (wanted_none rfl) rfl rfl (fun w hx => gv_load rfl Tryd.underlying113 rfl (hF.t rfl) (cell_ix (j := 0) ((hS.ext hx).cell (k := 1) rfl (rfl)) (by omega))) fun a hF => ?_
  refine dw_callI hF rfl (wanted_none rfl) rfl rfl Tryd.methBlocks rfl (hF.t rfl) Evs.nil (fun w hx => blocks_ok ((hS.ext hx).cell (k := 2) (i := 0) rfl rfl)) fun a hF => ?_
  refine dw_gv hF rfl (wanted_none rfl) rfl rfl (fun w hx => gv_nquo (n := 2) rfl (hF.t rfl) rfl (by omega) (by omega)) fun a hF => ?_
  refine dw_gv hF rfl (wanted_none rfl) rfl rfl (fun w hx => gv_move rfl (hF.t rfl)) fun a hF => ?_
  refine dw_gv hF rfl (wanted_none rfl) rfl rfl (fun w hx => gv_nilCheck rfl (hF.t rfl)) fun a hF => ?_
  refine dw_gv hF rfl (wanted_none rfl) rfl rfl (fun w hx => gv_field (r := 2) rfl Tryd.underlying115 rfl rfl Tryd.sz3 (by decide) (hF.t rfl)) fun a hF => ?_
  refine dw_gv hF rfl (wanted_none rfl) rfl rfl (fun w hx => gv_load rfl Tryd.underlying3 rfl (hF.t rfl) (cell_ix (j := 2) ((hS.ext hx).cell (k := 1) rfl (rfl)) (by omega))) fun a hF => ?_
  refine dw_gv hF rfl (wanted_none rfl) rfl rfl (fun w hx => gv_nsub (m := 1) rfl rfl (hF.t rfl) hk (by omega)) fun a hF => ?_
  refine dw_fl rfl ?_
  refine dw_gv hF rfl (wanted_none rfl) rfl rfl (fun w hx => gv_assign rfl (hF.t rfl)) fun a hF => ?_
  refine dw_gv hF rfl (wanted_none rfl) rfl rfl (fun w hx => gv_assign rfl (hF.t rfl)) fun a hF => ?_
  refine dw_nil ⟨(fa_cons ?_ (fa_cons ?_ fa_nil)), fun a w hx hA hR => ?_⟩
  · intro a w hx hA hdp
    replace hF := hA _ hF
    replace hS := hS.ext hx
    exact ⟨_, rfl, sx_call (wanted_none rfl) Tryd.ok60 rfl (Evs.cons (hF.t rfl) Evs.nil) ((bytes_ok ha hc).mono fun e w' ⟨o, op, he, ho, hc, r2, hS2⟩ => ⟨_, he, ⟨o, op, r2, rfl, ho, hc, ((St.refl _).ext hx).join hS2 (nw_cons rfl (nw_cons rfl nw_nil))⟩, hS2.toExt (nw_cons rfl (nw_cons rfl nw_nil))⟩)⟩
  · intro a w hx hA hdp
    replace hF := hA _ hF
    replace hS := hS.ext hx
    exact ⟨_, rfl, sx_gv (wanted_none rfl) (gv_assign rfl (hF.t rfl)) (hdp _ (List.mem_of_getElem? (i := 0) rfl) (by kernel_rfl))⟩
  replace hF := hA _ hF
  obtain ⟨o, op, r2, hv, ho, oc, hS2⟩ := hR _ (List.mem_of_getElem? (i := 1) rfl)
  replace hS := hS.join hS2 (nw_cons rfl (nw_cons rfl nw_nil))
  simp only [List.cons_append, List.nil_append] at hS
  obtain ⟨B, hB⟩ : ∃ B, B = recB al cl pp := ⟨_, rfl⟩
  rw [← hB] at hv ho oc hS
  have hBl : B.length = al.length + cl.length + 9 := by rw [hB]; exact recB_len _ _ _
  obtain ⟨o, rfl⟩ := own_some ho (by omega)
  replace hF : Fr 104 a [(0, .pointer (some ⟨v, 0, none⟩)), (3, .pointer (some ⟨rb, 0, none⟩)), (5, .slice (some ⟨o, 0, none⟩) B.length (B.length + op.length)), (6, vI m), (7, vI (1 - V.k))] := hF.sub ⟨rfl, rfl, congrArg some hv, by rw [hm]; rfl, rfl, trivial⟩
  clear hA hx hR hS2 hv ho
  refine run_done (by decide) ?_
  refine then_normal (hKq4 _ _ ?_)
  refine wp_seq_k fun Kq5 hKq5 => ?_
  refine wp_seq_k fun Kq6 hKq6 => ?_
  -- region 4 (vault.go:160)
  refine wp_region_lit ?_
  refine wpList_stp (stp_gv hF (wanted_none rfl) rfl rfl (gv_move rfl (hF.t rfl)) fun a hF => ?_)
  refine wpList_stp (stp_gv hF (wanted_none rfl) rfl rfl (gv_len rfl Tryd.underlying22 (hF.t rfl)) fun a hF => ?_)
  refine wpList_stp (stp_gv hF (wanted_none rfl) rfl rfl (gv_move rfl (hF.t rfl)) fun a hF => ?_)
  refine wpList_stp (stp_gv hF (wanted_none rfl) rfl rfl (gv_nsub (n := 1) rfl (hF.t rfl) rfl (by omega) (by omega)) fun a hF => ?_)
  refine wpList_stp (stp_gv hF (wanted_none rfl) rfl rfl (gv_nmul (n := 64) rfl (hF.t rfl) rfl (by omega)) fun a hF => ?_)
  refine wpList_stp (stp_gv hF (wanted_none rfl) rfl rfl (gv_gtr rfl (hF.t rfl) (hF.t rfl)) fun a hF => ?_)
  refine wpList_stp (stp_gv hF (wanted_none rfl) rfl rfl (gv_move rfl (hF.t rfl)) fun a hF => ?_)
  refine wpList_stp (stp_gvG' hF rfl rfl rfl rfl rfl (fun hg => gv_field (r := 0) rfl Tryd.underlying63 rfl rfl Tryd.sz9 (by decide) (hF.t rfl)) fun a hF => ?_)
  refine wpList_stp (stp_gvG' hF rfl rfl rfl rfl rfl (fun hg => gv_load rfl Tryd.underlying9 rfl ((hF.t rfl).trans (if_neg hg)) (cell_ix (j := 0) (hS.cell (k := 2) rfl rfl) (by omega))) fun a hF => ?_)
  refine wpList_stp (stp_gvG' hF rfl rfl rfl rfl rfl (fun hg => gv_lenS rfl Tryd.underlying9 ((hF.t rfl).trans (if_neg hg))) fun a hF => ?_)
  refine wpList_stp (stp_gvG' hF rfl rfl rfl rfl rfl (fun hg => gv_gtr rfl ((hF.t rfl).trans (if_neg hg)) (ev_const _ _)) fun a hF => ?_)
  refine wpList_stp (stp_gv hF (wanted_none rfl) rfl rfl (gv_pickOr rfl (hF.t rfl) (ev_const _ _) (hF.t rfl)) fun a hF => ?_)
  refine wpList_stp (stp_gv hF (wanted_none rfl) rfl rfl (gv_move rfl (hF.t rfl)) fun a hF => ?_)
  refine wpList_stp (stp_gvG' hF rfl rfl rfl rfl rfl (fun hg => gv_field (r := 1) rfl Tryd.underlying63 rfl rfl Tryd.sz9 (by decide) (hF.t rfl)) fun a hF => ?_)
  refine wpList_stp (stp_gvG' hF rfl rfl rfl rfl rfl (fun hg => gv_load rfl Tryd.underlying9 rfl ((hF.t rfl).trans (if_neg hg)) (cell_ix (j := 1) (hS.cell (k := 2) rfl rfl) (by omega))) fun a hF => ?_)
  refine wpList_stp (stp_gvG' hF rfl rfl rfl rfl rfl (fun hg => gv_lenS rfl Tryd.underlying9 ((hF.t rfl).trans (if_neg hg))) fun a hF => ?_)
  refine wpList_stp (stp_gvG' hF rfl rfl rfl rfl rfl (fun hg => gv_gtr rfl ((hF.t rfl).trans (if_neg hg)) (ev_const _ _)) fun a hF => ?_)
  refine wpList_stp (stp_gv hF (wanted_none rfl) rfl rfl (gv_pickOr rfl (hF.t rfl) (ev_const _ _) (hF.t rfl)) fun a hF => ?_)
  refine wpList_nil ?_
  refine then_normal (hKq6 _ _ ?_)
  refine cond_dec (hF.t rfl) (fun h44 => ?_) (fun h44 => ?_)
  ·
    refine wp_seq_k fun Kq7 hKq7 => ?_
    -- region 5 (vault.go:161)
    refine wp_region_lit ?_
    refine wpList_stp (stp_gv hF (wanted_none rfl) rfl rfl (gv_assign rfl (ev_const _ _)) fun a hF => ?_)
    refine wpList_nil ?_
    refine then_normal (hKq7 _ _ ?_)
    refine wp_ret ?_
    refine then_ret ?_
    refine ret1 (fn := Tryd.f30) (t := 4) hF rfl rfl ?_
    replace hS := ((hS.drop rfl).drop rfl).drop rfl
    have hcond : ((n / 2 - 1) * 64 < (recB al cl pp).length ∨ 16384 < al.length) ∨ 16384 < cl.length := by rw [← hm, ← hB]; omega
    have hsf : saveF V D n ⟨al, cl, pp⟩ = (22, V, D) := if_pos hcond
    rw [hsf]
    exact ⟨rfl, hS⟩
  ·
    refine wp_skip ?_
    refine then_normal (hKq5 _ _ ?_)
    refine wp_seq_k fun Kq8 hKq8 => ?_
    refine wp_seq_k fun Kq9 hKq9 => ?_
    replace hS := hS.move (k := 5) rfl
    replace hS := hS.move (k := 5) rfl
    simp only [List.eraseIdx_cons_succ, List.eraseIdx_cons_zero] at hS
    have hbl : B.length ≤ (m - 1) * 64 := by omega
    -- region 6 (vault.go:163)
    refine wp_region_lit ?_
    refine wpList_stp (stp_gv hF (wanted_none rfl) rfl rfl (gv_assign rfl (ev_const _ _)) fun a hF => ?_)
    refine wpList_nil ?_
    refine then_normal (hKq9 _ _ ?_)
    refine wp_block ?_
    refine wp_loop_n (fun nn a w => ∃ (j : Nat) (Dj : Dk), nn = 1024 - j ∧ 64 * j < B.length + 64 ∧ DkOk n Dj ∧ saveL n ((1 - V.k) * m + 1) B (cntF B - j) j Dj = saveL n ((1 - V.k) * m + 1) B (cntF B) 0 D ∧ Fr 104 a [(0, .pointer (some ⟨v, 0, none⟩)), (3, .pointer (some ⟨rb, 0, none⟩)), (5, .slice (some ⟨o, 0, none⟩) B.length (B.length + op.length)), (6, vI m), (7, vI (1 - V.k)), (8, vI (64 * j))] ∧ St w00 w (⟨true, some d, dskO p n c Dj⟩ :: ⟨true, some p, datO Dj pad⟩ :: ⟨true, some o, blk 5 (B.map vB ++ op)⟩ :: ⟨true, some r2, recO al cl pp⟩ :: ⟨true, some rb, recO al cl pp⟩ :: ⟨true, some v, vltO d V.g V.k⟩ :: T)) 1024 ⟨0, D, rfl, by omega, hK, rfl, hF.sub ⟨rfl, rfl, rfl, rfl, rfl, rfl, trivial⟩, hS⟩ ?_
    rintro nn a w ⟨j, Dj, hnn, hj, hDj, hL, hF, hS⟩
    refine wp_seq_k fun Kq10 hKq10 => ?_
    refine wp_seq_k fun Kq11 hKq11 => ?_
    -- region 7 (vault.go:163)
    refine wp_region_lit ?_
    refine wpList_stp (stp_gv hF (wanted_none rfl) rfl rfl (gv_move rfl (hF.t rfl)) fun a hF => ?_)
    refine wpList_stp (stp_gv hF (wanted_none rfl) rfl rfl (gv_move rfl (hF.t rfl)) fun a hF => ?_)
    refine wpList_stp (stp_gv hF (wanted_none rfl) rfl rfl (gv_len rfl Tryd.underlying22 (hF.t rfl)) fun a hF => ?_)
    refine wpList_stp (stp_gv hF (wanted_none rfl) rfl rfl (gv_lss rfl (hF.t rfl) (hF.t rfl)) fun a hF => ?_)
    refine wpList_nil ?_
    refine then_normal (hKq11 _ _ ?_)
    refine cond_dec (hF.t rfl) (fun h48 => ?_) (fun h48 => ?_)
    ·
      refine wp_skip ?_
      refine then_normal (hKq10 _ _ ?_)
      refine wp_seq_k fun Kq12 hKq12 => ?_
      refine wp_block ?_
      refine wp_seq_k fun Kq13 hKq13 => ?_
      -- region 9 (vault.go:164)
      refine wp_region_lit ?_
      refine wpList_stp (stp_alloc hF (wanted_none rfl) rfl rfl rfl Tryd.zv72 rfl hS fun x a w hF hS => ?_)
      refine wpList_nil ?_
      refine then_normal (hKq13 _ _ ?_)
      refine wp_seq_k fun Kq14 hKq14 => ?_
      -- region 10 (vault.go:165)
      refine Fw.wp_region_draw (by kernel_rfl) fun w hx => ?_
      replace hS := hS.ext hx
      clear hx
      refine run_head0 (n := 4) _ hF (by kernel_rfl) rfl ?_
      refine dw_gv hF rfl (wanted_none rfl) rfl rfl (fun w hx => gv_sliceArr rfl Tryd.underlying72 Tryd.sz5 (hF.t rfl)) fun a hF => ?_
      refine dw_gv hF rfl (wanted_none rfl) rfl rfl (fun w hx => gv_move rfl (hF.t rfl)) fun a hF => ?_
      refine dw_gv hF rfl (wanted_none rfl) rfl rfl (fun w hx => gv_move rfl (hF.t rfl)) fun a hF => ?_
      refine dw_gv hF rfl (wanted_none rfl) rfl rfl (fun w hx => gv_sliceLo rfl Tryd.underlying22 Tryd.sz5 (hF.t rfl) (hF.t rfl) (by omega)) fun a hF => ?_
      refine dw_nil fun a w hA hx => ?_
      replace hF := hA _ hF
      replace hS := hS.ext hx
      clear hA hx
      have hRd := (SRd.cutLo (lo := 64 * j) (own_rd (w0 := w00) (ob := some o) (l := B) (T := [⟨true, some o, blk 5 (B.map vB ++ op)⟩]) (n := B.length) List.mem_cons_self (fun h => by cases h) rfl oc) (by omega)) w _ hS (nw_cons rfl (nw_cons rfl (nw_cons rfl (nw_cons rfl (nw_cons rfl (nw_cons rfl (nw_cons rfl hT))))))) (fun e he => by obtain rfl := List.mem_singleton.1 he; exact (List.mem_of_getElem? (i := 3) rfl))
      rw [← List.map_drop] at hRd
      refine run_stp (by kernel_rfl) rfl (stp_copyAt (k := 0) (n := 64) (ml := B.drop (64 * j)) (cs := (List.replicate 64 (0 : UInt8)).map vB) hF (wanted_none rfl) rfl rfl rfl Tryd.underlying22 Tryd.sz5 (hF.t rfl) (hF.t rfl) hS rfl (by rw [List.length_map, List.length_replicate]; omega) hRd fun a w hF hS => ?_)
      rw [show ((List.replicate 64 (0 : UInt8)).map vB).take 0 ++ ((B.drop (64 * j)).take 64).map vB ++ ((List.replicate 64 (0 : UInt8)).map vB).drop (0 + min (B.drop (64 * j)).length 64) = (chunkF B j).map vB by rw [chunkF, List.map_append, List.map_drop, Nat.zero_add]; rfl] at hS
      refine run_done (by decide) ?_
      refine then_normal (hKq14 _ _ ?_)
      refine wp_seq_k fun Kq15 hKq15 => ?_
      -- region 11 (vault.go:166)
      refine Fw.wp_region_draw (by kernel_rfl) fun w hx => ?_
      replace hS := hS.ext hx
      clear hx
      refine run_head0 (n := 12) _ hF (by kernel_rfl) rfl ?_
      refine dw_gv hF rfl (wanted_none rfl) rfl rfl (fun w hx => gv_move rfl (hF.t rfl)) fun a hF => ?_
      refine dw_gv hF rfl (wanted_none rfl) rfl rfl (fun w hx => gv_nilCheck rfl (hF.t rfl)) fun a hF => ?_
      refine dw_gv hF rfl (wanted_none rfl) rfl rfl (fun w hx => gv_field (r := 0) rfl Tryd.underlying115 rfl rfl Tryd.sz113 (by decide) (hF.t rfl)) fun a hF => ?_
      refine dw_gv hF rfl (wanted_none rfl) rfl rfl (fun w hx => gv_load rfl Tryd.underlying113 rfl (hF.t rfl) (cell_ix (j := 0) ((hS.ext hx).cell (k := 6) rfl (rfl)) (by omega))) fun a hF => ?_
      refine dw_gv hF rfl (wanted_none rfl) rfl rfl (fun w hx => gv_move rfl (hF.t rfl)) fun a hF => ?_
      refine dw_gv hF rfl (wanted_none rfl) rfl rfl (fun w hx => gv_move rfl (hF.t rfl)) fun a hF => ?_
      refine dw_gv hF rfl (wanted_none rfl) rfl rfl (fun w hx => gv_nmul rfl (hF.t rfl) (hF.t rfl) (by omega)) fun a hF => ?_
      refine dw_gv hF rfl (wanted_none rfl) rfl rfl (fun w hx => gv_nadd (n := 1) rfl (hF.t rfl) rfl (by omega)) fun a hF => ?_
      refine dw_gv hF rfl (wanted_none rfl) rfl rfl (fun w hx => gv_move rfl (hF.t rfl)) fun a hF => ?_
      refine dw_gv hF rfl (wanted_none rfl) rfl rfl (fun w hx => gv_nquo (n := 64) rfl (hF.t rfl) rfl (by omega) (by omega)) fun a hF => ?_
      rw [show 64 * j / 64 = j by omega] at hF
      refine dw_gv hF rfl (wanted_none rfl) rfl rfl (fun w hx => gv_nadd rfl (hF.t rfl) (hF.t rfl) (by omega)) fun a hF => ?_
      refine dw_gv hF rfl (wanted_none rfl) rfl rfl (fun w hx => gv_loadAll rfl Tryd.underlying72 rfl (Tryd.sz72.trans (congrArg some (by rw [List.length_map, chunkF_len]))) (hF.t rfl) (hS.ext hx) (k := 0) rfl) fun a hF => ?_
      refine dw_nil fun a w hA hx => ?_
      replace hF := hA _ hF
      replace hS := hS.ext hx
      clear hA hx
      replace hS := hS.move (k := 2) rfl
      replace hS := hS.move (k := 2) rfl
      simp only [List.eraseIdx_cons_succ, List.eraseIdx_cons_zero] at hS
      refine run_stp (by kernel_rfl) rfl (stp_callI hF (wanted_none rfl) rfl rfl Tryd.methWrite rfl (hF.t rfl) (Evs.cons (hF.t rfl) (Evs.cons (hF.t rfl) Evs.nil)) (dwrite_ok (i := (((1 - V.k) * m + 1 + j : Nat) : Int)) (xl := chunkF B j) (nw_cons rfl (nw_cons rfl (nw_cons rfl (nw_cons rfl (nw_cons rfl hT))))) hS hDj (chunkF_len B j)) fun e w h => ?_)
      obtain ⟨rfl, hS⟩ := h
      refine ⟨_, rfl, fun a hF => ?_⟩
      replace hS := (hS.move (k := 2) rfl).drop rfl
      simp only [List.eraseIdx_cons_succ, List.eraseIdx_cons_zero] at hS
      obtain ⟨WR, hWR⟩ : ∃ x, x = wrF Dj n (((1 - V.k) * m + 1 + j : Nat) : Int) (chunkF B j) := ⟨_, rfl⟩
      rw [← hWR] at hF hS
      refine run_head0 (n := 14) _ hF (by kernel_rfl) rfl ?_
      refine dw_gv hF rfl (wanted_none rfl) rfl rfl (fun w hx => gv_assign rfl (hF.t rfl)) fun a hF => ?_
      refine dw_nil fun a w hA hx => ?_
      replace hF := hA _ hF
      replace hS := hS.ext hx
      clear hA hx
      refine run_done (by decide) ?_
      refine then_normal (hKq15 _ _ ?_)
      refine wp_seq_k fun Kq16 hKq16 => ?_
      -- region 12 (vault.go:166)
      refine wp_region_lit ?_
      refine wpList_stp (stp_gv hF (wanted_none rfl) rfl rfl (gv_move rfl (hF.t rfl)) fun a hF => ?_)
      refine wpList_stp (stp_gv hF (wanted_none rfl) rfl rfl (gv_neq rfl (hF.t rfl) (ev_const _ _)) fun a hF => ?_)
      refine wpList_nil ?_
      refine then_normal (hKq16 _ _ ?_)
      refine cond_dec (hF.t rfl) (fun h70 => ?_) (fun h70 => ?_)
      ·
        refine wp_seq_k fun Kq17 hKq17 => ?_
        -- region 13 (vault.go:167)
        refine wp_region_lit ?_
        refine wpList_stp (stp_gv hF (wanted_none rfl) rfl rfl (gv_move rfl (hF.t rfl)) fun a hF => ?_)
        refine wpList_stp (stp_gv hF (wanted_none rfl) rfl rfl (gv_assign rfl (hF.t rfl)) fun a hF => ?_)
        refine wpList_nil ?_
        refine then_normal (hKq17 _ _ ?_)
        refine wp_ret ?_
        refine block_ret ?_
        refine then_ret ?_
        refine then_ret ?_
        refine block_ret ?_
        refine then_ret ?_
        refine ret1 (fn := Tryd.f30) (t := 4) hF rfl rfl ?_
        have h70e : ¬ WR.1 = 0 := by omega
        have hc1 : cntF B - j = (cntF B - (j + 1)) + 1 := by unfold cntF; omega
        rw [hc1, saveL, ← hWR, if_neg h70e] at hL
        have hcond : ¬ (((n / 2 - 1) * 64 < (recB al cl pp).length ∨ 16384 < al.length) ∨ 16384 < cl.length) := by rw [← hm, ← hB]; omega
        have hsf : saveF V D n ⟨al, cl, pp⟩ = (WR.1, V, WR.2) := by
          rw [saveF, if_neg hcond]
          show savB V D n (recB al cl pp) = _
          rw [← hB, savB]
          simp only
          rw [← hm, ← hL, if_neg h70e]
        replace hS := (((hS.move (k := 2) rfl).drop rfl).move (k := 2) rfl).drop rfl
        replace hS := ((hS.move (k := 2) rfl).drop rfl).move (k := 2) rfl
        simp only [List.eraseIdx_cons_succ, List.eraseIdx_cons_zero] at hS
        rw [hsf]
        exact ⟨rfl, hS⟩
      ·
        refine wp_skip ?_
        refine block_normal ?_
        refine then_normal (hKq12 _ _ ?_)
        -- region 8 (vault.go:163)
        refine wp_region_lit ?_
        refine wpList_stp (stp_gv hF (wanted_none rfl) rfl rfl (gv_move rfl (hF.t rfl)) fun a hF => ?_)
        refine wpList_stp (stp_gv hF (wanted_none rfl) rfl rfl (gv_nadd (n := 64) rfl (hF.t rfl) rfl (by omega)) fun a hF => ?_)
        refine wpList_stp (stp_gv hF (wanted_none rfl) rfl rfl (gv_assign rfl (hF.t rfl)) fun a hF => ?_)
        refine wpList_nil ?_
        refine then_normal ?_
        have h70e : WR.1 = 0 := by omega
        have hc1 : cntF B - j = (cntF B - (j + 1)) + 1 := by unfold cntF; omega
        rw [hc1, saveL, ← hWR, if_pos h70e] at hL
        exact ⟨nn - 1, by omega, j + 1, WR.2, by omega, by omega, by rw [hWR]; exact wrF_ok hDj (chunkF_len B j), hL, hF.sub ⟨rfl, rfl, rfl, rfl, rfl, rfl, trivial⟩, hS⟩
    ·
      refine wp_exit ?_
      refine then_exit ?_
      refine then_exit ?_
      refine block_exit ?_
      refine then_normal (hKq8 _ _ ?_)
      refine wp_seq_k fun Kq18 hKq18 => ?_
      refine wp_seq_k fun Kq19 hKq19 => ?_
      have hcnt : cntF B - j = 0 := by unfold cntF; omega
      have hsv : saveL n ((1 - V.k) * m + 1) B (cntF B) 0 D = (0, Dj) := by rw [← hL, hcnt]; rfl
      clear hcnt hL
      -- region 14 (vault.go:170)
      refine Fw.wp_region_draw (by kernel_rfl) fun w hx => ?_
      replace hS := hS.ext hx
      clear hx
      refine run_head0 (n := 16) _ hF (by kernel_rfl) rfl ?_
      refine dw_gv hF rfl (wanted_none rfl) rfl rfl (fun w hx => gv_move rfl (hF.t rfl)) fun a hF => ?_
      refine dw_gv hF rfl (wanted_none rfl) rfl rfl (fun w hx => gv_nilCheck rfl (hF.t rfl)) fun a hF => ?_
      refine dw_gv hF rfl (wanted_none rfl) rfl rfl (fun w hx => gv_field (r := 0) rfl Tryd.underlying115 rfl rfl Tryd.sz113 (by decide) (hF.t rfl)) fun a hF => ?_
      refine dw_gv hF rfl (wanted_none rfl) rfl rfl (fun w hx => gv_load rfl Tryd.underlying113 rfl (hF.t rfl) (cell_ix (j := 0) ((hS.ext hx).cell (k := 5) rfl (rfl)) (by omega))) fun a hF => ?_
      refine dw_gv hF rfl (wanted_none rfl) rfl rfl (fun w hx => gv_move rfl (hF.t rfl)) fun a hF => ?_
      refine dw_gv hF rfl (wanted_none rfl) rfl rfl (fun w hx => gv_move rfl (hF.t rfl)) fun a hF => ?_
      refine dw_gv hF rfl (wanted_none rfl) rfl rfl (fun w hx => gv_nmul rfl (hF.t rfl) (hF.t rfl) (by omega)) fun a hF => ?_
      refine dw_gv hF rfl (wanted_none rfl) rfl rfl (fun w hx => gv_move rfl (hF.t rfl)) fun a hF => ?_
      refine dw_gv hF rfl (wanted_none rfl) rfl rfl (fun w hx => gv_nilCheck rfl (hF.t rfl)) fun a hF => ?_
      refine dw_gv hF rfl (wanted_none rfl) rfl rfl (fun w hx => gv_field (r := 1) rfl Tryd.underlying115 rfl rfl Tryd.sz76 (by decide) (hF.t rfl)) fun a hF => ?_
      refine dw_gv hF rfl (wanted_none rfl) rfl rfl (fun w hx => gv_load rfl Tryd.underlying76 rfl (hF.t rfl) (cell_ix (j := 1) ((hS.ext hx).cell (k := 5) rfl (rfl)) (by omega))) fun a hF => ?_
      refine dw_gv hF rfl (wanted_none rfl) rfl rfl (fun w hx => gv_d_add (n := 1) rfl (hF.t rfl) rfl) fun a hF => ?_
      refine dw_gv hF rfl (wanted_none rfl) rfl rfl (fun w hx => gv_move rfl (hF.t rfl)) fun a hF => ?_
      refine dw_call hF rfl (wanted_none rfl) rfl rfl Tryd.ok61 rfl (Evs.cons (hF.t rfl) (Evs.cons (hF.t rfl) Evs.nil)) (fun w hx => head_ok (hG.ext ((hS.ext hx).toExt (nw_cons rfl (nw_cons rfl (nw_cons rfl (nw_cons rfl (nw_cons rfl (nw_cons rfl hT)))))))) ((own_rd (w0 := w00) (ob := some o) (l := B) (n := B.length) (T := [⟨true, some o, blk 5 (B.map vB ++ op)⟩]) List.mem_cons_self (fun h => by cases h) rfl oc) _ _ (hS.ext hx) (nw_cons rfl (nw_cons rfl (nw_cons rfl (nw_cons rfl (nw_cons rfl (nw_cons rfl hT)))))) (fun e he => by obtain rfl := List.mem_singleton.1 he; exact (List.mem_of_getElem? (i := 2) rfl))) (by omega)) fun a hF => ?_
      refine dw_gv hF rfl (wanted_none rfl) rfl rfl (fun w hx => gv_nilCheckI rfl (hF.t rfl)) fun a hF => ?_
      refine dw_gv hF rfl (wanted_none rfl) rfl rfl (fun w hx => gv_move rfl (hF.t rfl)) fun a hF => ?_
      refine dw_nil fun a w hA hx => ?_
      replace hF := hA _ hF
      replace hS := hS.ext hx
      clear hA hx
      refine run_stp (by kernel_rfl) rfl (stp_callI hF (wanted_none rfl) rfl rfl Tryd.methWrite rfl (hF.t rfl) (Evs.cons (hF.t rfl) (Evs.cons (hF.t rfl) Evs.nil)) (dwrite_ok (i := (((1 - V.k) * m : Nat) : Int)) (xl := headF (V.g + 1) B) (nw_cons rfl (nw_cons rfl (nw_cons rfl (nw_cons rfl hT)))) hS hDj (headF_len _ _)) fun e w h => ?_)
      obtain ⟨rfl, hS⟩ := h
      refine ⟨_, rfl, fun a hF => ?_⟩
      obtain ⟨WR, hWR⟩ : ∃ x, x = wrF Dj n (((1 - V.k) * m : Nat) : Int) (headF (V.g + 1) B) := ⟨_, rfl⟩
      rw [← hWR] at hF hS
      refine run_head0 (n := 18) _ hF (by kernel_rfl) rfl ?_
      refine dw_gv hF rfl (wanted_none rfl) rfl rfl (fun w hx => gv_assign rfl (hF.t rfl)) fun a hF => ?_
      refine dw_nil fun a w hA hx => ?_
      replace hF := hA _ hF
      replace hS := hS.ext hx
      clear hA hx
      refine run_done (by decide) ?_
      refine then_normal (hKq19 _ _ ?_)
      refine wp_seq_k fun Kq20 hKq20 => ?_
      -- region 15 (vault.go:170)
      refine wp_region_lit ?_
      refine wpList_stp (stp_gv hF (wanted_none rfl) rfl rfl (gv_move rfl (hF.t rfl)) fun a hF => ?_)
      refine wpList_stp (stp_gv hF (wanted_none rfl) rfl rfl (gv_neq rfl (hF.t rfl) (ev_const _ _)) fun a hF => ?_)
      refine wpList_nil ?_
      refine then_normal (hKq20 _ _ ?_)
      refine cond_dec (hF.t rfl) (fun h90 => ?_) (fun h90 => ?_)
      ·
        refine wp_seq_k fun Kq21 hKq21 => ?_
        -- region 16 (vault.go:171)
        refine wp_region_lit ?_
        refine wpList_stp (stp_gv hF (wanted_none rfl) rfl rfl (gv_move rfl (hF.t rfl)) fun a hF => ?_)
        refine wpList_stp (stp_gv hF (wanted_none rfl) rfl rfl (gv_assign rfl (hF.t rfl)) fun a hF => ?_)
        refine wpList_nil ?_
        refine then_normal (hKq21 _ _ ?_)
        refine wp_ret ?_
        refine then_ret ?_
        refine ret1 (fn := Tryd.f30) (t := 4) hF rfl rfl ?_
        have h90e : ¬ WR.1 = 0 := by omega
        have hcond : ¬ (((n / 2 - 1) * 64 < (recB al cl pp).length ∨ 16384 < al.length) ∨ 16384 < cl.length) := by rw [← hm, ← hB]; omega
        have hsf : saveF V D n ⟨al, cl, pp⟩ = (WR.1, V, WR.2) := by
          rw [saveF, if_neg hcond]
          show savB V D n (recB al cl pp) = _
          rw [← hB, savB]
          simp only
          rw [← hm, hsv, if_pos rfl, ← hWR]
          rw [if_neg h90e]
        replace hS := (((hS.move (k := 2) rfl).drop rfl).move (k := 2) rfl).drop rfl
        replace hS := ((hS.move (k := 2) rfl).drop rfl).move (k := 2) rfl
        rw [hsf]
        exact ⟨rfl, hS⟩
      ·
        refine wp_skip ?_
        refine then_normal (hKq18 _ _ ?_)
        refine wp_seq_k fun Kq22 hKq22 => ?_
        -- region 17 (vault.go:173)
        refine wp_region_lit ?_
        refine wpList_stp (stp_gv hF (wanted_none rfl) rfl rfl (gv_move rfl (hF.t rfl)) fun a hF => ?_)
        refine wpList_stp (stp_gv hF (wanted_none rfl) rfl rfl (gv_move rfl (hF.t rfl)) fun a hF => ?_)
        refine wpList_stp (stp_gv hF (wanted_none rfl) rfl rfl (gv_move rfl (hF.t rfl)) fun a hF => ?_)
        refine wpList_stp (stp_gv hF (wanted_none rfl) rfl rfl (gv_nilCheck rfl (hF.t rfl)) fun a hF => ?_)
        refine wpList_stp (stp_gv hF (wanted_none rfl) rfl rfl (gv_field (r := 1) rfl Tryd.underlying115 rfl rfl Tryd.sz76 (by decide) (hF.t rfl)) fun a hF => ?_)
        refine wpList_stp (stp_gv hF (wanted_none rfl) rfl rfl (gv_load rfl Tryd.underlying76 rfl (hF.t rfl) (cell_ix (j := 1) (hS.cell (k := 5) rfl (rfl)) (by omega))) fun a hF => ?_)
        refine wpList_stp (stp_gv hF (wanted_none rfl) rfl rfl (gv_d_add (n := 1) rfl (hF.t rfl) rfl) fun a hF => ?_)
        refine wpList_stp (stp_gv hF (wanted_none rfl) rfl rfl (gv_move rfl (hF.t rfl)) fun a hF => ?_)
        refine wpList_stp (stp_gv hF (wanted_none rfl) rfl rfl (gv_nilCheck rfl (hF.t rfl)) fun a hF => ?_)
        refine wpList_stp (stp_gv hF (wanted_none rfl) rfl rfl (gv_field (r := 1) rfl Tryd.underlying115 rfl rfl Tryd.sz76 (by decide) (hF.t rfl)) fun a hF => ?_)
        refine wpList_stp (stp_storeAt (1) hF (wanted_none rfl) rfl rfl Tryd.sz76 (hF.t rfl) (by omega) (hF.t rfl) rfl hS (k := 5) rfl (by simp) fun w hS => ?_)
        refine wpList_stp (stp_gv hF (wanted_none rfl) rfl rfl (gv_nilCheck rfl (hF.t rfl)) fun a hF => ?_)
        refine wpList_stp (stp_gv hF (wanted_none rfl) rfl rfl (gv_field (r := 2) rfl Tryd.underlying115 rfl rfl Tryd.sz3 (by decide) (hF.t rfl)) fun a hF => ?_)
        refine wpList_stp (stp_storeAt (2) hF (wanted_none rfl) rfl rfl Tryd.sz3 (hF.t rfl) (by omega) (hF.t rfl) rfl hS (k := 5) rfl (by simp) fun w hS => ?_)
        refine wpList_nil ?_
        refine then_normal (hKq22 _ _ ?_)
        refine wp_seq_k fun Kq23 hKq23 => ?_
        -- region 18 (vault.go:174)
        refine wp_region_lit ?_
        refine wpList_stp (stp_gv hF (wanted_none rfl) rfl rfl (gv_assign rfl (ev_const _ _)) fun a hF => ?_)
        refine wpList_nil ?_
        refine then_normal (hKq23 _ _ ?_)
        refine wp_ret ?_
        refine ret1 (fn := Tryd.f30) (t := 4) hF rfl rfl ?_
        have h90e : WR.1 = 0 := by omega
        have hcond : ¬ (((n / 2 - 1) * 64 < (recB al cl pp).length ∨ 16384 < al.length) ∨ 16384 < cl.length) := by rw [← hm, ← hB]; omega
        have hsf : saveF V D n ⟨al, cl, pp⟩ = (0, ⟨V.g + 1, 1 - V.k⟩, WR.2) := by
          rw [saveF, if_neg hcond]
          show savB V D n (recB al cl pp) = _
          rw [← hB, savB]
          simp only
          rw [← hm, hsv, if_pos rfl, ← hWR]
          rw [if_pos h90e]
        replace hS := (((hS.move (k := 2) rfl).drop rfl).move (k := 2) rfl).drop rfl
        replace hS := ((hS.move (k := 2) rfl).drop rfl).move (k := 2) rfl
        rw [hsf]
        exact ⟨rfl, hS⟩


end Go.Proofs.YtfhalnobaeogkaaDoor
