/- What is proved: the contracts of the reference of layer 6: times, others. -/
import Derived.Test.YtfhalnobaeogkaaProg
import Derived.Test.YtfhalnobaeogkaaFwSep
import Derived.KernelRfl
import Derived.Test.YtfhalnobaeogkaaLeaf
set_option linter.unusedVariables false
set_option linter.unusedSimpArgs false
namespace Go.Proofs.Ytfhalnobaeogkaa
open Go Go.RowKit Go.Fw

theorem Try.sz3 : (Try.prog.info? 3).map (·.size) = some 1 := by kernel_rfl
theorem Try.sz49 : (Try.prog.info? 49).map (·.size) = some 256 := by kernel_rfl
theorem Try.zv49 : (Try.prog.info? 49).map (·.zero) = some (some (Value.agg ((List.replicate 256 (0 : Nat)).map vI).toArray)) := by kernel_rfl
theorem Try.ok18 : CallOk Try.prog 18 := ⟨_, Try.func18, by kernel_rfl, by kernel_rfl⟩


def dbN (a : Nat) : Nat := if 255 < a * 2 then (a * 2) ^^^ 283 else a * 2
def tmsF : Nat → Nat → Nat → Nat → Nat
  | 0, r, _, _ => r
  | n + 1, r, a, b => if b = 0 then r else tmsF n (if b % 2 = 1 then r ^^^ a else r) (dbN a) (b / 2)
def tms (a b : Nat) : Nat := tmsF 8 0 a b
theorem dbN_lt : ∀ a, a < 256 → dbN a < 256 := by decide +kernel
theorem xor_lt {a b : Nat} (ha : a < 256) (hb : b < 256) : a ^^^ b < 256 := Nat.xor_lt_two_pow (n := 8) ha hb
theorem tmsF_lt : ∀ (n r a b : Nat), r < 256 → a < 256 → tmsF n r a b < 256
  | 0, r, a, b, hr, _ => hr
  | n + 1, r, a, b, hr, ha => by
    unfold tmsF; split
    · exact hr
    · refine tmsF_lt n _ _ _ ?_ (dbN_lt a ha)
      split
      · exact xor_lt hr ha
      · exact hr
theorem tms_lt (a b : Nat) (ha : a < 256) : tms a b < 256 := tmsF_lt 8 0 a b (by omega) ha
theorem tmsF_zero (n r a : Nat) : tmsF n r a 0 = r := by cases n <;> simp [tmsF]
theorem tmsF_step {n r a b : Nat} (h : 0 < b) : tmsF (n + 1) r a b = tmsF n (if b % 2 = 1 then r ^^^ a else r) (dbN a) (b / 2) := by rw [tmsF, if_neg (by omega)]


theorem times_ok {a0 b0 : Nat} {w0 : World} (ha : a0 < 256) (hb : b0 < 256) :
    Calls Try.prog 18 #[vI a0, vI b0] w0 fun e w' => e = .returned (vI (tms a0 b0)) ∧ Ext w0 w' := by
  refine calls_start 23 Try.func18 rfl Try.ntmps18 rfl fun a hF => ?_
  have hS := St.refl w0
  refine wp_seq_k fun Kq1 hKq1 => ?_
  -- region 0 (ref.go:5)
  refine wp_region_lit ?_
  refine wpList_stp (stp_gv hF (wanted_none rfl) rfl rfl (gv_assign rfl (ev_const _ _)) fun a hF => ?_)
  refine wpList_nil ?_
  refine then_normal (hKq1 _ _ ?_)
  refine wp_seq_k fun Kq2 hKq2 => ?_
  -- region 1 (ref.go:6)
  refine wp_region_lit ?_
  refine wpList_stp (stp_gv hF (wanted_none rfl) rfl rfl (gv_assign rfl (ev_const _ _)) fun a hF => ?_)
  refine wpList_nil ?_
  refine then_normal (hKq2 _ _ ?_)
  refine wp_seq_k fun Kq3 hKq3 => ?_
  refine wp_block ?_
  refine wp_loop_n (fun n a w => ∃ A B R, A < 256 ∧ B < 256 ∧ R < 256 ∧ n ≤ 8 ∧ B < 2 ^ n ∧ tmsF n R A B = tms a0 b0 ∧ Fr 23 a [(0, vI A), (1, vI B), (5, vI R)] ∧ St w0 w []) 8 ⟨a0, b0, 0, ha, hb, by omega, by omega, by omega, rfl, hF.sub ⟨rfl, rfl, rfl, trivial⟩, hS⟩ ?_
  rintro n a w ⟨A, B, R, hA, hB8, hR, hn, hB, hT, hF, hS⟩
  refine wp_seq_k fun Kq4 hKq4 => ?_
  refine wp_seq_k fun Kq5 hKq5 => ?_
  -- region 2 (ref.go:7)
  refine wp_region_lit ?_
  refine wpList_stp (stp_gv hF (wanted_none rfl) rfl rfl (gv_move rfl (hF.t rfl)) fun a hF => ?_)
  refine wpList_stp (stp_gv hF (wanted_none rfl) rfl rfl (gv_gtr rfl (hF.t rfl) (ev_const _ _)) fun a hF => ?_)
  refine wpList_nil ?_
  refine then_normal (hKq5 _ _ ?_)
  refine cond_dec (hF.t rfl) (fun h7 => ?_) (fun h7 => ?_)
  ·
    obtain ⟨m, rfl⟩ : ∃ m, n = m + 1 := ⟨n - 1, by rcases n with _ | n <;> omega⟩
    rw [Nat.pow_succ] at hB
    rw [tmsF_step (by omega)] at hT
    clear h7
    refine wp_skip ?_
    refine then_normal (hKq4 _ _ ?_)
    refine wp_block ?_
    refine wp_cut (fun a w => Fr 23 a [(0, vI A), (1, vI B), (5, vI (if B % 2 = 1 then R ^^^ A else R))] ∧ St w0 w []) ?_ ?_
    ·
      refine wp_seq_k fun Kq6 hKq6 => ?_
      -- region 3 (ref.go:8)
      refine wp_region_lit ?_
      refine wpList_stp (stp_gv hF (wanted_none rfl) rfl rfl (gv_move rfl (hF.t rfl)) fun a hF => ?_)
      refine wpList_stp (stp_gv hF (wanted_none rfl) rfl rfl (gv_nrem (n := 2) rfl (hF.t rfl) rfl (by omega)) fun a hF => ?_)
      refine wpList_stp (stp_gv hF (wanted_none rfl) rfl rfl (gv_eql rfl (hF.t rfl) (ev_const _ _)) fun a hF => ?_)
      refine wpList_nil ?_
      refine then_normal (hKq6 _ _ ?_)
      refine cond_dec (hF.t rfl) (fun h10 => ?_) (fun h10 => ?_)
      ·
        -- region 4 (ref.go:9)
        refine wp_region_lit ?_
        refine wpList_stp (stp_gv hF (wanted_none rfl) rfl rfl (gv_move rfl (hF.t rfl)) fun a hF => ?_)
        refine wpList_stp (stp_gv hF (wanted_none rfl) rfl rfl (gv_move rfl (hF.t rfl)) fun a hF => ?_)
        refine wpList_stp (stp_gv hF (wanted_none rfl) rfl rfl (gv_n_xor rfl (hF.t rfl) (hF.t rfl) (by omega) (by omega)) fun a hF => ?_)
        refine wpList_stp (stp_gv hF (wanted_none rfl) rfl rfl (gv_assign rfl (hF.t rfl)) fun a hF => ?_)
        refine wpList_nil ?_
        refine then_normal ?_
        exact ⟨by rw [if_pos (by omega)]; exact hF.sub ⟨rfl, rfl, rfl, trivial⟩, hS⟩
      ·
        refine wp_skip ?_
        refine then_normal ?_
        exact ⟨by rw [if_neg (by omega)]; exact hF.sub ⟨rfl, rfl, rfl, trivial⟩, hS⟩
    · rintro a w ⟨hF, hS⟩
      refine wp_seq_k fun Kq7 hKq7 => ?_
      -- region 5 (ref.go:11)
      refine wp_region_lit ?_
      refine wpList_stp (stp_gv hF (wanted_none rfl) rfl rfl (gv_move rfl (hF.t rfl)) fun a hF => ?_)
      refine wpList_stp (stp_gv hF (wanted_none rfl) rfl rfl (gv_nmul (n := 2) rfl (hF.t rfl) rfl (by omega)) fun a hF => ?_)
      refine wpList_stp (stp_gv hF (wanted_none rfl) rfl rfl (gv_assign rfl (hF.t rfl)) fun a hF => ?_)
      refine wpList_nil ?_
      refine then_normal (hKq7 _ _ ?_)
      refine wp_cut (fun a w => Fr 23 a [(0, vI (dbN A)), (1, vI B), (5, vI (if B % 2 = 1 then R ^^^ A else R))] ∧ St w0 w []) ?_ ?_
      ·
        refine wp_seq_k fun Kq8 hKq8 => ?_
        -- region 6 (ref.go:12)
        refine wp_region_lit ?_
        refine wpList_stp (stp_gv hF (wanted_none rfl) rfl rfl (gv_move rfl (hF.t rfl)) fun a hF => ?_)
        refine wpList_stp (stp_gv hF (wanted_none rfl) rfl rfl (gv_gtr rfl (hF.t rfl) (ev_const _ _)) fun a hF => ?_)
        refine wpList_nil ?_
        refine then_normal (hKq8 _ _ ?_)
        refine cond_dec (hF.t rfl) (fun h17 => ?_) (fun h17 => ?_)
        ·
          -- region 7 (ref.go:13)
          refine wp_region_lit ?_
          refine wpList_stp (stp_gv hF (wanted_none rfl) rfl rfl (gv_move rfl (hF.t rfl)) fun a hF => ?_)
          refine wpList_stp (stp_gv hF (wanted_none rfl) rfl rfl (gv_n_xor (n := 283) rfl (hF.t rfl) rfl (by omega) (by omega)) fun a hF => ?_)
          refine wpList_stp (stp_gv hF (wanted_none rfl) rfl rfl (gv_assign rfl (hF.t rfl)) fun a hF => ?_)
          refine wpList_nil ?_
          refine then_normal ?_
          exact ⟨by rw [dbN, if_pos (by omega)]; exact hF.sub ⟨rfl, rfl, rfl, trivial⟩, hS⟩
        ·
          refine wp_skip ?_
          refine then_normal ?_
          exact ⟨by rw [dbN, if_neg (by omega)]; exact hF.sub ⟨rfl, rfl, rfl, trivial⟩, hS⟩
      · rintro a w ⟨hF, hS⟩
        -- region 8 (ref.go:15)
        refine wp_region_lit ?_
        refine wpList_stp (stp_gv hF (wanted_none rfl) rfl rfl (gv_move rfl (hF.t rfl)) fun a hF => ?_)
        refine wpList_stp (stp_gv hF (wanted_none rfl) rfl rfl (gv_nquo (n := 2) rfl (hF.t rfl) rfl (by omega) (by omega)) fun a hF => ?_)
        refine wpList_stp (stp_gv hF (wanted_none rfl) rfl rfl (gv_assign rfl (hF.t rfl)) fun a hF => ?_)
        refine wpList_nil ?_
        refine block_normal ?_
        refine then_normal ?_
        exact ⟨m, by omega, dbN A, B / 2, (if B % 2 = 1 then R ^^^ A else R), dbN_lt A hA, by omega, by split <;> first | exact xor_lt hR hA | exact hR, by omega, by omega, hT, hF.sub ⟨rfl, rfl, rfl, trivial⟩, hS⟩
  ·
    obtain rfl : B = 0 := by omega
    rw [tmsF_zero] at hT
    refine wp_exit ?_
    refine then_exit ?_
    refine then_exit ?_
    refine block_exit ?_
    refine then_normal (hKq3 _ _ ?_)
    refine wp_seq_k fun Kq9 hKq9 => ?_
    -- region 9 (ref.go:17)
    refine wp_region_lit ?_
    refine wpList_stp (stp_gv hF (wanted_none rfl) rfl rfl (gv_move rfl (hF.t rfl)) fun a hF => ?_)
    refine wpList_stp (stp_gv hF (wanted_none rfl) rfl rfl (gv_assign rfl (hF.t rfl)) fun a hF => ?_)
    refine wpList_nil ?_
    refine then_normal (hKq9 _ _ ?_)
    refine wp_ret ?_
    refine ret1 (fn := Try.f18) (t := 4) hF rfl rfl ?_
    exact ⟨by rw [hT], hS.toExt nw_nil⟩


/-- The powers of 3 and their inverses, and the table of inverses. -/
def invS : Nat → (Nat × Nat) × List Nat
  | 0 => ((1, 1), List.replicate 256 0)
  | i + 1 => ((tms (invS i).1.1 3, tms (invS i).1.2 246), (invS i).2.set (invS i).1.1 (invS i).1.2)
theorem invS_succ (i : Nat) : invS (i + 1) = ((tms (invS i).1.1 3, tms (invS i).1.2 246), (invS i).2.set (invS i).1.1 (invS i).1.2) := rfl
theorem invS_ok (i : Nat) : (invS i).1.1 < 256 ∧ (invS i).1.2 < 256 ∧ (invS i).2.length = 256 ∧ ∀ x ∈ (invS i).2, x < 256 := by
  induction i with
  | zero => exact ⟨by decide, by decide, List.length_replicate, fun x h => by rw [(List.mem_replicate.1 h).2]; decide⟩
  | succ i ih =>
    obtain ⟨h1, h2, h3, h4⟩ := ih
    rw [invS_succ]
    dsimp only
    refine ⟨tms_lt _ _ h1, tms_lt _ _ h2, by simp only [List.length_set, h3], fun x hx => ?_⟩
    rcases List.mem_or_eq_of_mem_set hx with h | rfl
    · exact h4 x h
    · exact h2
theorem getD_lt {l : List Nat} (h : ∀ x ∈ l, x < 256) (i : Nat) : l.getD i 0 < 256 := by
  rw [List.getD_eq_getElem?_getD]
  cases e : l[i]? with
  | none => decide
  | some x => exact h x (List.mem_of_getElem? e)
def invL : List Nat := (invS 255).2
theorem invS_255 : (invS 255).2 = invL := rfl
def yk (x : Nat) : Nat → Nat
  | 0 => x
  | k + 1 => yk x k ^^^ ((x * 2 ^ (k + 1)) &&& 255 ||| x / 2 ^ (8 - (k + 1)))
theorem yk_zero (x : Nat) : yk x 0 = x := rfl
theorem yk_succ (x k : Nat) : yk x (k + 1) = yk x k ^^^ ((x * 2 ^ (k + 1)) &&& 255 ||| x / 2 ^ (8 - (k + 1))) := rfl
theorem yk_lt {x : Nat} (hx : x < 256) (k : Nat) : yk x k < 256 := by
  induction k with
  | zero => exact hx
  | succ k ih => exact xor_lt ih (Nat.or_lt_two_pow (n := 8) (Nat.and_lt_two_pow _ (by decide)) (Nat.lt_of_le_of_lt (Nat.div_le_self _ _) hx))
theorem shl_le {x k : Nat} (hx : x < 256) (hk : k < 4) : x * 2 ^ (k + 1) ≤ 4096 := by
  have : 2 ^ (k + 1) ≤ 2 ^ 4 := Nat.pow_le_pow_right (by omega) (by omega)
  exact Nat.le_trans (Nat.mul_le_mul (Nat.le_of_lt hx) this) (Nat.le_refl 4096)
def othT : Nat → List Nat
  | 0 => List.replicate 256 0
  | i + 1 => (othT i).set i (yk (invL.getD i 0) 4 ^^^ 99)
theorem othT_zero : othT 0 = List.replicate 256 0 := rfl
theorem othT_succ (i : Nat) : othT (i + 1) = (othT i).set i (yk (invL.getD i 0) 4 ^^^ 99) := rfl
theorem othT_len (i : Nat) : (othT i).length = 256 := by induction i with
  | zero => exact List.length_replicate
  | succ i ih => rw [othT, List.length_set, ih]


theorem others_ok {w0 : World} :
    Calls Try.prog 17 #[] w0 fun e w' => e = .returned (.agg ((othT 256).map vI).toArray) ∧ Ext w0 w' := by
  refine calls_start 49 Try.func17 rfl Try.ntmps17 rfl fun a hF => ?_
  have hS := St.refl w0
  refine wp_seq_k fun Kq1 hKq1 => ?_
  -- region 0 (ref.go:21)
  refine wp_region_lit ?_
  refine wpList_stp (stp_alloc hF (wanted_none rfl) rfl rfl rfl Try.zv49 rfl hS fun res a w hF hS => ?_)
  refine wpList_nil ?_
  refine then_normal (hKq1 _ _ ?_)
  refine wp_seq_k fun Kq2 hKq2 => ?_
  -- region 1 (ref.go:22)
  refine wp_region_lit ?_
  refine wpList_stp (stp_alloc hF (wanted_none rfl) rfl rfl rfl Try.zv49 rfl hS fun t a w hF hS => ?_)
  refine wpList_nil ?_
  refine then_normal (hKq2 _ _ ?_)
  refine wp_seq_k fun Kq3 hKq3 => ?_
  -- region 2 (ref.go:23)
  refine wp_region_lit ?_
  refine wpList_stp (stp_alloc hF (wanted_none rfl) rfl rfl rfl Try.zv49 rfl hS fun inv a w hF hS => ?_)
  refine wpList_nil ?_
  refine then_normal (hKq3 _ _ ?_)
  refine wp_seq_k fun Kq4 hKq4 => ?_
  -- region 3 (ref.go:25)
  refine wp_region_lit ?_
  refine wpList_stp (stp_gv hF (wanted_none rfl) rfl rfl (gv_assign rfl (ev_const _ _)) fun a hF => ?_)
  refine wpList_stp (stp_gv hF (wanted_none rfl) rfl rfl (gv_assign rfl (ev_const _ _)) fun a hF => ?_)
  refine wpList_nil ?_
  refine then_normal (hKq4 _ _ ?_)
  refine wp_seq_k fun Kq5 hKq5 => ?_
  refine wp_seq_k fun Kq6 hKq6 => ?_
  -- region 4 (ref.go:26)
  refine wp_region_lit ?_
  refine wpList_stp (stp_gv hF (wanted_none rfl) rfl rfl (gv_assign rfl (ev_const _ _)) fun a hF => ?_)
  refine wpList_nil ?_
  refine then_normal (hKq6 _ _ ?_)
  refine wp_block ?_
  refine wp_loop_n (fun n a w => ∃ i, i ≤ 255 ∧ n = 255 - i ∧ Fr 49 a [(0, .pointer (some ⟨res, 0, none⟩)), (1, .pointer (some ⟨t, 0, none⟩)), (2, .pointer (some ⟨inv, 0, none⟩)), (3, vI (invS i).1.1), (4, vI (invS i).1.2), (5, vI i)] ∧ St w0 w [⟨true, some inv, blkN 49 ((invS i).2)⟩, ⟨true, some t, blkN 49 (List.replicate 256 0)⟩, ⟨true, some res, blkN 49 (List.replicate 256 0)⟩]) 255 ⟨0, by omega, by omega, hF.sub ⟨rfl, rfl, rfl, rfl, rfl, rfl, trivial⟩, hS⟩ ?_
  rintro n a w ⟨i, hi, hn, hF, hS⟩
  obtain ⟨hp, hq, hl, _⟩ := invS_ok i
  refine wp_seq_k fun Kq7 hKq7 => ?_
  refine wp_seq_k fun Kq8 hKq8 => ?_
  -- region 5 (ref.go:26)
  refine wp_region_lit ?_
  refine wpList_stp (stp_gv hF (wanted_none rfl) rfl rfl (gv_move rfl (hF.t rfl)) fun a hF => ?_)
  refine wpList_stp (stp_gv hF (wanted_none rfl) rfl rfl (gv_lss rfl (hF.t rfl) (ev_const _ _)) fun a hF => ?_)
  refine wpList_nil ?_
  refine then_normal (hKq8 _ _ ?_)
  refine cond_dec (hF.t rfl) (fun hc11 => ?_) (fun hc11 => ?_)
  ·
    refine wp_skip ?_
    refine then_normal (hKq7 _ _ ?_)
    refine wp_seq_k fun Kq9 hKq9 => ?_
    refine wp_block ?_
    refine wp_seq_k fun Kq10 hKq10 => ?_
    -- region 7 (ref.go:27)
    refine wp_region_lit ?_
    refine wpList_stp (stp_gv hF (wanted_none rfl) rfl rfl (gv_move rfl (hF.t rfl)) fun a hF => ?_)
    refine wpList_stp (stp_gv hF (wanted_none rfl) rfl rfl (gv_move rfl (hF.t rfl)) fun a hF => ?_)
    refine wpList_stp (stp_gv hF (wanted_none rfl) rfl rfl (gv_indexArr rfl Try.underlying49 Try.sz3 (hF.t rfl) (hF.t rfl) (by omega)) fun a hF => ?_)
    refine wpList_stp (stp_storeN ((invS i).1.1) hF (wanted_none rfl) rfl rfl Try.sz3 (hF.t rfl) (by omega) (hF.t rfl) hS (k := 0) rfl (by omega) fun w hS => ?_)
    refine wpList_nil ?_
    refine then_normal (hKq10 _ _ ?_)
    refine wp_seq_k fun Kq11 hKq11 => ?_
    -- region 8 (ref.go:28)
    refine wp_region_lit ?_
    refine wpList_stp (stp_gv hF (wanted_none rfl) rfl rfl (gv_move rfl (hF.t rfl)) fun a hF => ?_)
    refine wpList_stp (stp_call hF (wanted_none rfl) rfl rfl Try.ok18 rfl (Evs.cons (hF.t rfl) (Evs.cons (ev_const _ _) Evs.nil)) (times_ok hp (by decide)) fun e w h => ?_)
    obtain ⟨rfl, hx⟩ := h
    refine ⟨_, rfl, fun a hF => ?_⟩
    replace hS := hS.ext hx
    clear hx
    refine wpList_stp (stp_gv hF (wanted_none rfl) rfl rfl (gv_assign rfl (hF.t rfl)) fun a hF => ?_)
    refine wpList_nil ?_
    refine then_normal (hKq11 _ _ ?_)
    -- region 9 (ref.go:29)
    refine wp_region_lit ?_
    refine wpList_stp (stp_gv hF (wanted_none rfl) rfl rfl (gv_move rfl (hF.t rfl)) fun a hF => ?_)
    refine wpList_stp (stp_call hF (wanted_none rfl) rfl rfl Try.ok18 rfl (Evs.cons (hF.t rfl) (Evs.cons (ev_const _ _) Evs.nil)) (times_ok hq (by decide)) fun e w h => ?_)
    obtain ⟨rfl, hx⟩ := h
    refine ⟨_, rfl, fun a hF => ?_⟩
    replace hS := hS.ext hx
    clear hx
    refine wpList_stp (stp_gv hF (wanted_none rfl) rfl rfl (gv_assign rfl (hF.t rfl)) fun a hF => ?_)
    refine wpList_nil ?_
    refine block_normal ?_
    refine then_normal (hKq9 _ _ ?_)
    -- region 6 (ref.go:26)
    refine wp_region_lit ?_
    refine wpList_stp (stp_gv hF (wanted_none rfl) rfl rfl (gv_move rfl (hF.t rfl)) fun a hF => ?_)
    refine wpList_stp (stp_gv hF (wanted_none rfl) rfl rfl (gv_nadd (n := 1) rfl (hF.t rfl) rfl (by omega)) fun a hF => ?_)
    refine wpList_stp (stp_gv hF (wanted_none rfl) rfl rfl (gv_assign rfl (hF.t rfl)) fun a hF => ?_)
    refine wpList_nil ?_
    refine then_normal ?_
    exact ⟨n - 1, by omega, i + 1, by omega, by omega, hF.sub ⟨rfl, rfl, rfl, rfl, rfl, rfl, trivial⟩, hS⟩
  ·
    refine wp_exit ?_
    refine then_exit ?_
    refine then_exit ?_
    refine block_exit ?_
    refine then_normal (hKq5 _ _ ?_)
    refine wp_seq_k fun Kq12 hKq12 => ?_
    refine wp_seq_k fun Kq13 hKq13 => ?_
    -- region 10 (ref.go:31)
    refine wp_region_lit ?_
    refine wpList_stp (stp_gv hF (wanted_none rfl) rfl rfl (gv_assign rfl (ev_const _ _)) fun a hF => ?_)
    refine wpList_nil ?_
    refine then_normal (hKq13 _ _ ?_)
    refine wp_block ?_
    obtain rfl : i = 255 := by omega
    have hil : invL.length = 256 := (invS_ok 255).2.2.1
    rw [invS_255] at hS
    rw [← othT_zero] at hS
    refine wp_loop_n (fun n a w => ∃ i, i ≤ 256 ∧ n = 256 - i ∧ Fr 49 a [(0, .pointer (some ⟨res, 0, none⟩)), (1, .pointer (some ⟨t, 0, none⟩)), (2, .pointer (some ⟨inv, 0, none⟩)), (6, vI i)] ∧ St w0 w [⟨true, some inv, blkN 49 (invL)⟩, ⟨true, some t, blkN 49 (othT i)⟩, ⟨true, some res, blkN 49 (othT 0)⟩]) 256 ⟨0, by omega, by omega, hF.sub ⟨rfl, rfl, rfl, rfl, trivial⟩, hS⟩ ?_
    rintro n a w ⟨i, hi, hn, hF, hS⟩
    have hxi : invL.getD i 0 < 256 := getD_lt (invS_ok 255).2.2.2 i
    refine wp_seq_k fun Kq14 hKq14 => ?_
    refine wp_seq_k fun Kq15 hKq15 => ?_
    -- region 11 (ref.go:31)
    refine wp_region_lit ?_
    refine wpList_stp (stp_gv hF (wanted_none rfl) rfl rfl (gv_move rfl (hF.t rfl)) fun a hF => ?_)
    refine wpList_stp (stp_gv hF (wanted_none rfl) rfl rfl (gv_lss rfl (hF.t rfl) (ev_const _ _)) fun a hF => ?_)
    refine wpList_nil ?_
    refine then_normal (hKq15 _ _ ?_)
    refine cond_dec (hF.t rfl) (fun hc22 => ?_) (fun hc22 => ?_)
    ·
      refine wp_skip ?_
      refine then_normal (hKq14 _ _ ?_)
      refine wp_seq_k fun Kq16 hKq16 => ?_
      refine wp_block ?_
      refine wp_seq_k fun Kq17 hKq17 => ?_
      -- region 13 (ref.go:32)
      refine wp_region_lit ?_
      refine wpList_stp (stp_gv hF (wanted_none rfl) rfl rfl (gv_move rfl (hF.t rfl)) fun a hF => ?_)
      refine wpList_stp (stp_gv hF (wanted_none rfl) rfl rfl (gv_indexArr rfl Try.underlying49 Try.sz3 (hF.t rfl) (hF.t rfl) (by omega)) fun a hF => ?_)
      refine wpList_stp (stp_gv hF (wanted_none rfl) rfl rfl (gv_load rfl Try.underlying3 rfl (hF.t rfl) (cell_ix (hS.cellN (k := 0) rfl (i) (by omega)) (by omega))) fun a hF => ?_)
      refine wpList_stp (stp_gv hF (wanted_none rfl) rfl rfl (gv_assign rfl (hF.t rfl)) fun a hF => ?_)
      refine wpList_nil ?_
      refine then_normal (hKq17 _ _ ?_)
      refine wp_seq_k fun Kq18 hKq18 => ?_
      -- region 14 (ref.go:33)
      refine wp_region_lit ?_
      refine wpList_stp (stp_gv hF (wanted_none rfl) rfl rfl (gv_move rfl (hF.t rfl)) fun a hF => ?_)
      refine wpList_stp (stp_gv hF (wanted_none rfl) rfl rfl (gv_assign rfl (hF.t rfl)) fun a hF => ?_)
      refine wpList_nil ?_
      refine then_normal (hKq18 _ _ ?_)
      refine wp_seq_k fun Kq19 hKq19 => ?_
      refine wp_seq_k fun Kq20 hKq20 => ?_
      -- region 15 (ref.go:34)
      refine wp_region_lit ?_
      refine wpList_stp (stp_gv hF (wanted_none rfl) rfl rfl (gv_assign rfl (ev_const _ _)) fun a hF => ?_)
      refine wpList_nil ?_
      refine then_normal (hKq20 _ _ ?_)
      refine wp_block ?_
      refine wp_loop_n (fun q a w => ∃ k, k ≤ 4 ∧ q = 4 - k ∧ Fr 49 a [(0, .pointer (some ⟨res, 0, none⟩)), (1, .pointer (some ⟨t, 0, none⟩)), (2, .pointer (some ⟨inv, 0, none⟩)), (6, vI i), (7, vI (invL.getD i 0)), (8, vI (yk (invL.getD i 0) k)), (9, vI (k + 1))] ∧ St w0 w [⟨true, some inv, blkN 49 (invL)⟩, ⟨true, some t, blkN 49 (othT i)⟩, ⟨true, some res, blkN 49 (othT 0)⟩]) 4 ⟨0, by omega, by omega, hF.sub ⟨rfl, rfl, rfl, rfl, rfl, rfl, rfl, trivial⟩, hS⟩ ?_
      rintro q a w ⟨k, hk, hq, hF, hS⟩
      refine wp_seq_k fun Kq21 hKq21 => ?_
      refine wp_seq_k fun Kq22 hKq22 => ?_
      -- region 16 (ref.go:34)
      refine wp_region_lit ?_
      refine wpList_stp (stp_gv hF (wanted_none rfl) rfl rfl (gv_move rfl (hF.t rfl)) fun a hF => ?_)
      refine wpList_stp (stp_gv hF (wanted_none rfl) rfl rfl (gv_lss rfl (hF.t rfl) (ev_const _ _)) fun a hF => ?_)
      refine wpList_nil ?_
      refine then_normal (hKq22 _ _ ?_)
      refine cond_dec (hF.t rfl) (fun hc30 => ?_) (fun hc30 => ?_)
      ·
        refine wp_skip ?_
        refine then_normal (hKq21 _ _ ?_)
        refine wp_seq_k fun Kq23 hKq23 => ?_
        refine wp_block ?_
        -- region 18 (ref.go:35)
        refine Fw.wp_region_draw (by kernel_rfl) fun w hx => ?_
        replace hS := hS.ext hx
        clear hx
        refine run_head0 (n := 11) _ hF (by kernel_rfl) rfl ?_
        refine dw_gv hF rfl (wanted_none rfl) rfl rfl (fun w hx => gv_move rfl (hF.t rfl)) fun a hF => ?_
        refine dw_gv hF rfl (wanted_none rfl) rfl rfl (fun w hx => gv_move rfl (hF.t rfl)) fun a hF => ?_
        refine dw_gv hF rfl (wanted_none rfl) rfl rfl (fun w hx => gv_move rfl (hF.t rfl)) fun a hF => ?_
        refine dw_gv hF rfl (wanted_none rfl) rfl rfl (fun w hx => gv_n_shl (n := k + 1) rfl (hF.t rfl) (hF.t rfl) (by omega) (by have := shl_le hxi (k := k) (by omega); omega)) fun a hF => ?_
        refine dw_gv hF rfl (wanted_none rfl) rfl rfl (fun w hx => gv_n_and (n := 255) rfl (hF.t rfl) rfl (by have := shl_le hxi (k := k) (by omega); omega) (by omega)) fun a hF => ?_
        refine dw_gv hF rfl (wanted_none rfl) rfl rfl (fun w hx => gv_move rfl (hF.t rfl)) fun a hF => ?_
        refine dw_gv hF rfl (wanted_none rfl) rfl rfl (fun w hx => gv_move rfl (hF.t rfl)) fun a hF => ?_
        refine dw_gv hF rfl (wanted_none rfl) rfl rfl (fun w hx => gv_nsub (m := 8) rfl rfl (hF.t rfl) (by omega) (by omega)) fun a hF => ?_
        refine dw_gv hF rfl (wanted_none rfl) rfl rfl (fun w hx => gv_n_shr (n := 8 - (k + 1)) rfl (hF.t rfl) (hF.t rfl) (by omega)) fun a hF => ?_
        refine dw_gv hF rfl (wanted_none rfl) rfl rfl (fun w hx => gv_n_or rfl (hF.t rfl) (hF.t rfl) (Nat.lt_of_le_of_lt Nat.and_le_right (by omega)) (Nat.lt_of_le_of_lt (Nat.div_le_self _ _) (by omega))) fun a hF => ?_
        refine dw_gv hF rfl (wanted_none rfl) rfl rfl (fun w hx => gv_n_xor rfl (hF.t rfl) (hF.t rfl) (by have := yk_lt hxi k; omega) (by have : _ < _ := Nat.or_lt_two_pow (n := 8) (Nat.and_lt_two_pow (invL.getD i 0 * 2 ^ (k + 1)) (by decide : 255 < 2 ^ 8)) (Nat.lt_of_le_of_lt (Nat.div_le_self (invL.getD i 0) (2 ^ (8 - (k + 1)))) hxi); omega)) fun a hF => ?_
        refine dw_nil fun a w hA hx => ?_
        replace hF := hA _ hF
        replace hS := hS.ext hx
        clear hA hx
        refine run_stp (by kernel_rfl) rfl (stp_gv hF (wanted_none rfl) rfl rfl (gv_assign rfl (hF.t rfl)) fun a hF => ?_)
        refine run_done (by decide) ?_
        refine block_normal ?_
        refine then_normal (hKq23 _ _ ?_)
        -- region 17 (ref.go:34)
        refine wp_region_lit ?_
        refine wpList_stp (stp_gv hF (wanted_none rfl) rfl rfl (gv_move rfl (hF.t rfl)) fun a hF => ?_)
        refine wpList_stp (stp_gv hF (wanted_none rfl) rfl rfl (gv_nadd (n := 1) rfl (hF.t rfl) rfl (by omega)) fun a hF => ?_)
        refine wpList_stp (stp_gv hF (wanted_none rfl) rfl rfl (gv_assign rfl (hF.t rfl)) fun a hF => ?_)
        refine wpList_nil ?_
        refine then_normal ?_
        exact ⟨q - 1, by omega, k + 1, by omega, by omega, hF.sub ⟨rfl, rfl, rfl, rfl, rfl, rfl, rfl, trivial⟩, hS⟩
      ·
        refine wp_exit ?_
        refine then_exit ?_
        refine then_exit ?_
        refine block_exit ?_
        refine then_normal (hKq19 _ _ ?_)
        obtain rfl : k = 4 := by omega
        -- region 19 (ref.go:37)
        refine wp_region_lit ?_
        refine wpList_stp (stp_gv hF (wanted_none rfl) rfl rfl (gv_move rfl (hF.t rfl)) fun a hF => ?_)
        refine wpList_stp (stp_gv hF (wanted_none rfl) rfl rfl (gv_move rfl (hF.t rfl)) fun a hF => ?_)
        refine wpList_stp (stp_gv hF (wanted_none rfl) rfl rfl (gv_n_xor (n := 99) rfl (hF.t rfl) rfl (by have := yk_lt hxi 4; omega) (by omega)) fun a hF => ?_)
        refine wpList_stp (stp_gv hF (wanted_none rfl) rfl rfl (gv_indexArr rfl Try.underlying49 Try.sz3 (hF.t rfl) (hF.t rfl) (by omega)) fun a hF => ?_)
        refine wpList_stp (stp_storeN (i) hF (wanted_none rfl) rfl rfl Try.sz3 (hF.t rfl) (by omega) (hF.t rfl) hS (k := 1) rfl (by rw [othT_len]; omega) fun w hS => ?_)
        refine wpList_nil ?_
        refine block_normal ?_
        refine then_normal (hKq16 _ _ ?_)
        -- region 12 (ref.go:31)
        refine wp_region_lit ?_
        refine wpList_stp (stp_gv hF (wanted_none rfl) rfl rfl (gv_move rfl (hF.t rfl)) fun a hF => ?_)
        refine wpList_stp (stp_gv hF (wanted_none rfl) rfl rfl (gv_nadd (n := 1) rfl (hF.t rfl) rfl (by omega)) fun a hF => ?_)
        refine wpList_stp (stp_gv hF (wanted_none rfl) rfl rfl (gv_assign rfl (hF.t rfl)) fun a hF => ?_)
        refine wpList_nil ?_
        refine then_normal ?_
        exact ⟨n - 1, by omega, i + 1, by omega, by omega, hF.sub ⟨rfl, rfl, rfl, rfl, trivial⟩, by rw [othT_succ]; exact hS⟩
    ·
      refine wp_exit ?_
      refine then_exit ?_
      refine then_exit ?_
      refine block_exit ?_
      refine then_normal (hKq12 _ _ ?_)
      refine wp_seq_k fun Kq24 hKq24 => ?_
      obtain rfl : i = 256 := by omega
      -- region 20 (ref.go:39)
      refine wp_region_lit ?_
      refine wpList_stp (stp_gv hF (wanted_none rfl) rfl rfl (gv_loadAll rfl Try.underlying49 rfl (Try.sz49.trans (congrArg some (by simp [othT_len]))) (hF.t rfl) hS (k := 1) rfl) fun a hF => ?_)
      refine wpList_stp (stp_storeAll hF (wanted_none rfl) rfl rfl (Try.sz49.trans (congrArg some (by simp [othT_len]))) (hF.t rfl) (hF.t rfl) (one_N _) hS (k := 2) rfl (by simp [othT_len]) fun w hS => ?_)
      refine wpList_nil ?_
      refine then_normal (hKq24 _ _ ?_)
      refine wp_ret ?_
      refine retCell (fn := Try.f17) hF rfl Try.underlying49 rfl (Try.sz49.trans (congrArg some (by simp [othT_len]))) rfl hS (k := 2) rfl ⟨rfl, hS.toExt (by simp)⟩


end Go.Proofs.Ytfhalnobaeogkaa
