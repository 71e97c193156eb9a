/- What is proved: the contracts of cipher.New, Block, Turn. -/
import Derived.Test.YtfhalnobaeogkaaDoorProg
import Derived.Test.YtfhalnobaeogkaaDoorFwSep
import Derived.KernelRfl
import Derived.Test.YtfhalnobaeogkaaDoorLeaf
set_option linter.unusedVariables false
set_option linter.unusedSimpArgs false
namespace Go.Proofs.YtfhalnobaeogkaaDoor
open Go Go.RowKit Go.Fw

theorem Tryd.sz22 : (Tryd.prog.info? 22).map (·.size) = some 1 := by kernel_rfl
theorem Tryd.sz126 : (Tryd.prog.info? 126).map (·.size) = some 4 := by kernel_rfl
theorem Tryd.sz127 : (Tryd.prog.info? 127).map (·.size) = some 16 := by kernel_rfl
theorem Tryd.sz128 : (Tryd.prog.info? 128).map (·.size) = some 176 := by kernel_rfl
theorem Tryd.sz129 : (Tryd.prog.info? 129).map (·.size) = some 16 := by kernel_rfl
theorem Tryd.sz131 : (Tryd.prog.info? 131).map (·.size) = some 193 := by kernel_rfl
theorem Tryd.zv126 : (Tryd.prog.info? 126).map (·.zero) = some (some (Value.agg ((List.replicate 4 (0 : UInt8)).map vB).toArray)) := by kernel_rfl
theorem Tryd.zv127 : (Tryd.prog.info? 127).map (·.zero) = some (some (Value.agg ((List.replicate 16 (0 : UInt8)).map vB).toArray)) := by kernel_rfl
theorem Tryd.zv129 : (Tryd.prog.info? 129).map (·.zero) = some (some (Value.agg ((List.replicate 16 (0 : UInt8)).map vB).toArray)) := by kernel_rfl
theorem Tryd.zv131 : (Tryd.prog.info? 131).map (·.zero) = some (some (Value.agg (((List.replicate 176 (0 : UInt8)).map vB) ++ ((List.replicate 16 (0 : UInt8)).map vB) ++ [Value.slice none 0 0]).toArray)) := by kernel_rfl
theorem Tryd.ty5 : Ty Tryd.prog 5 (Value.int .u8 0) 1 1 := ⟨by kernel_rfl⟩
theorem Tryd.ok66 : CallOk Tryd.prog 66 := ⟨_, Tryd.func66, by kernel_rfl, by kernel_rfl⟩
theorem Tryd.ok69 : CallOk Tryd.prog 69 := ⟨_, Tryd.func69, by kernel_rfl, by kernel_rfl⟩
theorem Tryd.ok70 : CallOk Tryd.prog 70 := ⟨_, Tryd.func70, by kernel_rfl, by kernel_rfl⟩


/-- A stream in memory: keys, counter, what is left of a block. -/
abbrev strm (K C : List UInt8) (v : Value) : Obj := blk 131 (K.map vB ++ (C.map vB ++ [v]))
def K1 (kl : List UInt8) : Nat → List UInt8
  | 0 => List.replicate 176 0
  | i + 1 => (K1 kl i).set i (kl.getD i 0)
theorem K1_len (kl : List UInt8) (i : Nat) : (K1 kl i).length = 176 := by induction i with
  | zero => exact List.length_replicate
  | succ i ih => rw [K1, List.length_set, ih]
def xw (K t : List UInt8) (o : Nat) : Nat → List UInt8
  | 0 => t
  | i + 1 => (xw K t o i).set i ((xw K t o i).getD i 0 ^^^ K.getD (o + i) 0)
theorem xw_len (K t : List UInt8) (o i : Nat) : (xw K t o i).length = t.length := by induction i with
  | zero => rfl
  | succ i ih => simp [xw, ih]
def cols (K t : List UInt8) (r : Nat) : Nat → List UInt8 × List UInt8
  | 0 => (K, t)
  | c + 1 => (splice (cols K t r c).1 ((r + 1) * 16 + c * 4) (xw (cols K t r c).1 (cols K t r c).2 (r * 16 + c * 4) 4), xw (cols K t r c).1 (cols K t r c).2 (r * 16 + c * 4) 4)
theorem cols_len {K t : List UInt8} {r : Nat} (hK : K.length = 176) (ht : t.length = 4) (hr : r < 10) : ∀ c, c ≤ 4 → (cols K t r c).1.length = 176 ∧ (cols K t r c).2.length = 4
  | 0, _ => ⟨hK, ht⟩
  | c + 1, h => by
    obtain ⟨h1, h2⟩ := cols_len hK ht hr c (by omega)
    refine ⟨?_, by simp only [cols, xw_len, h2]⟩
    simp only [cols]
    rw [splice_len (by rw [xw_len, h1, h2]; omega), h1]
def t0 (K : List UInt8) (r : Nat) (x : UInt8) : List UInt8 :=
  [sb (((K.drop (r * 16 + 12)).take 4).getD 1 0) ^^^ x, sb (((K.drop (r * 16 + 12)).take 4).getD 2 0), sb (((K.drop (r * 16 + 12)).take 4).getD 3 0), sb (((K.drop (r * 16 + 12)).take 4).getD 0 0)]
def rcon : Nat → UInt8
  | 0 => 1
  | r + 1 => dbl (rcon r)
def keysR (kl : List UInt8) : Nat → List UInt8
  | 0 => K1 kl 16
  | r + 1 => (cols (keysR kl r) (t0 (keysR kl r) r (rcon r)) r 4).1
theorem keysR_zero (kl : List UInt8) : keysR kl 0 = K1 kl 16 := rfl
theorem keysR_succ (kl : List UInt8) (r : Nat) : keysR kl (r + 1) = (cols (keysR kl r) (t0 (keysR kl r) r (rcon r)) r 4).1 := rfl
theorem keysR_len (kl : List UInt8) : ∀ r, r ≤ 10 → (keysR kl r).length = 176
  | 0, _ => K1_len kl 16
  | r + 1, h => (cols_len (keysR_len kl r (by omega)) rfl (by omega) 4 (by omega)).1
def keys (kl : List UInt8) : List UInt8 := keysR kl 10
theorem keys_len (kl : List UInt8) : (keys kl).length = 176 := keysR_len kl 10 (by omega)
theorem build_strm {cl : List UInt8} (h : cl.length = 16) (w : World) : (Instr.build 131 #[(1, .agg (cl.map vB).toArray)]).run Tryd.prog w = .ok (.agg ((List.replicate 176 (0 : UInt8)).map vB ++ (cl.map vB ++ [Value.slice none 0 0])).toArray) w := by
  refine run_buildStr (pl := [(1, .agg (cl.map vB).toArray)]) (places := #[(0, 176), (176, 16), (192, 1)]) Tryd.underlying131 Tryd.zv131 rfl (fun w => ?_) ?_
  · simp [Fw.run_sizeOf Tryd.sz128, Fw.run_sizeOf Tryd.sz129, Fw.run_sizeOf Tryd.sz22]
  · obtain ⟨X, hX, hXl⟩ : ∃ X, X = (List.replicate 176 (0 : UInt8)).map vB ∧ X.length = 176 := ⟨_, rfl, by rw [List.length_map, List.length_replicate]⟩
    obtain ⟨Y, hY, hYl⟩ : ∃ Y, Y = (List.replicate 16 (0 : UInt8)).map vB ∧ Y.length = 16 := ⟨_, rfl, by rw [List.length_map, List.length_replicate]⟩
    rw [← hX, ← hY]
    show Instr.fill _ (X ++ Y ++ [Value.slice none 0 0]).toArray _ = _
    rw [List.append_assoc]
    rw [fill_cons (vs := cl.map vB) (off := 176) (by simp [h]) rfl (by simp [h, hXl, hYl]), fill_nil]
    congr 2
    unfold splice
    have hc : (cl.map vB).length = 16 := by simp [h]
    simp only [List.append_assoc]
    rw [List.take_left' hXl, hc, show 176 + 16 = X.length + 16 by omega, List.drop_append, show X.length + 16 - X.length = Y.length by omega, List.drop_left, List.drop_eq_nil_of_le (by omega)]
    rfl


theorem new_ok {kv cv : Value} {kl cl : List UInt8} {w0 : World} (hkv : Rd w0 kv (kl.map vB)) (hcv : Rd w0 cv (cl.map vB)) (hk : kl.length = 16) (hc : cl.length = 16) :
    Calls Tryd.prog 52 #[kv, cv] w0 fun e w' => ∃ b, e = .returned (.tuple #[.pointer (some ⟨b, 0, none⟩), .int .i64 0]) ∧ St w0 w' [⟨true, some b, strm (keys kl) cl (.slice none 0 0)⟩] := by
  obtain ⟨Ak, ck, rfl, hk1, hk2, hkc⟩ := hkv.isB
  obtain ⟨Ac, cc, rfl, hc1, hc2, hcc⟩ := hcv.isB
  obtain ⟨bk, ok, rfl, hkc⟩ := hkc (by omega)
  obtain ⟨bc, oc, rfl, hcc⟩ := hcc (by omega)
  rw [hk] at hkv hk1 hkc ⊢
  rw [hc] at hcv hc1 hcc ⊢
  refine calls_start 113 Tryd.func52 rfl Tryd.ntmps52 rfl fun a hF => ?_
  have hS := St.refl w0
  refine wp_seq_k fun Kq1 hKq1 => ?_
  -- region 0 (cipher.go:44)
  refine wp_region_lit ?_
  refine wpList_stp (stp_gv hF (wanted_none rfl) rfl rfl (gv_assign rfl (ev_const _ _)) fun a hF => ?_)
  refine wpList_stp (stp_gv hF (wanted_none rfl) rfl rfl (gv_assign rfl (ev_const _ _)) fun a hF => ?_)
  refine wpList_nil ?_
  refine then_normal (hKq1 _ _ ?_)
  refine wp_seq_k fun Kq2 hKq2 => ?_
  refine wp_seq_k fun Kq3 hKq3 => ?_
  -- region 1 (cipher.go:45)
  refine wp_region_lit ?_
  refine wpList_stp (stp_gv hF (wanted_none rfl) rfl rfl (gv_move rfl (hF.t rfl)) fun a hF => ?_)
  refine wpList_stp (stp_gv hF (wanted_none rfl) rfl rfl (gv_len rfl Tryd.underlying22 (hF.t rfl)) fun a hF => ?_)
  refine wpList_stp (stp_gv hF (wanted_none rfl) rfl rfl (gv_neq rfl (hF.t rfl) (ev_const _ _)) fun a hF => ?_)
  refine wpList_stp (stp_gv hF (wanted_none rfl) rfl rfl (gv_move rfl (hF.t rfl)) fun a hF => ?_)
  refine wpList_stp (stp_gv hF (wanted_of hF rfl rfl (rfl)) rfl rfl (gv_move rfl (hF.t rfl)) fun a hF => ?_)
  refine wpList_stp (stp_gv hF (wanted_of hF rfl rfl (rfl)) rfl rfl (gv_len rfl Tryd.underlying22 (hF.t rfl)) fun a hF => ?_)
  refine wpList_stp (stp_gv hF (wanted_of hF rfl rfl (rfl)) rfl rfl (gv_neq rfl (hF.t rfl) (ev_const _ _)) fun a hF => ?_)
  refine wpList_stp (stp_gv hF (wanted_none rfl) rfl rfl (gv_pickF rfl (hF.t rfl) (hF.t rfl)) fun a hF => ?_)
  refine wpList_nil ?_
  refine then_normal (hKq3 _ _ ?_)
  refine wp_cond_false (hF.t rfl) ?_
  refine wp_skip ?_
  refine then_normal (hKq2 _ _ ?_)
  refine wp_seq_k fun Kq4 hKq4 => ?_
  -- region 3 (cipher.go:48)
  refine wp_region_lit ?_
  refine wpList_stp (stp_gv hF (wanted_none rfl) rfl rfl (gv_move rfl (hF.t rfl)) fun a hF => ?_)
  refine wpList_stp (stp_gv hF (wanted_none rfl) rfl rfl (gv_toArr rfl Tryd.underlying129 (hF.t rfl) (by omega)) fun a hF => ?_)
  refine wpList_stp (stp_gv hF (wanted_none rfl) rfl rfl (gv_loadAgg (vs := cl.map vB) rfl Tryd.underlying129 rfl (Tryd.sz129.trans (congrArg some (by simp [hc]))) (hF.t rfl) (fun j u hu => (hcv.ext (hS.toExt (by simp))).rdcell hu)) fun a hF => ?_)
  refine wpList_stp (stp_gv hF (wanted_none rfl) rfl rfl (gv_build rfl (EvP.map (EvP.cons (hF.t rfl) EvP.nil)) (build_strm hc _)) fun a hF => ?_)
  refine wpList_stp (stp_box hF (wanted_none rfl) rfl rfl rfl (hF.t rfl) rfl hS fun s a w hF hS => ?_)
  refine wpList_stp (stp_gv hF (wanted_none rfl) rfl rfl (gv_assign rfl (hF.t rfl)) fun a hF => ?_)
  refine wpList_nil ?_
  refine then_normal (hKq4 _ _ ?_)
  refine wp_seq_k fun Kq5 hKq5 => ?_
  refine wp_seq_k fun Kq6 hKq6 => ?_
  -- region 4 (cipher.go:49)
  refine wp_region_lit ?_
  refine wpList_stp (stp_gv hF (wanted_none rfl) rfl rfl (gv_move rfl (hF.t rfl)) fun a hF => ?_)
  refine wpList_stp (stp_gv hF (wanted_none rfl) rfl rfl (gv_len rfl Tryd.underlying22 (hF.t rfl)) fun a hF => ?_)
  refine wpList_stp (stp_gv hF (wanted_none rfl) rfl rfl (gv_move rfl (ev_const _ _)) fun a hF => ?_)
  refine wpList_nil ?_
  refine then_normal (hKq6 _ _ ?_)
  refine wp_block ?_
  refine wp_loop_n (fun n a w => ∃ k, k ≤ 16 ∧ n = 16 - k ∧ Fr 113 a [(6, .pointer (some ⟨s, 0, none⟩)), (28, .slice (some ⟨bk, ok, none⟩) 16 ck), (29, vI 16), (30, vI k)] ∧ St w0 w [⟨true, some s, strm (K1 kl k) cl (.slice none 0 0)⟩]) 16 ⟨0, by omega, by omega, hF.sub ⟨rfl, rfl, rfl, rfl, trivial⟩, hS⟩ ?_
  rintro n a w ⟨k, hk16, hn, hF, hS⟩
  refine wp_seq_k fun Kq7 hKq7 => ?_
  -- region 5 (cipher.go:49)
  refine wp_region_lit ?_
  refine wpList_stp (stp_gv hF (wanted_none rfl) rfl rfl (gv_lss rfl (hF.t rfl) (hF.t rfl)) fun a hF => ?_)
  refine wpList_nil ?_
  refine then_normal (hKq7 _ _ ?_)
  refine wp_seq_k fun Kq8 hKq8 => ?_
  refine cond_dec (hF.t rfl) (fun hc31 => ?_) (fun hc31 => ?_)
  ·
    refine wp_skip ?_
    refine then_normal (hKq8 _ _ ?_)
    refine wp_seq_k fun Kq9 hKq9 => ?_
    refine wp_block ?_
    refine wp_seq_k fun Kq10 hKq10 => ?_
    -- region 6 (cipher.go:49)
    refine wp_region_lit ?_
    refine wpList_stp (stp_gv hF (wanted_none rfl) rfl rfl (gv_move rfl (hF.t rfl)) fun a hF => ?_)
    refine wpList_stp (stp_gv hF (wanted_none rfl) rfl rfl (gv_indexSl rfl Tryd.underlying22 Tryd.sz5 (hF.t rfl) (hF.t rfl) (by omega)) fun a hF => ?_)
    refine wpList_stp (stp_gv hF (wanted_none rfl) rfl rfl (gv_load rfl Tryd.underlying5 rfl (hF.t rfl) (cell_ix ((hkv.ext (hS.toExt (by simp))).cellB k (by omega)) (by omega))) fun a hF => ?_)
    refine wpList_stp (stp_gv hF (wanted_none rfl) rfl rfl (gv_assign rfl (hF.t rfl)) fun a hF => ?_)
    refine wpList_stp (stp_gv hF (wanted_none rfl) rfl rfl (gv_assign rfl (hF.t rfl)) fun a hF => ?_)
    refine wpList_nil ?_
    refine then_normal (hKq10 _ _ ?_)
    -- region 7 (cipher.go:50)
    refine wp_region_lit ?_
    refine wpList_stp (stp_gv hF (wanted_none rfl) rfl rfl (gv_move rfl (hF.t rfl)) fun a hF => ?_)
    refine wpList_stp (stp_gv hF (wanted_none rfl) rfl rfl (gv_move rfl (hF.t rfl)) fun a hF => ?_)
    refine wpList_stp (stp_gv hF (wanted_none rfl) rfl rfl (gv_nquo (n := 4) rfl (hF.t rfl) rfl (by omega) (by omega)) fun a hF => ?_)
    refine wpList_stp (stp_gv hF (wanted_none rfl) rfl rfl (gv_move rfl (hF.t rfl)) fun a hF => ?_)
    refine wpList_stp (stp_gv hF (wanted_none rfl) rfl rfl (gv_nrem (n := 4) rfl (hF.t rfl) rfl (by omega)) fun a hF => ?_)
    refine wpList_stp (stp_gv hF (wanted_none rfl) rfl rfl (gv_move rfl (hF.t rfl)) fun a hF => ?_)
    refine wpList_stp (stp_gv hF (wanted_none rfl) rfl rfl (gv_nilCheck rfl (hF.t rfl)) fun a hF => ?_)
    refine wpList_stp (stp_gv hF (wanted_none rfl) rfl rfl (gv_field (r := 0) rfl Tryd.underlying131 rfl rfl Tryd.sz128 (by decide) (hF.t rfl)) fun a hF => ?_)
    refine wpList_stp (stp_gv hF (wanted_none rfl) rfl rfl (gv_indexArr (q := 0) rfl Tryd.underlying128 Tryd.sz127 (hF.t rfl) rfl (by omega)) fun a hF => ?_)
    refine wpList_stp (stp_gv hF (wanted_none rfl) rfl rfl (gv_indexArr rfl Tryd.underlying127 Tryd.sz126 (hF.t rfl) (hF.t rfl) (by omega)) fun a hF => ?_)
    refine wpList_stp (stp_gv hF (wanted_none rfl) rfl rfl (gv_indexArr rfl Tryd.underlying126 Tryd.sz5 (hF.t rfl) (hF.t rfl) (by omega)) fun a hF => ?_)
    refine wpList_stp (stp_storeAt (k) hF (wanted_none rfl) rfl rfl Tryd.sz5 (hF.t rfl) (by omega) (hF.t rfl) rfl hS (k := 0) rfl (by simp [K1_len]; omega) fun w hS => ?_)
    rw [set_map (by rw [K1_len]; omega)] at hS
    refine wpList_nil ?_
    refine block_normal ?_
    refine then_normal (hKq9 _ _ ?_)
    -- region 8 (cipher.go:49)
    refine wp_region_lit ?_
    refine wpList_stp (stp_gv hF (wanted_none rfl) rfl rfl (gv_nadd (n := 1) rfl (hF.t rfl) rfl (by omega)) fun a hF => ?_)
    refine wpList_stp (stp_gv hF (wanted_none rfl) rfl rfl (gv_move rfl (hF.t rfl)) fun a hF => ?_)
    refine wpList_nil ?_
    refine then_normal ?_
    exact ⟨n - 1, by omega, k + 1, by omega, by omega, hF.sub ⟨rfl, rfl, rfl, rfl, trivial⟩, hS⟩
  ·
    refine wp_exit ?_
    refine then_exit ?_
    refine then_exit ?_
    refine block_exit ?_
    refine then_normal (hKq5 _ _ ?_)
    refine wp_seq_k fun Kq11 hKq11 => ?_
    -- region 9 (cipher.go:52)
    refine wp_region_lit ?_
    refine wpList_stp (stp_gv hF (wanted_none rfl) rfl rfl (gv_assign rfl (ev_const _ _)) fun a hF => ?_)
    refine wpList_nil ?_
    refine then_normal (hKq11 _ _ ?_)
    refine wp_seq_k fun Kq12 hKq12 => ?_
    refine wp_seq_k fun Kq13 hKq13 => ?_
    -- region 10 (cipher.go:53)
    refine wp_region_lit ?_
    refine wpList_stp (stp_gv hF (wanted_none rfl) rfl rfl (gv_assign rfl (ev_const _ _)) fun a hF => ?_)
    refine wpList_nil ?_
    refine then_normal (hKq13 _ _ ?_)
    refine wp_block ?_
    obtain rfl : k = 16 := by omega
    refine wp_loop_n (fun n a w => ∃ r, r ≤ 10 ∧ n = 10 - r ∧ Fr 113 a [(6, .pointer (some ⟨s, 0, none⟩)), (9, vB (rcon r)), (10, vI (r + 1))] ∧ St w0 w [⟨true, some s, strm (keysR kl r) cl (.slice none 0 0)⟩]) 10 ⟨0, by omega, by omega, hF.sub ⟨rfl, rfl, rfl, trivial⟩, by rw [keysR_zero]; exact hS⟩ ?_
    rintro n a w ⟨r, hr, hnr, hF, hS⟩
    have hKl := keysR_len kl r hr
    refine wp_seq_k fun Kq14 hKq14 => ?_
    refine wp_seq_k fun Kq15 hKq15 => ?_
    -- region 11 (cipher.go:53)
    refine wp_region_lit ?_
    refine wpList_stp (stp_gv hF (wanted_none rfl) rfl rfl (gv_move rfl (hF.t rfl)) fun a hF => ?_)
    refine wpList_stp (stp_gv hF (wanted_none rfl) rfl rfl (gv_lss rfl (hF.t rfl) (ev_const _ _)) fun a hF => ?_)
    refine wpList_nil ?_
    refine then_normal (hKq15 _ _ ?_)
    refine cond_dec (hF.t rfl) (fun hc48 => ?_) (fun hc48 => ?_)
    ·
      refine wp_skip ?_
      refine then_normal (hKq14 _ _ ?_)
      refine wp_seq_k fun Kq16 hKq16 => ?_
      refine wp_block ?_
      refine wp_seq_k fun Kq17 hKq17 => ?_
      -- region 13 (cipher.go:54)
      refine wp_region_lit ?_
      refine wpList_stp (stp_gv hF (wanted_none rfl) rfl rfl (gv_move rfl (hF.t rfl)) fun a hF => ?_)
      refine wpList_stp (stp_gv hF (wanted_none rfl) rfl rfl (gv_move rfl (hF.t rfl)) fun a hF => ?_)
      refine wpList_stp (stp_gv hF (wanted_none rfl) rfl rfl (gv_nsub (n := 1) rfl (hF.t rfl) rfl (by omega) (by omega)) fun a hF => ?_)
      refine wpList_stp (stp_gv hF (wanted_none rfl) rfl rfl (gv_nilCheck rfl (hF.t rfl)) fun a hF => ?_)
      refine wpList_stp (stp_gv hF (wanted_none rfl) rfl rfl (gv_field (r := 0) rfl Tryd.underlying131 rfl rfl Tryd.sz128 (by decide) (hF.t rfl)) fun a hF => ?_)
      refine wpList_stp (stp_gv hF (wanted_none rfl) rfl rfl (gv_indexArr rfl Tryd.underlying128 Tryd.sz127 (hF.t rfl) (hF.t rfl) (by omega)) fun a hF => ?_)
      refine wpList_stp (stp_gv hF (wanted_none rfl) rfl rfl (gv_indexArr (q := 3) rfl Tryd.underlying127 Tryd.sz126 (hF.t rfl) rfl (by omega)) fun a hF => ?_)
      refine wpList_stp (stp_gv hF (wanted_none rfl) rfl rfl (gv_loadPartAt (j := r * 16 + 12) (vs := ((((keysR kl r).drop (r * 16 + 12)).take 4).map vB)) rfl Tryd.underlying126 rfl (Tryd.sz126.trans (congrArg some (by rw [part_len (by omega)]))) (hF.t rfl) (by omega) hS (k := 0) rfl (part_map (by omega))) fun a hF => ?_)
      refine wpList_stp (stp_alloc hF (wanted_none rfl) rfl rfl rfl Tryd.zv126 rfl hS fun l a w hF hS => ?_)
      refine wpList_stp (stp_storeAll hF (wanted_none rfl) rfl rfl (Tryd.sz126.trans (congrArg some (by rw [part_len (by omega)]))) (hF.t rfl) (hF.t rfl) (one_B _) hS (k := 0) rfl (by rw [part_len (by omega)]; rfl) fun w hS => ?_)
      refine wpList_nil ?_
      refine then_normal (hKq17 _ _ ?_)
      refine wp_seq_k fun Kq18 hKq18 => ?_
      -- region 14 (cipher.go:55)
      refine Fw.wp_region_draw (by kernel_rfl) fun w hx => ?_
      replace hS := hS.ext hx
      clear hx
      refine run_head1 (n := 20) _ 19 12 _ (FlB w 126 ((List.replicate 4 (0 : UInt8)).map vB)) hF (by kernel_rfl) rfl rfl rfl (FlB.lasts w 126 ((List.replicate 4 (0 : UInt8)).map vB)) ?_ (by omega) (by omega)
      refine dw_call hF rfl (wanted_none rfl) rfl rfl Tryd.ok69 rfl Evs.nil (fun w hx => swap_any _) fun a hF => ?_
      refine dw_gv hF rfl (wanted_none rfl) rfl rfl (fun w hx => gv_indexArr (q := 1) rfl Tryd.underlying126 Tryd.sz5 (hF.t rfl) rfl (by omega)) fun a hF => ?_
      refine dw_gv hF rfl (wanted_none rfl) rfl rfl (fun w hx => gv_load rfl Tryd.underlying5 rfl (hF.t rfl) (cell_ix ((hS.ext hx).cellB (k := 0) rfl (1) (by simp [hKl]; omega)) (by omega))) fun a hF => ?_
      refine dw_gv hF rfl (wanted_none rfl) rfl rfl (fun w hx => gv_indexAggB rfl Tryd.underlying136 Tryd.underlying5 rfl Tryd.sz5 (hF.t rfl) (hF.t rfl) (UInt8.toNat_lt _) (sw_at _)) fun a hF => ?_
      refine dw_gv hF rfl (wanted_none rfl) rfl rfl (fun w hx => gv_move rfl (hF.t rfl)) fun a hF => ?_
      refine dw_gv hF rfl (wanted_none rfl) rfl rfl (fun w hx => gv_b_xor rfl (hF.t rfl) (hF.t rfl)) fun a hF => ?_
      refine dw_call hF rfl (wanted_none rfl) rfl rfl Tryd.ok69 rfl Evs.nil (fun w hx => swap_any _) fun a hF => ?_
      refine dw_gv hF rfl (wanted_none rfl) rfl rfl (fun w hx => gv_indexArr (q := 2) rfl Tryd.underlying126 Tryd.sz5 (hF.t rfl) rfl (by omega)) fun a hF => ?_
      refine dw_gv hF rfl (wanted_none rfl) rfl rfl (fun w hx => gv_load rfl Tryd.underlying5 rfl (hF.t rfl) (cell_ix ((hS.ext hx).cellB (k := 0) rfl (2) (by simp [hKl]; omega)) (by omega))) fun a hF => ?_
      refine dw_gv hF rfl (wanted_none rfl) rfl rfl (fun w hx => gv_indexAggB rfl Tryd.underlying136 Tryd.underlying5 rfl Tryd.sz5 (hF.t rfl) (hF.t rfl) (UInt8.toNat_lt _) (sw_at _)) fun a hF => ?_
      refine dw_call hF rfl (wanted_none rfl) rfl rfl Tryd.ok69 rfl Evs.nil (fun w hx => swap_any _) fun a hF => ?_
      refine dw_gv hF rfl (wanted_none rfl) rfl rfl (fun w hx => gv_indexArr (q := 3) rfl Tryd.underlying126 Tryd.sz5 (hF.t rfl) rfl (by omega)) fun a hF => ?_
      refine dw_gv hF rfl (wanted_none rfl) rfl rfl (fun w hx => gv_load rfl Tryd.underlying5 rfl (hF.t rfl) (cell_ix ((hS.ext hx).cellB (k := 0) rfl (3) (by simp [hKl]; omega)) (by omega))) fun a hF => ?_
      refine dw_gv hF rfl (wanted_none rfl) rfl rfl (fun w hx => gv_indexAggB rfl Tryd.underlying136 Tryd.underlying5 rfl Tryd.sz5 (hF.t rfl) (hF.t rfl) (UInt8.toNat_lt _) (sw_at _)) fun a hF => ?_
      refine dw_call hF rfl (wanted_none rfl) rfl rfl Tryd.ok69 rfl Evs.nil (fun w hx => swap_any _) fun a hF => ?_
      refine dw_gv hF rfl (wanted_none rfl) rfl rfl (fun w hx => gv_indexArr (q := 0) rfl Tryd.underlying126 Tryd.sz5 (hF.t rfl) rfl (by omega)) fun a hF => ?_
      refine dw_gv hF rfl (wanted_none rfl) rfl rfl (fun w hx => gv_load rfl Tryd.underlying5 rfl (hF.t rfl) (cell_ix ((hS.ext hx).cellB (k := 0) rfl (0) (by simp [hKl]; omega)) (by omega))) fun a hF => ?_
      refine dw_gv hF rfl (wanted_none rfl) rfl rfl (fun w hx => gv_indexAggB rfl Tryd.underlying136 Tryd.underlying5 rfl Tryd.sz5 (hF.t rfl) (hF.t rfl) (UInt8.toNat_lt _) (sw_at _)) fun a hF => ?_
      refine dw_gv hF rfl (wanted_none rfl) rfl rfl (fun w hx => gv_build rfl (EvP.map (EvP.cons (hF.t rfl) (EvP.cons (hF.t rfl) (EvP.cons (hF.t rfl) (EvP.cons (hF.t rfl) EvP.nil))))) (run_buildArr (cs := ((t0 (keysR kl r) r (rcon r)).map vB).toArray) Tryd.underlying126 Tryd.sz5 Tryd.zv126 rfl (by rfl))) fun a hF => ?_
      refine dw_fl rfl ?_
      refine dw_nil ⟨fo_alloc rfl Tryd.zv126 rfl, fun a w v hR hA hx => ?_⟩
      obtain ⟨tt, rfl, hR1, hR2⟩ := hR
      replace hF := hA _ hF
      replace hS := hS.float hx hR1 hR2
      clear hA hx hR1 hR2
      refine run_stp (by kernel_rfl) rfl (stp_storeAll hF (wanted_none rfl) rfl rfl (Tryd.sz126.trans (congrArg some (by rfl))) (hF.t rfl) (hF.t rfl) (one_B _) hS (k := 0) rfl (by rfl) fun w hS => ?_)
      refine run_done (by decide) ?_
      refine then_normal (hKq18 _ _ ?_)
      refine wp_seq_k fun Kq19 hKq19 => ?_
      -- region 15 (cipher.go:56)
      refine wp_region_lit ?_
      refine wpList_stp (stp_gv hF (wanted_none rfl) rfl rfl (gv_move rfl (hF.t rfl)) fun a hF => ?_)
      refine wpList_stp (stp_call hF (wanted_none rfl) rfl rfl Tryd.ok70 rfl (Evs.cons (hF.t rfl) Evs.nil) (double_any _ _) fun e w h => ?_)
      obtain ⟨rfl, hx⟩ := h
      refine ⟨_, rfl, fun a hF => ?_⟩
      replace hS := hS.ext hx
      clear hx
      refine wpList_stp (stp_gv hF (wanted_none rfl) rfl rfl (gv_assign rfl (hF.t rfl)) fun a hF => ?_)
      refine wpList_nil ?_
      refine then_normal (hKq19 _ _ ?_)
      refine wp_seq_k fun Kq20 hKq20 => ?_
      -- region 16 (cipher.go:57)
      refine wp_region_lit ?_
      refine wpList_stp (stp_gv hF (wanted_none rfl) rfl rfl (gv_move rfl (ev_const _ _)) fun a hF => ?_)
      refine wpList_nil ?_
      refine then_normal (hKq20 _ _ ?_)
      refine wp_block ?_
      refine wp_loop_n (fun m a w => ∃ c, c ≤ 4 ∧ m = 4 - c ∧ Fr 113 a [(6, .pointer (some ⟨s, 0, none⟩)), (9, vB (rcon (r + 1))), (10, vI (r + 1)), (12, .pointer (some ⟨tt, 0, none⟩)), (80, vI c)] ∧ St w0 w [⟨true, some tt, blkB 126 (cols (keysR kl r) (t0 (keysR kl r) r (rcon r)) r c).2⟩, ⟨true, some s, strm (cols (keysR kl r) (t0 (keysR kl r) r (rcon r)) r c).1 cl (.slice none 0 0)⟩]) 4 ⟨0, by omega, by omega, hF.sub ⟨rfl, rfl, rfl, rfl, rfl, trivial⟩, hS.drop2 rfl⟩ ?_
      rintro m a w ⟨c, hc4, hm, hF, hS⟩
      have hC := cols_len (t := t0 (keysR kl r) r (rcon r)) (r := r) hKl rfl (by omega) c (by omega)
      refine wp_seq_k fun Kq21 hKq21 => ?_
      -- region 17 (cipher.go:57)
      refine wp_region_lit ?_
      refine wpList_stp (stp_gv hF (wanted_none rfl) rfl rfl (gv_lss rfl (hF.t rfl) (ev_const _ _)) fun a hF => ?_)
      refine wpList_nil ?_
      refine then_normal (hKq21 _ _ ?_)
      refine wp_seq_k fun Kq22 hKq22 => ?_
      refine cond_dec (hF.t rfl) (fun hc81 => ?_) (fun hc81 => ?_)
      ·
        refine wp_skip ?_
        refine then_normal (hKq22 _ _ ?_)
        refine wp_seq_k fun Kq23 hKq23 => ?_
        refine wp_block ?_
        refine wp_seq_k fun Kq24 hKq24 => ?_
        -- region 18 (cipher.go:57)
        refine wp_region_lit ?_
        refine wpList_stp (stp_gv hF (wanted_none rfl) rfl rfl (gv_move rfl (hF.t rfl)) fun a hF => ?_)
        refine wpList_stp (stp_gv hF (wanted_none rfl) rfl rfl (gv_assign rfl (hF.t rfl)) fun a hF => ?_)
        refine wpList_nil ?_
        refine then_normal (hKq24 _ _ ?_)
        refine wp_seq_k fun Kq25 hKq25 => ?_
        refine wp_seq_k fun Kq26 hKq26 => ?_
        -- region 19 (cipher.go:58)
        refine wp_region_lit ?_
        refine wpList_stp (stp_gv hF (wanted_none rfl) rfl rfl (gv_move rfl (ev_const _ _)) fun a hF => ?_)
        refine wpList_nil ?_
        refine then_normal (hKq26 _ _ ?_)
        refine wp_block ?_
        refine wp_loop_n (fun q a w => ∃ i, i ≤ 4 ∧ q = 4 - i ∧ Fr 113 a [(6, .pointer (some ⟨s, 0, none⟩)), (9, vB (rcon (r + 1))), (10, vI (r + 1)), (12, .pointer (some ⟨tt, 0, none⟩)), (13, vI c), (80, vI c), (83, vI i)] ∧ St w0 w [⟨true, some tt, blkB 126 (xw (cols (keysR kl r) (t0 (keysR kl r) r (rcon r)) r c).1 (cols (keysR kl r) (t0 (keysR kl r) r (rcon r)) r c).2 (r * 16 + c * 4) i)⟩, ⟨true, some s, strm (cols (keysR kl r) (t0 (keysR kl r) r (rcon r)) r c).1 cl (.slice none 0 0)⟩]) 4 ⟨0, by omega, by omega, hF.sub ⟨rfl, rfl, rfl, rfl, rfl, rfl, rfl, trivial⟩, hS⟩ ?_
        rintro q a w ⟨i, hi4, hq, hF, hS⟩
        refine wp_seq_k fun Kq27 hKq27 => ?_
        -- region 20 (cipher.go:58)
        refine wp_region_lit ?_
        refine wpList_stp (stp_gv hF (wanted_none rfl) rfl rfl (gv_lss rfl (hF.t rfl) (ev_const _ _)) fun a hF => ?_)
        refine wpList_nil ?_
        refine then_normal (hKq27 _ _ ?_)
        refine wp_seq_k fun Kq28 hKq28 => ?_
        refine cond_dec (hF.t rfl) (fun hc84 => ?_) (fun hc84 => ?_)
        ·
          refine wp_skip ?_
          refine then_normal (hKq28 _ _ ?_)
          refine wp_seq_k fun Kq29 hKq29 => ?_
          refine wp_block ?_
          refine wp_seq_k fun Kq30 hKq30 => ?_
          -- region 21 (cipher.go:58)
          refine wp_region_lit ?_
          refine wpList_stp (stp_gv hF (wanted_none rfl) rfl rfl (gv_move rfl (hF.t rfl)) fun a hF => ?_)
          refine wpList_stp (stp_gv hF (wanted_none rfl) rfl rfl (gv_assign rfl (hF.t rfl)) fun a hF => ?_)
          refine wpList_nil ?_
          refine then_normal (hKq30 _ _ ?_)
          -- region 22 (cipher.go:59)
          refine Fw.wp_region_draw (by kernel_rfl) fun w hx => ?_
          replace hS := hS.ext hx
          clear hx
          refine run_head0 (n := 16) _ hF (by kernel_rfl) rfl ?_
          refine dw_gv hF rfl (wanted_none rfl) rfl rfl (fun w hx => gv_move rfl (hF.t rfl)) fun a hF => ?_
          refine dw_gv hF rfl (wanted_none rfl) rfl rfl (fun w hx => gv_indexArr rfl Tryd.underlying126 Tryd.sz5 (hF.t rfl) (hF.t rfl) (by omega)) fun a hF => ?_
          refine dw_gv hF rfl (wanted_none rfl) rfl rfl (fun w hx => gv_load rfl Tryd.underlying5 rfl (hF.t rfl) (cell_ix ((hS.ext hx).cellB (k := 0) rfl (i) (by rw [xw_len, hC.2]; omega)) (by omega))) fun a hF => ?_
          refine dw_gv hF rfl (wanted_none rfl) rfl rfl (fun w hx => gv_move rfl (hF.t rfl)) fun a hF => ?_
          refine dw_gv hF rfl (wanted_none rfl) rfl rfl (fun w hx => gv_move rfl (hF.t rfl)) fun a hF => ?_
          refine dw_gv hF rfl (wanted_none rfl) rfl rfl (fun w hx => gv_nsub (n := 1) rfl (hF.t rfl) rfl (by omega) (by omega)) fun a hF => ?_
          refine dw_gv hF rfl (wanted_none rfl) rfl rfl (fun w hx => gv_move rfl (hF.t rfl)) fun a hF => ?_
          refine dw_gv hF rfl (wanted_none rfl) rfl rfl (fun w hx => gv_move rfl (hF.t rfl)) fun a hF => ?_
          refine dw_gv hF rfl (wanted_none rfl) rfl rfl (fun w hx => gv_nilCheck rfl (hF.t rfl)) fun a hF => ?_
          refine dw_gv hF rfl (wanted_none rfl) rfl rfl (fun w hx => gv_field (r := 0) rfl Tryd.underlying131 rfl rfl Tryd.sz128 (by decide) (hF.t rfl)) fun a hF => ?_
          refine dw_gv hF rfl (wanted_none rfl) rfl rfl (fun w hx => gv_indexArr rfl Tryd.underlying128 Tryd.sz127 (hF.t rfl) (hF.t rfl) (by omega)) fun a hF => ?_
          refine dw_gv hF rfl (wanted_none rfl) rfl rfl (fun w hx => gv_indexArr rfl Tryd.underlying127 Tryd.sz126 (hF.t rfl) (hF.t rfl) (by omega)) fun a hF => ?_
          refine dw_gv hF rfl (wanted_none rfl) rfl rfl (fun w hx => gv_indexArr rfl Tryd.underlying126 Tryd.sz5 (hF.t rfl) (hF.t rfl) (by omega)) fun a hF => ?_
          refine dw_gv hF rfl (wanted_none rfl) rfl rfl (fun w hx => gv_load rfl Tryd.underlying5 rfl (hF.t rfl) (cell_ix (j := r * 16 + c * 4 + i) ((hS.ext hx).cell (k := 1) rfl (at_map (by omega) 0)) (by omega))) fun a hF => ?_
          refine dw_gv hF rfl (wanted_none rfl) rfl rfl (fun w hx => gv_b_xor rfl (hF.t rfl) (hF.t rfl)) fun a hF => ?_
          refine dw_gv hF rfl (wanted_none rfl) rfl rfl (fun w hx => gv_indexArr rfl Tryd.underlying126 Tryd.sz5 (hF.t rfl) (hF.t rfl) (by omega)) fun a hF => ?_
          refine dw_nil fun a w hA hx => ?_
          replace hF := hA _ hF
          replace hS := hS.ext hx
          clear hA hx
          refine run_stp (by kernel_rfl) rfl (stp_storeB (i) hF (wanted_none rfl) rfl rfl Tryd.sz5 (hF.t rfl) (by omega) (hF.t rfl) hS (k := 0) rfl (by rw [xw_len, hC.2]; omega) fun w hS => ?_)
          refine run_done (by decide) ?_
          refine block_normal ?_
          refine then_normal (hKq29 _ _ ?_)
          -- region 23 (cipher.go:58)
          refine wp_region_lit ?_
          refine wpList_stp (stp_gv hF (wanted_none rfl) rfl rfl (gv_nadd (n := 1) rfl (hF.t rfl) rfl (by omega)) fun a hF => ?_)
          refine wpList_stp (stp_gv hF (wanted_none rfl) rfl rfl (gv_move rfl (hF.t rfl)) fun a hF => ?_)
          refine wpList_nil ?_
          refine then_normal ?_
          exact ⟨q - 1, by omega, i + 1, by omega, by omega, hF.sub ⟨rfl, rfl, rfl, rfl, rfl, rfl, rfl, trivial⟩, hS⟩
        ·
          refine wp_exit ?_
          refine then_exit ?_
          refine then_exit ?_
          refine block_exit ?_
          refine then_normal (hKq25 _ _ ?_)
          obtain rfl : i = 4 := by omega
          -- region 24 (cipher.go:61)
          refine Fw.wp_region_draw (by kernel_rfl) fun w hx => ?_
          replace hS := hS.ext hx
          clear hx
          refine run_head0 (n := 8) _ hF (by kernel_rfl) rfl ?_
          refine dw_gv hF rfl (wanted_none rfl) rfl rfl (fun w hx => gv_move rfl (hF.t rfl)) fun a hF => ?_
          refine dw_gv hF rfl (wanted_none rfl) rfl rfl (fun w hx => gv_move rfl (hF.t rfl)) fun a hF => ?_
          refine dw_gv hF rfl (wanted_none rfl) rfl rfl (fun w hx => gv_move rfl (hF.t rfl)) fun a hF => ?_
          refine dw_gv hF rfl (wanted_none rfl) rfl rfl (fun w hx => gv_loadAll rfl Tryd.underlying126 rfl (Tryd.sz126.trans (congrArg some (by simp [xw_len, hC.2]))) (hF.t rfl) (hS.ext hx) (k := 0) rfl) fun a hF => ?_
          refine dw_gv hF rfl (wanted_none rfl) rfl rfl (fun w hx => gv_nilCheck rfl (hF.t rfl)) fun a hF => ?_
          refine dw_gv hF rfl (wanted_none rfl) rfl rfl (fun w hx => gv_field (r := 0) rfl Tryd.underlying131 rfl rfl Tryd.sz128 (by decide) (hF.t rfl)) fun a hF => ?_
          refine dw_gv hF rfl (wanted_none rfl) rfl rfl (fun w hx => gv_indexArr rfl Tryd.underlying128 Tryd.sz127 (hF.t rfl) (hF.t rfl) (by omega)) fun a hF => ?_
          refine dw_gv hF rfl (wanted_none rfl) rfl rfl (fun w hx => gv_indexArr rfl Tryd.underlying127 Tryd.sz126 (hF.t rfl) (hF.t rfl) (by omega)) fun a hF => ?_
          refine dw_nil fun a w hA hx => ?_
          replace hF := hA _ hF
          replace hS := hS.ext hx
          clear hA hx
          refine run_stp (by kernel_rfl) rfl (stp_storeAggAt ((r + 1) * 16 + c * 4) hF (wanted_none rfl) rfl rfl (Tryd.sz126.trans (congrArg some (by simp [xw_len, hC.2]))) (hF.t rfl) (by omega) (hF.t rfl) (one_B _) hS (k := 1) rfl (by simp [xw_len, hC.2, hC.1]; omega) fun w hS => ?_)
          rw [splice_map (by rw [xw_len, hC.2, hC.1]; omega)] at hS
          refine run_done (by decide) ?_
          refine block_normal ?_
          refine then_normal (hKq23 _ _ ?_)
          -- region 25 (cipher.go:57)
          refine wp_region_lit ?_
          refine wpList_stp (stp_gv hF (wanted_none rfl) rfl rfl (gv_nadd (n := 1) rfl (hF.t rfl) rfl (by omega)) fun a hF => ?_)
          refine wpList_stp (stp_gv hF (wanted_none rfl) rfl rfl (gv_move rfl (hF.t rfl)) fun a hF => ?_)
          refine wpList_nil ?_
          refine then_normal ?_
          exact ⟨m - 1, by omega, c + 1, by omega, by omega, hF.sub ⟨rfl, rfl, rfl, rfl, rfl, trivial⟩, hS⟩
      ·
        refine wp_exit ?_
        refine then_exit ?_
        refine then_exit ?_
        refine block_exit ?_
        refine block_normal ?_
        refine then_normal (hKq16 _ _ ?_)
        -- region 12 (cipher.go:53)
        refine wp_region_lit ?_
        refine wpList_stp (stp_gv hF (wanted_none rfl) rfl rfl (gv_move rfl (hF.t rfl)) fun a hF => ?_)
        refine wpList_stp (stp_gv hF (wanted_none rfl) rfl rfl (gv_nadd (n := 1) rfl (hF.t rfl) rfl (by omega)) fun a hF => ?_)
        refine wpList_stp (stp_gv hF (wanted_none rfl) rfl rfl (gv_assign rfl (hF.t rfl)) fun a hF => ?_)
        refine wpList_nil ?_
        refine then_normal ?_
        obtain rfl : c = 4 := by omega
        exact ⟨n - 1, by omega, r + 1, by omega, by omega, hF.sub ⟨rfl, rfl, rfl, trivial⟩, by rw [keysR_succ]; exact hS.drop rfl⟩
    ·
      refine wp_exit ?_
      refine then_exit ?_
      refine then_exit ?_
      refine block_exit ?_
      refine then_normal (hKq12 _ _ ?_)
      refine wp_seq_k fun Kq31 hKq31 => ?_
      obtain rfl : r = 10 := by omega
      -- region 26 (cipher.go:64)
      refine wp_region_lit ?_
      refine wpList_stp (stp_gv hF (wanted_none rfl) rfl rfl (gv_move rfl (hF.t rfl)) fun a hF => ?_)
      refine wpList_stp (stp_gv hF (wanted_none rfl) rfl rfl (gv_assign rfl (hF.t rfl)) fun a hF => ?_)
      refine wpList_stp (stp_gv hF (wanted_none rfl) rfl rfl (gv_assign rfl (ev_const _ _)) fun a hF => ?_)
      refine wpList_nil ?_
      refine then_normal (hKq31 _ _ ?_)
      refine wp_ret ?_
      refine ret2 (fn := Tryd.f52) (t := 4) (u := 5) hF rfl rfl rfl ?_
      exact ⟨s, rfl, hS⟩


def m1 (K bl : List UInt8) : Nat → List UInt8
  | 0 => List.replicate 16 0
  | i + 1 => (m1 K bl i).set i (bl.getD i 0 ^^^ K.getD i 0)
theorem m1_len (K bl : List UInt8) (i : Nat) : (m1 K bl i).length = 16 := by induction i with
  | zero => exact List.length_replicate
  | succ i ih => rw [m1, List.length_set, ih]
def subl (m t : List UInt8) (c : Nat) : Nat → List UInt8
  | 0 => t
  | i + 1 => (subl m t c i).set (c * 4 + i) (sb (m.getD ((c + i) % 4 * 4 + i) 0))
theorem subl_len (m t : List UInt8) (c i : Nat) : (subl m t c i).length = t.length := by induction i with
  | zero => rfl
  | succ i ih => rw [subl, List.length_set, ih]
def mixl (u : List UInt8) (al : UInt8) (t : List UInt8) (c : Nat) : Nat → List UInt8
  | 0 => t
  | i + 1 => (mixl u al t c i).set (c * 4 + i) ((mixl u al t c i).getD (c * 4 + i) 0 ^^^ (al ^^^ dbl (u.getD i 0 ^^^ u.getD ((i + 1) % 4) 0)))
theorem mixl_len (u : List UInt8) (al : UInt8) (t : List UInt8) (c i : Nat) : (mixl u al t c i).length = t.length := by induction i with
  | zero => rfl
  | succ i ih => rw [mixl, List.length_set, ih]
def addl (K t : List UInt8) (r c : Nat) : Nat → List UInt8
  | 0 => t
  | i + 1 => (addl K t r c i).set (c * 4 + i) ((addl K t r c i).getD (c * 4 + i) 0 ^^^ K.getD (r * 16 + c * 4 + i) 0)
theorem addl_len (K t : List UInt8) (r c i : Nat) : (addl K t r c i).length = t.length := by induction i with
  | zero => rfl
  | succ i ih => rw [addl, List.length_set, ih]
def colU (S : List UInt8) (c : Nat) : List UInt8 := (S.drop (c * 4)).take 4
def allU (u : List UInt8) : UInt8 := u.getD 0 0 ^^^ u.getD 1 0 ^^^ u.getD 2 0 ^^^ u.getD 3 0
def mixS (r : Nat) (S : List UInt8) (c : Nat) : List UInt8 := if r < 10 then mixl (colU S c) (allU (colU S c)) S c 4 else S
theorem mixS_len (r : Nat) (S : List UInt8) (c : Nat) : (mixS r S c).length = S.length := by unfold mixS; split <;> simp [mixl_len]
def colT (K m : List UInt8) (r : Nat) : Nat → List UInt8
  | 0 => List.replicate 16 0
  | c + 1 => addl K (mixS r (subl m (colT K m r c) c 4) c) r c 4
theorem colT_len (K m : List UInt8) (r c : Nat) : (colT K m r c).length = 16 := by induction c with
  | zero => exact List.length_replicate
  | succ c ih => rw [colT, addl_len, mixS_len, subl_len, ih]
theorem colT_succ (K m : List UInt8) (r c : Nat) : colT K m r (c + 1) = addl K (mixS r (subl m (colT K m r c) c 4) c) r c 4 := rfl
def blkR (K bl : List UInt8) : Nat → List UInt8
  | 0 => m1 K bl 16
  | r + 1 => colT K (blkR K bl r) (r + 1) 4
theorem blkR_zero (K bl : List UInt8) : blkR K bl 0 = m1 K bl 16 := rfl
theorem blkR_succ (K bl : List UInt8) (r : Nat) : blkR K bl (r + 1) = colT K (blkR K bl r) (r + 1) 4 := rfl
theorem blkR_len (K bl : List UInt8) (r : Nat) : (blkR K bl r).length = 16 := by cases r with
  | zero => exact m1_len K bl 16
  | succ r => exact colT_len _ _ _ _
def outl (b m : List UInt8) : Nat → List UInt8
  | 0 => b
  | i + 1 => (outl b m i).set i (m.getD i 0)
theorem outl_len (b m : List UInt8) (i : Nat) : (outl b m i).length = b.length := by induction i with
  | zero => rfl
  | succ i ih => rw [outl, List.length_set, ih]
def blockF (K bl : List UInt8) : List UInt8 := outl bl (blkR K bl 10) 16
theorem blockF_len {K bl : List UInt8} (h : bl.length = 16) : (blockF K bl).length = 16 := by rw [blockF, outl_len, h]


set_option maxHeartbeats 1000000 in
theorem block_ok {s : Nat} {K C bl : List UInt8} {lv : Value} {w0 : World} (hs : w0.heap[s]? = some (strm K C lv)) (hK : K.length = 176) (hb : bl.length = 16) :
    Calls Tryd.prog 66 #[.pointer (some ⟨s, 0, none⟩), .agg (bl.map vB).toArray] w0 fun e w' => e = .returned (.agg ((blockF K bl).map vB).toArray) ∧ Ext w0 w' := by
  refine calls_start 148 Tryd.func66 rfl Tryd.ntmps66 rfl fun a hF => ?_
  have hS := St.refl w0
  refine wp_seq_k fun Kq1 hKq1 => ?_
  -- region 0 (cipher.go:68)
  refine wp_region_lit ?_
  refine wpList_stp (stp_box hF (wanted_none rfl) rfl rfl rfl (hF.t rfl) rfl hS fun bb a w hF hS => ?_)
  refine wpList_stp (stp_alloc hF (wanted_none rfl) rfl rfl rfl Tryd.zv129 rfl hS fun res a w hF hS => ?_)
  refine wpList_nil ?_
  refine then_normal (hKq1 _ _ ?_)
  refine wp_seq_k fun Kq2 hKq2 => ?_
  refine wp_seq_k fun Kq3 hKq3 => ?_
  -- region 1 (cipher.go:69)
  refine wp_region_lit ?_
  refine wpList_stp (stp_gv hF (wanted_none rfl) rfl rfl (gv_move rfl (hF.t rfl)) fun a hF => ?_)
  refine wpList_stp (stp_gv hF (wanted_none rfl) rfl rfl (gv_eqlNil rfl Tryd.underlying33 (hF.t rfl) (ev_const _ _)) fun a hF => ?_)
  refine wpList_nil ?_
  refine then_normal (hKq3 _ _ ?_)
  refine wp_cond_false (hF.t rfl) ?_
  refine wp_skip ?_
  refine then_normal (hKq2 _ _ ?_)
  refine wp_seq_k fun Kq4 hKq4 => ?_
  -- region 3 (cipher.go:72)
  refine wp_region_lit ?_
  refine wpList_stp (stp_alloc hF (wanted_none rfl) rfl rfl rfl Tryd.zv127 rfl hS fun mm a w hF hS => ?_)
  refine wpList_nil ?_
  refine then_normal (hKq4 _ _ ?_)
  refine wp_seq_k fun Kq5 hKq5 => ?_
  refine wp_seq_k fun Kq6 hKq6 => ?_
  -- region 4 (cipher.go:73)
  refine wp_region_lit ?_
  refine wpList_stp (stp_gv hF (wanted_none rfl) rfl rfl (gv_loadAll rfl Tryd.underlying129 rfl (Tryd.sz129.trans (congrArg some (by simp [hb]))) (hF.t rfl) hS (k := 2) rfl) fun a hF => ?_)
  refine wpList_stp (stp_gv hF (wanted_none rfl) rfl rfl (gv_move rfl (ev_const _ _)) fun a hF => ?_)
  refine wpList_nil ?_
  refine then_normal (hKq6 _ _ ?_)
  refine wp_block ?_
  refine wp_loop_n (fun n a w => ∃ k, k ≤ 16 ∧ n = 16 - k ∧ Fr 148 a [(0, .pointer (some ⟨s, 0, none⟩)), (3, .pointer (some ⟨bb, 0, none⟩)), (4, .pointer (some ⟨res, 0, none⟩)), (5, .pointer (some ⟨mm, 0, none⟩)), (20, .agg (bl.map vB).toArray), (21, vI k)] ∧ St w0 w [⟨true, some mm, blkB 127 (m1 K bl k)⟩, ⟨true, some res, blkB 129 (List.replicate 16 0)⟩, ⟨true, some bb, blkB 129 bl⟩]) 16 ⟨0, by omega, by omega, hF.sub ⟨rfl, rfl, rfl, rfl, rfl, rfl, trivial⟩, hS⟩ ?_
  rintro n a w ⟨k, hk16, hn, hF, hS⟩
  refine wp_seq_k fun Kq7 hKq7 => ?_
  -- region 5 (cipher.go:73)
  refine wp_region_lit ?_
  refine wpList_stp (stp_gv hF (wanted_none rfl) rfl rfl (gv_lss rfl (hF.t rfl) (ev_const _ _)) fun a hF => ?_)
  refine wpList_nil ?_
  refine then_normal (hKq7 _ _ ?_)
  refine wp_seq_k fun Kq8 hKq8 => ?_
  refine cond_dec (hF.t rfl) (fun hc22 => ?_) (fun hc22 => ?_)
  ·
    refine wp_skip ?_
    refine then_normal (hKq8 _ _ ?_)
    refine wp_seq_k fun Kq9 hKq9 => ?_
    refine wp_block ?_
    refine wp_seq_k fun Kq10 hKq10 => ?_
    -- region 6 (cipher.go:73)
    refine wp_region_lit ?_
    refine wpList_stp (stp_gv hF (wanted_none rfl) rfl rfl (gv_move rfl (hF.t rfl)) fun a hF => ?_)
    refine wpList_stp (stp_gv hF (wanted_none rfl) rfl rfl (gv_indexAgg rfl Tryd.underlying129 Tryd.underlying5 rfl Tryd.sz5 (hF.t rfl) (hF.t rfl) (by omega) (arr_at (by omega) 0)) fun a hF => ?_)
    refine wpList_stp (stp_gv hF (wanted_none rfl) rfl rfl (gv_assign rfl (hF.t rfl)) fun a hF => ?_)
    refine wpList_stp (stp_gv hF (wanted_none rfl) rfl rfl (gv_assign rfl (hF.t rfl)) fun a hF => ?_)
    refine wpList_nil ?_
    refine then_normal (hKq10 _ _ ?_)
    -- region 7 (cipher.go:74)
    refine Fw.wp_region_draw (by kernel_rfl) fun w hx => ?_
    replace hS := hS.ext hx
    clear hx
    refine run_head0 (n := 19) _ hF (by kernel_rfl) rfl ?_
    refine dw_gv hF rfl (wanted_none rfl) rfl rfl (fun w hx => gv_move rfl (hF.t rfl)) fun a hF => ?_
    refine dw_gv hF rfl (wanted_none rfl) rfl rfl (fun w hx => gv_nquo (n := 4) rfl (hF.t rfl) rfl (by omega) (by omega)) fun a hF => ?_
    refine dw_gv hF rfl (wanted_none rfl) rfl rfl (fun w hx => gv_move rfl (hF.t rfl)) fun a hF => ?_
    refine dw_gv hF rfl (wanted_none rfl) rfl rfl (fun w hx => gv_nrem (n := 4) rfl (hF.t rfl) rfl (by omega)) fun a hF => ?_
    refine dw_gv hF rfl (wanted_none rfl) rfl rfl (fun w hx => gv_move rfl (hF.t rfl)) fun a hF => ?_
    refine dw_gv hF rfl (wanted_none rfl) rfl rfl (fun w hx => gv_move rfl (hF.t rfl)) fun a hF => ?_
    refine dw_gv hF rfl (wanted_none rfl) rfl rfl (fun w hx => gv_move rfl (hF.t rfl)) fun a hF => ?_
    refine dw_gv hF rfl (wanted_none rfl) rfl rfl (fun w hx => gv_nquo (n := 4) rfl (hF.t rfl) rfl (by omega) (by omega)) fun a hF => ?_
    refine dw_gv hF rfl (wanted_none rfl) rfl rfl (fun w hx => gv_move rfl (hF.t rfl)) fun a hF => ?_
    refine dw_gv hF rfl (wanted_none rfl) rfl rfl (fun w hx => gv_nrem (n := 4) rfl (hF.t rfl) rfl (by omega)) fun a hF => ?_
    refine dw_gv hF rfl (wanted_none rfl) rfl rfl (fun w hx => gv_nilCheck rfl (hF.t rfl)) fun a hF => ?_
    refine dw_gv hF rfl (wanted_none rfl) rfl rfl (fun w hx => gv_field (r := 0) rfl Tryd.underlying131 rfl rfl Tryd.sz128 (by decide) (hF.t rfl)) fun a hF => ?_
    refine dw_gv hF rfl (wanted_none rfl) rfl rfl (fun w hx => gv_indexArr (q := 0) rfl Tryd.underlying128 Tryd.sz127 (hF.t rfl) rfl (by omega)) fun a hF => ?_
    refine dw_gv hF rfl (wanted_none rfl) rfl rfl (fun w hx => gv_indexArr rfl Tryd.underlying127 Tryd.sz126 (hF.t rfl) (hF.t rfl) (by omega)) fun a hF => ?_
    refine dw_gv hF rfl (wanted_none rfl) rfl rfl (fun w hx => gv_indexArr rfl Tryd.underlying126 Tryd.sz5 (hF.t rfl) (hF.t rfl) (by omega)) fun a hF => ?_
    refine dw_gv hF rfl (wanted_none rfl) rfl rfl (fun w hx => gv_load rfl Tryd.underlying5 rfl (hF.t rfl) (cell_ix (j := k) (cell_of ((((hS.ext hx)).toExt (by simp)).keep hs) (at_map (by omega) 0)) (by omega))) fun a hF => ?_
    refine dw_gv hF rfl (wanted_none rfl) rfl rfl (fun w hx => gv_b_xor rfl (hF.t rfl) (hF.t rfl)) fun a hF => ?_
    refine dw_gv hF rfl (wanted_none rfl) rfl rfl (fun w hx => gv_indexArr rfl Tryd.underlying127 Tryd.sz126 (hF.t rfl) (hF.t rfl) (by omega)) fun a hF => ?_
    refine dw_gv hF rfl (wanted_none rfl) rfl rfl (fun w hx => gv_indexArr rfl Tryd.underlying126 Tryd.sz5 (hF.t rfl) (hF.t rfl) (by omega)) fun a hF => ?_
    refine dw_nil fun a w hA hx => ?_
    replace hF := hA _ hF
    replace hS := hS.ext hx
    clear hA hx
    refine run_stp (by kernel_rfl) rfl (stp_storeB (k) hF (wanted_none rfl) rfl rfl Tryd.sz5 (hF.t rfl) (by omega) (hF.t rfl) hS (k := 0) rfl (by rw [m1_len]; omega) fun w hS => ?_)
    refine run_done (by decide) ?_
    refine block_normal ?_
    refine then_normal (hKq9 _ _ ?_)
    -- region 8 (cipher.go:73)
    refine wp_region_lit ?_
    refine wpList_stp (stp_gv hF (wanted_none rfl) rfl rfl (gv_nadd (n := 1) rfl (hF.t rfl) rfl (by omega)) fun a hF => ?_)
    refine wpList_stp (stp_gv hF (wanted_none rfl) rfl rfl (gv_move rfl (hF.t rfl)) fun a hF => ?_)
    refine wpList_nil ?_
    refine then_normal ?_
    exact ⟨n - 1, by omega, k + 1, by omega, by omega, hF.sub ⟨rfl, rfl, rfl, rfl, rfl, rfl, trivial⟩, hS⟩
  ·
    refine wp_exit ?_
    refine then_exit ?_
    refine then_exit ?_
    refine block_exit ?_
    refine then_normal (hKq5 _ _ ?_)
    refine wp_seq_k fun Kq11 hKq11 => ?_
    refine wp_seq_k fun Kq12 hKq12 => ?_
    -- region 9 (cipher.go:76)
    refine wp_region_lit ?_
    refine wpList_stp (stp_gv hF (wanted_none rfl) rfl rfl (gv_assign rfl (ev_const _ _)) fun a hF => ?_)
    refine wpList_nil ?_
    refine then_normal (hKq12 _ _ ?_)
    refine wp_block ?_
    obtain rfl : k = 16 := by omega
    refine wp_loop_n (fun n a w => ∃ r, r ≤ 10 ∧ n = 10 - r ∧ Fr 148 a [(0, .pointer (some ⟨s, 0, none⟩)), (3, .pointer (some ⟨bb, 0, none⟩)), (4, .pointer (some ⟨res, 0, none⟩)), (5, .pointer (some ⟨mm, 0, none⟩)), (8, vI (r + 1))] ∧ St w0 w [⟨true, some mm, blkB 127 (blkR K bl r)⟩, ⟨true, some res, blkB 129 (List.replicate 16 0)⟩, ⟨true, some bb, blkB 129 bl⟩]) 10 ⟨0, by omega, by omega, hF.sub ⟨rfl, rfl, rfl, rfl, rfl, trivial⟩, by rw [blkR_zero]; exact hS⟩ ?_
    rintro n a w ⟨r, hr, hn, hF, hS⟩
    refine wp_seq_k fun Kq13 hKq13 => ?_
    refine wp_seq_k fun Kq14 hKq14 => ?_
    -- region 10 (cipher.go:76)
    refine wp_region_lit ?_
    refine wpList_stp (stp_gv hF (wanted_none rfl) rfl rfl (gv_move rfl (hF.t rfl)) fun a hF => ?_)
    refine wpList_stp (stp_gv hF (wanted_none rfl) rfl rfl (gv_lss rfl (hF.t rfl) (ev_const _ _)) fun a hF => ?_)
    refine wpList_nil ?_
    refine then_normal (hKq14 _ _ ?_)
    refine cond_dec (hF.t rfl) (fun hc46 => ?_) (fun hc46 => ?_)
    ·
      refine wp_skip ?_
      refine then_normal (hKq13 _ _ ?_)
      refine wp_seq_k fun Kq15 hKq15 => ?_
      refine wp_block ?_
      refine wp_seq_k fun Kq16 hKq16 => ?_
      -- region 12 (cipher.go:77)
      refine wp_region_lit ?_
      refine wpList_stp (stp_alloc hF (wanted_none rfl) rfl rfl rfl Tryd.zv127 rfl hS fun tt a w hF hS => ?_)
      refine wpList_nil ?_
      refine then_normal (hKq16 _ _ ?_)
      refine wp_seq_k fun Kq17 hKq17 => ?_
      refine wp_seq_k fun Kq18 hKq18 => ?_
      -- region 13 (cipher.go:78)
      refine wp_region_lit ?_
      refine wpList_stp (stp_gv hF (wanted_none rfl) rfl rfl (gv_move rfl (ev_const _ _)) fun a hF => ?_)
      refine wpList_nil ?_
      refine then_normal (hKq18 _ _ ?_)
      refine wp_block ?_
      refine wp_loop_n (fun m a w => ∃ c, c ≤ 4 ∧ m = 4 - c ∧ Fr 148 a [(0, .pointer (some ⟨s, 0, none⟩)), (3, .pointer (some ⟨bb, 0, none⟩)), (4, .pointer (some ⟨res, 0, none⟩)), (5, .pointer (some ⟨mm, 0, none⟩)), (8, vI (r + 1)), (9, .pointer (some ⟨tt, 0, none⟩)), (49, vI c)] ∧ St w0 w [⟨true, some tt, blkB 127 (colT K (blkR K bl r) (r + 1) c)⟩, ⟨true, some mm, blkB 127 (blkR K bl r)⟩, ⟨true, some res, blkB 129 (List.replicate 16 0)⟩, ⟨true, some bb, blkB 129 bl⟩]) 4 ⟨0, by omega, by omega, hF.sub ⟨rfl, rfl, rfl, rfl, rfl, rfl, rfl, trivial⟩, hS⟩ ?_
      rintro m a w ⟨c, hc4, hm, hF, hS⟩
      refine wp_seq_k fun Kq19 hKq19 => ?_
      -- region 14 (cipher.go:78)
      refine wp_region_lit ?_
      refine wpList_stp (stp_gv hF (wanted_none rfl) rfl rfl (gv_lss rfl (hF.t rfl) (ev_const _ _)) fun a hF => ?_)
      refine wpList_nil ?_
      refine then_normal (hKq19 _ _ ?_)
      refine wp_seq_k fun Kq20 hKq20 => ?_
      refine cond_dec (hF.t rfl) (fun hc50 => ?_) (fun hc50 => ?_)
      ·
        refine wp_skip ?_
        refine then_normal (hKq20 _ _ ?_)
        refine wp_seq_k fun Kq21 hKq21 => ?_
        refine wp_block ?_
        refine wp_seq_k fun Kq22 hKq22 => ?_
        -- region 15 (cipher.go:78)
        refine wp_region_lit ?_
        refine wpList_stp (stp_gv hF (wanted_none rfl) rfl rfl (gv_move rfl (hF.t rfl)) fun a hF => ?_)
        refine wpList_stp (stp_gv hF (wanted_none rfl) rfl rfl (gv_assign rfl (hF.t rfl)) fun a hF => ?_)
        refine wpList_nil ?_
        refine then_normal (hKq22 _ _ ?_)
        refine wp_seq_k fun Kq23 hKq23 => ?_
        refine wp_seq_k fun Kq24 hKq24 => ?_
        -- region 16 (cipher.go:79)
        refine wp_region_lit ?_
        refine wpList_stp (stp_gv hF (wanted_none rfl) rfl rfl (gv_move rfl (ev_const _ _)) fun a hF => ?_)
        refine wpList_nil ?_
        refine then_normal (hKq24 _ _ ?_)
        refine wp_block ?_
        refine wp_loop_n (fun q a w => ∃ i, i ≤ 4 ∧ q = 4 - i ∧ Fr 148 a [(0, .pointer (some ⟨s, 0, none⟩)), (3, .pointer (some ⟨bb, 0, none⟩)), (4, .pointer (some ⟨res, 0, none⟩)), (5, .pointer (some ⟨mm, 0, none⟩)), (8, vI (r + 1)), (9, .pointer (some ⟨tt, 0, none⟩)), (10, vI c), (49, vI c), (52, vI i)] ∧ St w0 w [⟨true, some tt, blkB 127 (subl (blkR K bl r) (colT K (blkR K bl r) (r + 1) c) c i)⟩, ⟨true, some mm, blkB 127 (blkR K bl r)⟩, ⟨true, some res, blkB 129 (List.replicate 16 0)⟩, ⟨true, some bb, blkB 129 bl⟩]) 4 ⟨0, by omega, by omega, hF.sub ⟨rfl, rfl, rfl, rfl, rfl, rfl, rfl, rfl, rfl, trivial⟩, hS⟩ ?_
        rintro q a w ⟨i, hi4, hq, hF, hS⟩
        refine wp_seq_k fun Kq25 hKq25 => ?_
        -- region 17 (cipher.go:79)
        refine wp_region_lit ?_
        refine wpList_stp (stp_gv hF (wanted_none rfl) rfl rfl (gv_lss rfl (hF.t rfl) (ev_const _ _)) fun a hF => ?_)
        refine wpList_nil ?_
        refine then_normal (hKq25 _ _ ?_)
        refine wp_seq_k fun Kq26 hKq26 => ?_
        refine cond_dec (hF.t rfl) (fun hc53 => ?_) (fun hc53 => ?_)
        ·
          refine wp_skip ?_
          refine then_normal (hKq26 _ _ ?_)
          refine wp_seq_k fun Kq27 hKq27 => ?_
          refine wp_block ?_
          refine wp_seq_k fun Kq28 hKq28 => ?_
          -- region 18 (cipher.go:79)
          refine wp_region_lit ?_
          refine wpList_stp (stp_gv hF (wanted_none rfl) rfl rfl (gv_move rfl (hF.t rfl)) fun a hF => ?_)
          refine wpList_stp (stp_gv hF (wanted_none rfl) rfl rfl (gv_assign rfl (hF.t rfl)) fun a hF => ?_)
          refine wpList_nil ?_
          refine then_normal (hKq28 _ _ ?_)
          -- region 19 (cipher.go:80)
          refine Fw.wp_region_draw (by kernel_rfl) fun w hx => ?_
          replace hS := hS.ext hx
          clear hx
          refine run_head0 (n := 14) _ hF (by kernel_rfl) rfl ?_
          refine dw_gv hF rfl (wanted_none rfl) rfl rfl (fun w hx => gv_move rfl (hF.t rfl)) fun a hF => ?_
          refine dw_gv hF rfl (wanted_none rfl) rfl rfl (fun w hx => gv_move rfl (hF.t rfl)) fun a hF => ?_
          refine dw_call hF rfl (wanted_none rfl) rfl rfl Tryd.ok69 rfl Evs.nil (fun w hx => swap_any _) fun a hF => ?_
          refine dw_gv hF rfl (wanted_none rfl) rfl rfl (fun w hx => gv_move rfl (hF.t rfl)) fun a hF => ?_
          refine dw_gv hF rfl (wanted_none rfl) rfl rfl (fun w hx => gv_move rfl (hF.t rfl)) fun a hF => ?_
          refine dw_gv hF rfl (wanted_none rfl) rfl rfl (fun w hx => gv_nadd rfl (hF.t rfl) (hF.t rfl) (by omega)) fun a hF => ?_
          refine dw_gv hF rfl (wanted_none rfl) rfl rfl (fun w hx => gv_nrem (n := 4) rfl (hF.t rfl) rfl (by omega)) fun a hF => ?_
          refine dw_gv hF rfl (wanted_none rfl) rfl rfl (fun w hx => gv_move rfl (hF.t rfl)) fun a hF => ?_
          refine dw_gv hF rfl (wanted_none rfl) rfl rfl (fun w hx => gv_indexArr rfl Tryd.underlying127 Tryd.sz126 (hF.t rfl) (hF.t rfl) (by omega)) fun a hF => ?_
          refine dw_gv hF rfl (wanted_none rfl) rfl rfl (fun w hx => gv_indexArr rfl Tryd.underlying126 Tryd.sz5 (hF.t rfl) (hF.t rfl) (by omega)) fun a hF => ?_
          refine dw_gv hF rfl (wanted_none rfl) rfl rfl (fun w hx => gv_load rfl Tryd.underlying5 rfl (hF.t rfl) (cell_ix ((hS.ext hx).cellB (k := 1) rfl ((c + i) % 4 * 4 + i) (by rw [blkR_len]; omega)) (by omega))) fun a hF => ?_
          refine dw_gv hF rfl (wanted_none rfl) rfl rfl (fun w hx => gv_indexAggB rfl Tryd.underlying136 Tryd.underlying5 rfl Tryd.sz5 (hF.t rfl) (hF.t rfl) (UInt8.toNat_lt _) (sw_at _)) fun a hF => ?_
          refine dw_gv hF rfl (wanted_none rfl) rfl rfl (fun w hx => gv_indexArr rfl Tryd.underlying127 Tryd.sz126 (hF.t rfl) (hF.t rfl) (by omega)) fun a hF => ?_
          refine dw_gv hF rfl (wanted_none rfl) rfl rfl (fun w hx => gv_indexArr rfl Tryd.underlying126 Tryd.sz5 (hF.t rfl) (hF.t rfl) (by omega)) fun a hF => ?_
          refine dw_nil fun a w hA hx => ?_
          replace hF := hA _ hF
          replace hS := hS.ext hx
          clear hA hx
          refine run_stp (by kernel_rfl) rfl (stp_storeB (c * 4 + i) hF (wanted_none rfl) rfl rfl Tryd.sz5 (hF.t rfl) (by omega) (hF.t rfl) hS (k := 0) rfl (by rw [subl_len, colT_len]; omega) fun w hS => ?_)
          refine run_done (by decide) ?_
          refine block_normal ?_
          refine then_normal (hKq27 _ _ ?_)
          -- region 20 (cipher.go:79)
          refine wp_region_lit ?_
          refine wpList_stp (stp_gv hF (wanted_none rfl) rfl rfl (gv_nadd (n := 1) rfl (hF.t rfl) rfl (by omega)) fun a hF => ?_)
          refine wpList_stp (stp_gv hF (wanted_none rfl) rfl rfl (gv_move rfl (hF.t rfl)) fun a hF => ?_)
          refine wpList_nil ?_
          refine then_normal ?_
          exact ⟨q - 1, by omega, i + 1, by omega, by omega, hF.sub ⟨rfl, rfl, rfl, rfl, rfl, rfl, rfl, rfl, rfl, trivial⟩, hS⟩
        ·
          refine wp_exit ?_
          refine then_exit ?_
          refine then_exit ?_
          refine block_exit ?_
          refine then_normal (hKq23 _ _ ?_)
          refine wp_cut (fun a w => Fr 148 a [(0, .pointer (some ⟨s, 0, none⟩)), (3, .pointer (some ⟨bb, 0, none⟩)), (4, .pointer (some ⟨res, 0, none⟩)), (5, .pointer (some ⟨mm, 0, none⟩)), (8, vI (r + 1)), (9, .pointer (some ⟨tt, 0, none⟩)), (10, vI c), (49, vI c)] ∧ St w0 w [⟨true, some tt, blkB 127 (mixS (r + 1) (subl (blkR K bl r) (colT K (blkR K bl r) (r + 1) c) c 4) c)⟩, ⟨true, some mm, blkB 127 (blkR K bl r)⟩, ⟨true, some res, blkB 129 (List.replicate 16 0)⟩, ⟨true, some bb, blkB 129 bl⟩]) ?_ ?_
          ·
            refine wp_seq_k fun Kq29 hKq29 => ?_
            obtain rfl : i = 4 := by omega
            have hlS : c * 4 + 4 ≤ (subl (blkR K bl r) (colT K (blkR K bl r) (r + 1) c) c 4).length := by rw [subl_len, colT_len]; omega
            have hlU : (colU (subl (blkR K bl r) (colT K (blkR K bl r) (r + 1) c) c 4) c).length = 4 := by rw [colU, List.length_take, List.length_drop]; omega
            -- region 21 (cipher.go:82)
            refine wp_region_lit ?_
            refine wpList_stp (stp_gv hF (wanted_none rfl) rfl rfl (gv_move rfl (hF.t rfl)) fun a hF => ?_)
            refine wpList_stp (stp_gv hF (wanted_none rfl) rfl rfl (gv_lss rfl (hF.t rfl) (ev_const _ _)) fun a hF => ?_)
            refine wpList_nil ?_
            refine then_normal (hKq29 _ _ ?_)
            refine cond_dec (hF.t rfl) (fun hc71 => ?_) (fun hc71 => ?_)
            ·
              refine wp_seq_k fun Kq30 hKq30 => ?_
              -- region 22 (cipher.go:83)
              refine wp_region_lit ?_
              refine wpList_stp (stp_gv hF (wanted_none rfl) rfl rfl (gv_move rfl (hF.t rfl)) fun a hF => ?_)
              refine wpList_stp (stp_gv hF (wanted_none rfl) rfl rfl (gv_indexArr rfl Tryd.underlying127 Tryd.sz126 (hF.t rfl) (hF.t rfl) (by omega)) fun a hF => ?_)
              refine wpList_stp (stp_gv hF (wanted_none rfl) rfl rfl (gv_loadPartAt (j := c * 4) (vs := ((colU (subl (blkR K bl r) (colT K (blkR K bl r) (r + 1) c) c 4) c).map vB)) rfl Tryd.underlying126 rfl (Tryd.sz126.trans (congrArg some (by rw [colU, part_len hlS]))) (hF.t rfl) (by omega) hS (k := 0) rfl (part_map0 hlS)) fun a hF => ?_)
              refine wpList_stp (stp_alloc hF (wanted_none rfl) rfl rfl rfl Tryd.zv126 rfl hS fun u a w hF hS => ?_)
              refine wpList_stp (stp_storeAll hF (wanted_none rfl) rfl rfl (Tryd.sz126.trans (congrArg some (by rw [colU, part_len hlS]))) (hF.t rfl) (hF.t rfl) (one_B _) hS (k := 0) rfl (by rw [colU, part_len hlS]; rfl) fun w hS => ?_)
              refine wpList_nil ?_
              refine then_normal (hKq30 _ _ ?_)
              refine wp_seq_k fun Kq31 hKq31 => ?_
              -- region 23 (cipher.go:84)
              refine wp_region_lit ?_
              refine wpList_stp (stp_gv hF (wanted_none rfl) rfl rfl (gv_indexArr (q := 0) rfl Tryd.underlying126 Tryd.sz5 (hF.t rfl) rfl (by omega)) fun a hF => ?_)
              refine wpList_stp (stp_gv hF (wanted_none rfl) rfl rfl (gv_load rfl Tryd.underlying5 rfl (hF.t rfl) (cell_ix (hS.cellB (k := 0) rfl (0) (by rw [hlU]; omega)) (by omega))) fun a hF => ?_)
              refine wpList_stp (stp_gv hF (wanted_none rfl) rfl rfl (gv_indexArr (q := 1) rfl Tryd.underlying126 Tryd.sz5 (hF.t rfl) rfl (by omega)) fun a hF => ?_)
              refine wpList_stp (stp_gv hF (wanted_none rfl) rfl rfl (gv_load rfl Tryd.underlying5 rfl (hF.t rfl) (cell_ix (hS.cellB (k := 0) rfl (1) (by rw [hlU]; omega)) (by omega))) fun a hF => ?_)
              refine wpList_stp (stp_gv hF (wanted_none rfl) rfl rfl (gv_b_xor rfl (hF.t rfl) (hF.t rfl)) fun a hF => ?_)
              refine wpList_stp (stp_gv hF (wanted_none rfl) rfl rfl (gv_indexArr (q := 2) rfl Tryd.underlying126 Tryd.sz5 (hF.t rfl) rfl (by omega)) fun a hF => ?_)
              refine wpList_stp (stp_gv hF (wanted_none rfl) rfl rfl (gv_load rfl Tryd.underlying5 rfl (hF.t rfl) (cell_ix (hS.cellB (k := 0) rfl (2) (by rw [hlU]; omega)) (by omega))) fun a hF => ?_)
              refine wpList_stp (stp_gv hF (wanted_none rfl) rfl rfl (gv_b_xor rfl (hF.t rfl) (hF.t rfl)) fun a hF => ?_)
              refine wpList_stp (stp_gv hF (wanted_none rfl) rfl rfl (gv_indexArr (q := 3) rfl Tryd.underlying126 Tryd.sz5 (hF.t rfl) rfl (by omega)) fun a hF => ?_)
              refine wpList_stp (stp_gv hF (wanted_none rfl) rfl rfl (gv_load rfl Tryd.underlying5 rfl (hF.t rfl) (cell_ix (hS.cellB (k := 0) rfl (3) (by rw [hlU]; omega)) (by omega))) fun a hF => ?_)
              refine wpList_stp (stp_gv hF (wanted_none rfl) rfl rfl (gv_b_xor rfl (hF.t rfl) (hF.t rfl)) fun a hF => ?_)
              refine wpList_stp (stp_gv hF (wanted_none rfl) rfl rfl (gv_assign rfl (hF.t rfl)) fun a hF => ?_)
              refine wpList_nil ?_
              refine then_normal (hKq31 _ _ ?_)
              refine wp_seq_k fun Kq32 hKq32 => ?_
              -- region 24 (cipher.go:85)
              refine wp_region_lit ?_
              refine wpList_stp (stp_gv hF (wanted_none rfl) rfl rfl (gv_move rfl (ev_const _ _)) fun a hF => ?_)
              refine wpList_nil ?_
              refine then_normal (hKq32 _ _ ?_)
              refine wp_block ?_
              refine wp_loop_n (fun q a w => ∃ i, i ≤ 4 ∧ q = 4 - i ∧ Fr 148 a [(0, .pointer (some ⟨s, 0, none⟩)), (3, .pointer (some ⟨bb, 0, none⟩)), (4, .pointer (some ⟨res, 0, none⟩)), (5, .pointer (some ⟨mm, 0, none⟩)), (8, vI (r + 1)), (9, .pointer (some ⟨tt, 0, none⟩)), (10, vI c), (12, .pointer (some ⟨u, 0, none⟩)), (13, vB (allU (colU (subl (blkR K bl r) (colT K (blkR K bl r) (r + 1) c) c 4) c))), (49, vI c), (86, vI i)] ∧ St w0 w [⟨true, some u, blkB 126 (colU (subl (blkR K bl r) (colT K (blkR K bl r) (r + 1) c) c 4) c)⟩, ⟨true, some tt, blkB 127 (mixl (colU (subl (blkR K bl r) (colT K (blkR K bl r) (r + 1) c) c 4) c) (allU (colU (subl (blkR K bl r) (colT K (blkR K bl r) (r + 1) c) c 4) c)) (subl (blkR K bl r) (colT K (blkR K bl r) (r + 1) c) c 4) c i)⟩, ⟨true, some mm, blkB 127 (blkR K bl r)⟩, ⟨true, some res, blkB 129 (List.replicate 16 0)⟩, ⟨true, some bb, blkB 129 bl⟩]) 4 ⟨0, by omega, by omega, hF.sub ⟨rfl, rfl, rfl, rfl, rfl, rfl, rfl, rfl, rfl, rfl, rfl, trivial⟩, hS⟩ ?_
              rintro q a w ⟨i, hi4, hq, hF, hS⟩
              refine wp_seq_k fun Kq33 hKq33 => ?_
              -- region 25 (cipher.go:85)
              refine wp_region_lit ?_
              refine wpList_stp (stp_gv hF (wanted_none rfl) rfl rfl (gv_lss rfl (hF.t rfl) (ev_const _ _)) fun a hF => ?_)
              refine wpList_nil ?_
              refine then_normal (hKq33 _ _ ?_)
              refine wp_seq_k fun Kq34 hKq34 => ?_
              refine cond_dec (hF.t rfl) (fun hc87 => ?_) (fun hc87 => ?_)
              ·
                refine wp_skip ?_
                refine then_normal (hKq34 _ _ ?_)
                refine wp_seq_k fun Kq35 hKq35 => ?_
                refine wp_block ?_
                refine wp_seq_k fun Kq36 hKq36 => ?_
                -- region 26 (cipher.go:85)
                refine wp_region_lit ?_
                refine wpList_stp (stp_gv hF (wanted_none rfl) rfl rfl (gv_move rfl (hF.t rfl)) fun a hF => ?_)
                refine wpList_stp (stp_gv hF (wanted_none rfl) rfl rfl (gv_assign rfl (hF.t rfl)) fun a hF => ?_)
                refine wpList_nil ?_
                refine then_normal (hKq36 _ _ ?_)
                -- region 27 (cipher.go:86)
                refine Fw.wp_region_draw (by kernel_rfl) fun w hx => ?_
                replace hS := hS.ext hx
                clear hx
                refine run_head0 (n := 20) _ hF (by kernel_rfl) rfl ?_
                refine dw_gv hF rfl (wanted_none rfl) rfl rfl (fun w hx => gv_move rfl (hF.t rfl)) fun a hF => ?_
                refine dw_gv hF rfl (wanted_none rfl) rfl rfl (fun w hx => gv_move rfl (hF.t rfl)) fun a hF => ?_
                refine dw_gv hF rfl (wanted_none rfl) rfl rfl (fun w hx => gv_indexArr rfl Tryd.underlying127 Tryd.sz126 (hF.t rfl) (hF.t rfl) (by omega)) fun a hF => ?_
                refine dw_gv hF rfl (wanted_none rfl) rfl rfl (fun w hx => gv_indexArr rfl Tryd.underlying126 Tryd.sz5 (hF.t rfl) (hF.t rfl) (by omega)) fun a hF => ?_
                refine dw_gv hF rfl (wanted_none rfl) rfl rfl (fun w hx => gv_load rfl Tryd.underlying5 rfl (hF.t rfl) (cell_ix ((hS.ext hx).cellB (k := 1) rfl (c * 4 + i) (by rw [mixl_len, subl_len, colT_len]; omega)) (by omega))) fun a hF => ?_
                refine dw_gv hF rfl (wanted_none rfl) rfl rfl (fun w hx => gv_move rfl (hF.t rfl)) fun a hF => ?_
                refine dw_gv hF rfl (wanted_none rfl) rfl rfl (fun w hx => gv_move rfl (hF.t rfl)) fun a hF => ?_
                refine dw_gv hF rfl (wanted_none rfl) rfl rfl (fun w hx => gv_indexArr rfl Tryd.underlying126 Tryd.sz5 (hF.t rfl) (hF.t rfl) (by omega)) fun a hF => ?_
                refine dw_gv hF rfl (wanted_none rfl) rfl rfl (fun w hx => gv_load rfl Tryd.underlying5 rfl (hF.t rfl) (cell_ix ((hS.ext hx).cellB (k := 0) rfl (i) (by rw [hlU]; omega)) (by omega))) fun a hF => ?_
                refine dw_gv hF rfl (wanted_none rfl) rfl rfl (fun w hx => gv_move rfl (hF.t rfl)) fun a hF => ?_
                refine dw_gv hF rfl (wanted_none rfl) rfl rfl (fun w hx => gv_nadd (n := 1) rfl (hF.t rfl) rfl (by omega)) fun a hF => ?_
                refine dw_gv hF rfl (wanted_none rfl) rfl rfl (fun w hx => gv_nrem (n := 4) rfl (hF.t rfl) rfl (by omega)) fun a hF => ?_
                refine dw_gv hF rfl (wanted_none rfl) rfl rfl (fun w hx => gv_indexArr rfl Tryd.underlying126 Tryd.sz5 (hF.t rfl) (hF.t rfl) (by omega)) fun a hF => ?_
                refine dw_gv hF rfl (wanted_none rfl) rfl rfl (fun w hx => gv_load rfl Tryd.underlying5 rfl (hF.t rfl) (cell_ix ((hS.ext hx).cellB (k := 0) rfl ((i + 1) % 4) (by rw [hlU]; omega)) (by omega))) fun a hF => ?_
                refine dw_gv hF rfl (wanted_none rfl) rfl rfl (fun w hx => gv_b_xor rfl (hF.t rfl) (hF.t rfl)) fun a hF => ?_
                refine dw_call hF rfl (wanted_none rfl) rfl rfl Tryd.ok70 rfl (Evs.cons (hF.t rfl) Evs.nil) (fun w hx => double_any _ _) fun a hF => ?_
                refine dw_gv hF rfl (wanted_none rfl) rfl rfl (fun w hx => gv_b_xor rfl (hF.t rfl) (hF.t rfl)) fun a hF => ?_
                refine dw_gv hF rfl (wanted_none rfl) rfl rfl (fun w hx => gv_b_xor rfl (hF.t rfl) (hF.t rfl)) fun a hF => ?_
                refine dw_gv hF rfl (wanted_none rfl) rfl rfl (fun w hx => gv_indexArr rfl Tryd.underlying127 Tryd.sz126 (hF.t rfl) (hF.t rfl) (by omega)) fun a hF => ?_
                refine dw_gv hF rfl (wanted_none rfl) rfl rfl (fun w hx => gv_indexArr rfl Tryd.underlying126 Tryd.sz5 (hF.t rfl) (hF.t rfl) (by omega)) fun a hF => ?_
                refine dw_nil fun a w hA hx => ?_
                replace hF := hA _ hF
                replace hS := hS.ext hx
                clear hA hx
                refine run_stp (by kernel_rfl) rfl (stp_storeB (c * 4 + i) hF (wanted_none rfl) rfl rfl Tryd.sz5 (hF.t rfl) (by omega) (hF.t rfl) hS (k := 1) rfl (by rw [mixl_len, subl_len, colT_len]; omega) fun w hS => ?_)
                refine run_done (by decide) ?_
                refine block_normal ?_
                refine then_normal (hKq35 _ _ ?_)
                -- region 28 (cipher.go:85)
                refine wp_region_lit ?_
                refine wpList_stp (stp_gv hF (wanted_none rfl) rfl rfl (gv_nadd (n := 1) rfl (hF.t rfl) rfl (by omega)) fun a hF => ?_)
                refine wpList_stp (stp_gv hF (wanted_none rfl) rfl rfl (gv_move rfl (hF.t rfl)) fun a hF => ?_)
                refine wpList_nil ?_
                refine then_normal ?_
                exact ⟨q - 1, by omega, i + 1, by omega, by omega, hF.sub ⟨rfl, rfl, rfl, rfl, rfl, rfl, rfl, rfl, rfl, rfl, rfl, trivial⟩, hS⟩
              ·
                refine wp_exit ?_
                refine then_exit ?_
                refine then_exit ?_
                refine block_exit ?_
                refine then_normal ?_
                obtain rfl : i = 4 := by omega
                exact ⟨hF.sub ⟨rfl, rfl, rfl, rfl, rfl, rfl, rfl, rfl, trivial⟩, by rw [mixS, if_pos (by omega)]; exact hS.drop rfl⟩
            ·
              refine wp_skip ?_
              refine then_normal ?_
              exact ⟨hF.sub ⟨rfl, rfl, rfl, rfl, rfl, rfl, rfl, rfl, trivial⟩, by rw [mixS, if_neg (by omega)]; exact hS⟩
          · rintro a w ⟨hF, hS⟩
            refine wp_seq_k fun Kq37 hKq37 => ?_
            -- region 29 (cipher.go:89)
            refine wp_region_lit ?_
            refine wpList_stp (stp_gv hF (wanted_none rfl) rfl rfl (gv_move rfl (ev_const _ _)) fun a hF => ?_)
            refine wpList_nil ?_
            refine then_normal (hKq37 _ _ ?_)
            refine wp_block ?_
            refine wp_loop_n (fun q a w => ∃ i, i ≤ 4 ∧ q = 4 - i ∧ Fr 148 a [(0, .pointer (some ⟨s, 0, none⟩)), (3, .pointer (some ⟨bb, 0, none⟩)), (4, .pointer (some ⟨res, 0, none⟩)), (5, .pointer (some ⟨mm, 0, none⟩)), (8, vI (r + 1)), (9, .pointer (some ⟨tt, 0, none⟩)), (10, vI c), (49, vI c), (110, vI i)] ∧ St w0 w [⟨true, some tt, blkB 127 (addl K (mixS (r + 1) (subl (blkR K bl r) (colT K (blkR K bl r) (r + 1) c) c 4) c) (r + 1) c i)⟩, ⟨true, some mm, blkB 127 (blkR K bl r)⟩, ⟨true, some res, blkB 129 (List.replicate 16 0)⟩, ⟨true, some bb, blkB 129 bl⟩]) 4 ⟨0, by omega, by omega, hF.sub ⟨rfl, rfl, rfl, rfl, rfl, rfl, rfl, rfl, rfl, trivial⟩, hS⟩ ?_
            rintro q a w ⟨i, hi4, hq, hF, hS⟩
            refine wp_seq_k fun Kq38 hKq38 => ?_
            -- region 30 (cipher.go:89)
            refine wp_region_lit ?_
            refine wpList_stp (stp_gv hF (wanted_none rfl) rfl rfl (gv_lss rfl (hF.t rfl) (ev_const _ _)) fun a hF => ?_)
            refine wpList_nil ?_
            refine then_normal (hKq38 _ _ ?_)
            refine wp_seq_k fun Kq39 hKq39 => ?_
            refine cond_dec (hF.t rfl) (fun hc111 => ?_) (fun hc111 => ?_)
            ·
              refine wp_skip ?_
              refine then_normal (hKq39 _ _ ?_)
              refine wp_seq_k fun Kq40 hKq40 => ?_
              refine wp_block ?_
              refine wp_seq_k fun Kq41 hKq41 => ?_
              -- region 31 (cipher.go:89)
              refine wp_region_lit ?_
              refine wpList_stp (stp_gv hF (wanted_none rfl) rfl rfl (gv_move rfl (hF.t rfl)) fun a hF => ?_)
              refine wpList_stp (stp_gv hF (wanted_none rfl) rfl rfl (gv_assign rfl (hF.t rfl)) fun a hF => ?_)
              refine wpList_nil ?_
              refine then_normal (hKq41 _ _ ?_)
              -- region 32 (cipher.go:90)
              refine Fw.wp_region_draw (by kernel_rfl) fun w hx => ?_
              replace hS := hS.ext hx
              clear hx
              refine run_head0 (n := 18) _ hF (by kernel_rfl) rfl ?_
              refine dw_gv hF rfl (wanted_none rfl) rfl rfl (fun w hx => gv_move rfl (hF.t rfl)) fun a hF => ?_
              refine dw_gv hF rfl (wanted_none rfl) rfl rfl (fun w hx => gv_move rfl (hF.t rfl)) fun a hF => ?_
              refine dw_gv hF rfl (wanted_none rfl) rfl rfl (fun w hx => gv_indexArr rfl Tryd.underlying127 Tryd.sz126 (hF.t rfl) (hF.t rfl) (by omega)) fun a hF => ?_
              refine dw_gv hF rfl (wanted_none rfl) rfl rfl (fun w hx => gv_indexArr rfl Tryd.underlying126 Tryd.sz5 (hF.t rfl) (hF.t rfl) (by omega)) fun a hF => ?_
              refine dw_gv hF rfl (wanted_none rfl) rfl rfl (fun w hx => gv_load rfl Tryd.underlying5 rfl (hF.t rfl) (cell_ix ((hS.ext hx).cellB (k := 0) rfl (c * 4 + i) (by rw [addl_len, mixS_len, subl_len, colT_len]; omega)) (by omega))) fun a hF => ?_
              refine dw_gv hF rfl (wanted_none rfl) rfl rfl (fun w hx => gv_move rfl (hF.t rfl)) fun a hF => ?_
              refine dw_gv hF rfl (wanted_none rfl) rfl rfl (fun w hx => gv_move rfl (hF.t rfl)) fun a hF => ?_
              refine dw_gv hF rfl (wanted_none rfl) rfl rfl (fun w hx => gv_move rfl (hF.t rfl)) fun a hF => ?_
              refine dw_gv hF rfl (wanted_none rfl) rfl rfl (fun w hx => gv_move rfl (hF.t rfl)) fun a hF => ?_
              refine dw_gv hF rfl (wanted_none rfl) rfl rfl (fun w hx => gv_nilCheck rfl (hF.t rfl)) fun a hF => ?_
              refine dw_gv hF rfl (wanted_none rfl) rfl rfl (fun w hx => gv_field (r := 0) rfl Tryd.underlying131 rfl rfl Tryd.sz128 (by decide) (hF.t rfl)) fun a hF => ?_
              refine dw_gv hF rfl (wanted_none rfl) rfl rfl (fun w hx => gv_indexArr rfl Tryd.underlying128 Tryd.sz127 (hF.t rfl) (hF.t rfl) (by omega)) fun a hF => ?_
              refine dw_gv hF rfl (wanted_none rfl) rfl rfl (fun w hx => gv_indexArr rfl Tryd.underlying127 Tryd.sz126 (hF.t rfl) (hF.t rfl) (by omega)) fun a hF => ?_
              refine dw_gv hF rfl (wanted_none rfl) rfl rfl (fun w hx => gv_indexArr rfl Tryd.underlying126 Tryd.sz5 (hF.t rfl) (hF.t rfl) (by omega)) fun a hF => ?_
              refine dw_gv hF rfl (wanted_none rfl) rfl rfl (fun w hx => gv_load rfl Tryd.underlying5 rfl (hF.t rfl) (cell_ix (j := (r + 1) * 16 + c * 4 + i) (cell_of ((((hS.ext hx)).toExt (by simp)).keep hs) (at_map (by omega) 0)) (by omega))) fun a hF => ?_
              refine dw_gv hF rfl (wanted_none rfl) rfl rfl (fun w hx => gv_b_xor rfl (hF.t rfl) (hF.t rfl)) fun a hF => ?_
              refine dw_gv hF rfl (wanted_none rfl) rfl rfl (fun w hx => gv_indexArr rfl Tryd.underlying127 Tryd.sz126 (hF.t rfl) (hF.t rfl) (by omega)) fun a hF => ?_
              refine dw_gv hF rfl (wanted_none rfl) rfl rfl (fun w hx => gv_indexArr rfl Tryd.underlying126 Tryd.sz5 (hF.t rfl) (hF.t rfl) (by omega)) fun a hF => ?_
              refine dw_nil fun a w hA hx => ?_
              replace hF := hA _ hF
              replace hS := hS.ext hx
              clear hA hx
              refine run_stp (by kernel_rfl) rfl (stp_storeB (c * 4 + i) hF (wanted_none rfl) rfl rfl Tryd.sz5 (hF.t rfl) (by omega) (hF.t rfl) hS (k := 0) rfl (by rw [addl_len, mixS_len, subl_len, colT_len]; omega) fun w hS => ?_)
              refine run_done (by decide) ?_
              refine block_normal ?_
              refine then_normal (hKq40 _ _ ?_)
              -- region 33 (cipher.go:89)
              refine wp_region_lit ?_
              refine wpList_stp (stp_gv hF (wanted_none rfl) rfl rfl (gv_nadd (n := 1) rfl (hF.t rfl) rfl (by omega)) fun a hF => ?_)
              refine wpList_stp (stp_gv hF (wanted_none rfl) rfl rfl (gv_move rfl (hF.t rfl)) fun a hF => ?_)
              refine wpList_nil ?_
              refine then_normal ?_
              exact ⟨q - 1, by omega, i + 1, by omega, by omega, hF.sub ⟨rfl, rfl, rfl, rfl, rfl, rfl, rfl, rfl, rfl, trivial⟩, hS⟩
            ·
              refine wp_exit ?_
              refine then_exit ?_
              refine then_exit ?_
              refine block_exit ?_
              refine block_normal ?_
              refine then_normal (hKq21 _ _ ?_)
              -- region 34 (cipher.go:78)
              refine wp_region_lit ?_
              refine wpList_stp (stp_gv hF (wanted_none rfl) rfl rfl (gv_nadd (n := 1) rfl (hF.t rfl) rfl (by omega)) fun a hF => ?_)
              refine wpList_stp (stp_gv hF (wanted_none rfl) rfl rfl (gv_move rfl (hF.t rfl)) fun a hF => ?_)
              refine wpList_nil ?_
              refine then_normal ?_
              obtain rfl : i = 4 := by omega
              exact ⟨m - 1, by omega, c + 1, by omega, by omega, hF.sub ⟨rfl, rfl, rfl, rfl, rfl, rfl, rfl, trivial⟩, by rw [colT_succ]; exact hS⟩
      ·
        refine wp_exit ?_
        refine then_exit ?_
        refine then_exit ?_
        refine block_exit ?_
        refine then_normal (hKq17 _ _ ?_)
        obtain rfl : c = 4 := by omega
        -- region 35 (cipher.go:93)
        refine wp_region_lit ?_
        refine wpList_stp (stp_gv hF (wanted_none rfl) rfl rfl (gv_loadAll rfl Tryd.underlying127 rfl (Tryd.sz127.trans (congrArg some (by simp [colT_len]))) (hF.t rfl) hS (k := 0) rfl) fun a hF => ?_)
        refine wpList_stp (stp_storeAll hF (wanted_none rfl) rfl rfl (Tryd.sz127.trans (congrArg some (by simp [colT_len]))) (hF.t rfl) (hF.t rfl) (one_B _) hS (k := 1) rfl (by simp [colT_len, blkR_len]) fun w hS => ?_)
        refine wpList_nil ?_
        refine block_normal ?_
        refine then_normal (hKq15 _ _ ?_)
        -- region 11 (cipher.go:76)
        refine wp_region_lit ?_
        refine wpList_stp (stp_gv hF (wanted_none rfl) rfl rfl (gv_move rfl (hF.t rfl)) fun a hF => ?_)
        refine wpList_stp (stp_gv hF (wanted_none rfl) rfl rfl (gv_nadd (n := 1) rfl (hF.t rfl) rfl (by omega)) fun a hF => ?_)
        refine wpList_stp (stp_gv hF (wanted_none rfl) rfl rfl (gv_assign rfl (hF.t rfl)) fun a hF => ?_)
        refine wpList_nil ?_
        refine then_normal ?_
        exact ⟨n - 1, by omega, r + 1, by omega, by omega, hF.sub ⟨rfl, rfl, rfl, rfl, rfl, trivial⟩, by rw [blkR_succ]; exact hS.drop rfl⟩
    ·
      refine wp_exit ?_
      refine then_exit ?_
      refine then_exit ?_
      refine block_exit ?_
      refine then_normal (hKq11 _ _ ?_)
      refine wp_seq_k fun Kq42 hKq42 => ?_
      refine wp_seq_k fun Kq43 hKq43 => ?_
      -- region 36 (cipher.go:95)
      refine wp_region_lit ?_
      refine wpList_stp (stp_gv hF (wanted_none rfl) rfl rfl (gv_move rfl (ev_const _ _)) fun a hF => ?_)
      refine wpList_nil ?_
      refine then_normal (hKq43 _ _ ?_)
      refine wp_block ?_
      obtain rfl : r = 10 := by omega
      refine wp_loop_n (fun n a w => ∃ i, i ≤ 16 ∧ n = 16 - i ∧ Fr 148 a [(0, .pointer (some ⟨s, 0, none⟩)), (3, .pointer (some ⟨bb, 0, none⟩)), (4, .pointer (some ⟨res, 0, none⟩)), (5, .pointer (some ⟨mm, 0, none⟩)), (134, vI i)] ∧ St w0 w [⟨true, some mm, blkB 127 (blkR K bl 10)⟩, ⟨true, some res, blkB 129 (List.replicate 16 0)⟩, ⟨true, some bb, blkB 129 (outl bl (blkR K bl 10) i)⟩]) 16 ⟨0, by omega, by omega, hF.sub ⟨rfl, rfl, rfl, rfl, rfl, trivial⟩, hS⟩ ?_
      rintro n a w ⟨i, hi16, hn, hF, hS⟩
      refine wp_seq_k fun Kq44 hKq44 => ?_
      -- region 37 (cipher.go:95)
      refine wp_region_lit ?_
      refine wpList_stp (stp_gv hF (wanted_none rfl) rfl rfl (gv_lss rfl (hF.t rfl) (ev_const _ _)) fun a hF => ?_)
      refine wpList_nil ?_
      refine then_normal (hKq44 _ _ ?_)
      refine wp_seq_k fun Kq45 hKq45 => ?_
      refine cond_dec (hF.t rfl) (fun hc135 => ?_) (fun hc135 => ?_)
      ·
        refine wp_skip ?_
        refine then_normal (hKq45 _ _ ?_)
        refine wp_seq_k fun Kq46 hKq46 => ?_
        refine wp_block ?_
        refine wp_seq_k fun Kq47 hKq47 => ?_
        -- region 38 (cipher.go:95)
        refine wp_region_lit ?_
        refine wpList_stp (stp_gv hF (wanted_none rfl) rfl rfl (gv_move rfl (hF.t rfl)) fun a hF => ?_)
        refine wpList_stp (stp_gv hF (wanted_none rfl) rfl rfl (gv_assign rfl (hF.t rfl)) fun a hF => ?_)
        refine wpList_nil ?_
        refine then_normal (hKq47 _ _ ?_)
        -- region 39 (cipher.go:96)
        refine wp_region_lit ?_
        refine wpList_stp (stp_gv hF (wanted_none rfl) rfl rfl (gv_move rfl (hF.t rfl)) fun a hF => ?_)
        refine wpList_stp (stp_gv hF (wanted_none rfl) rfl rfl (gv_move rfl (hF.t rfl)) fun a hF => ?_)
        refine wpList_stp (stp_gv hF (wanted_none rfl) rfl rfl (gv_nquo (n := 4) rfl (hF.t rfl) rfl (by omega) (by omega)) fun a hF => ?_)
        refine wpList_stp (stp_gv hF (wanted_none rfl) rfl rfl (gv_move rfl (hF.t rfl)) fun a hF => ?_)
        refine wpList_stp (stp_gv hF (wanted_none rfl) rfl rfl (gv_nrem (n := 4) rfl (hF.t rfl) rfl (by omega)) fun a hF => ?_)
        refine wpList_stp (stp_gv hF (wanted_none rfl) rfl rfl (gv_indexArr rfl Tryd.underlying127 Tryd.sz126 (hF.t rfl) (hF.t rfl) (by omega)) fun a hF => ?_)
        refine wpList_stp (stp_gv hF (wanted_none rfl) rfl rfl (gv_indexArr rfl Tryd.underlying126 Tryd.sz5 (hF.t rfl) (hF.t rfl) (by omega)) fun a hF => ?_)
        refine wpList_stp (stp_gv hF (wanted_none rfl) rfl rfl (gv_load rfl Tryd.underlying5 rfl (hF.t rfl) (cell_ix (hS.cellB (k := 0) rfl (i) (by rw [blkR_len]; omega)) (by omega))) fun a hF => ?_)
        refine wpList_stp (stp_gv hF (wanted_none rfl) rfl rfl (gv_indexArr rfl Tryd.underlying129 Tryd.sz5 (hF.t rfl) (hF.t rfl) (by omega)) fun a hF => ?_)
        refine wpList_stp (stp_storeB (i) hF (wanted_none rfl) rfl rfl Tryd.sz5 (hF.t rfl) (by omega) (hF.t rfl) hS (k := 2) rfl (by rw [outl_len, hb]; omega) fun w hS => ?_)
        refine wpList_nil ?_
        refine block_normal ?_
        refine then_normal (hKq46 _ _ ?_)
        -- region 40 (cipher.go:95)
        refine wp_region_lit ?_
        refine wpList_stp (stp_gv hF (wanted_none rfl) rfl rfl (gv_nadd (n := 1) rfl (hF.t rfl) rfl (by omega)) fun a hF => ?_)
        refine wpList_stp (stp_gv hF (wanted_none rfl) rfl rfl (gv_move rfl (hF.t rfl)) fun a hF => ?_)
        refine wpList_nil ?_
        refine then_normal ?_
        exact ⟨n - 1, by omega, i + 1, by omega, by omega, hF.sub ⟨rfl, rfl, rfl, rfl, rfl, trivial⟩, hS⟩
      ·
        refine wp_exit ?_
        refine then_exit ?_
        refine then_exit ?_
        refine block_exit ?_
        refine then_normal (hKq42 _ _ ?_)
        refine wp_seq_k fun Kq48 hKq48 => ?_
        obtain rfl : i = 16 := by omega
        -- region 41 (cipher.go:98)
        refine wp_region_lit ?_
        refine wpList_stp (stp_gv hF (wanted_none rfl) rfl rfl (gv_loadAll rfl Tryd.underlying129 rfl (Tryd.sz129.trans (congrArg some (by simp [outl_len, hb]))) (hF.t rfl) hS (k := 2) rfl) fun a hF => ?_)
        refine wpList_stp (stp_storeAll hF (wanted_none rfl) rfl rfl (Tryd.sz129.trans (congrArg some (by simp [outl_len, hb]))) (hF.t rfl) (hF.t rfl) (one_B _) hS (k := 1) rfl (by simp [outl_len, hb]) fun w hS => ?_)
        refine wpList_nil ?_
        refine then_normal (hKq48 _ _ ?_)
        refine wp_ret ?_
        refine retCell (fn := Tryd.f66) hF rfl Tryd.underlying129 rfl (Tryd.sz129.trans (congrArg some (by simp [outl_len, hb]))) rfl hS (k := 1) rfl ⟨rfl, hS.toExt (by simp)⟩


theorem strm_left {K C : List UInt8} {lv : Value} (hK : K.length = 176) (hC : C.length = 16) : (K.map vB ++ (C.map vB ++ [lv]))[192]? = some lv := by
  rw [List.getElem?_append_right (by simp; omega), List.getElem?_append_right (by simp; omega)]
  simp [hK, hC]
theorem strm_setLeft {K C : List UInt8} {lv v : Value} (hK : K.length = 176) (hC : C.length = 16) : (K.map vB ++ (C.map vB ++ [lv])).set 192 v = K.map vB ++ (C.map vB ++ [v]) := by
  rw [List.set_append, if_neg (by simp; omega), List.set_append, if_neg (by simp; omega)]
  simp [hK, hC]
theorem strm_count {K C : List UInt8} {lv : Value} (hK : K.length = 176) (hC : C.length = 16) : ((K.map vB ++ (C.map vB ++ [lv])).drop 176).take (C.map vB).length = C.map vB := by
  rw [List.drop_left' (by simp; omega), List.take_left]
theorem strm_len {K C : List UInt8} {lv : Value} (hK : K.length = 176) (hC : C.length = 16) : (K.map vB ++ (C.map vB ++ [lv])).length = 193 := by simp; omega
/-- The counter, one higher. -/
def incl (C : List UInt8) : Nat → List UInt8
  | 0 => C
  | j + 1 => if C.getD j 0 + 1 ≠ 0 then C.set j (C.getD j 0 + 1) else incl (C.set j (C.getD j 0 + 1)) j
theorem incl_len (C : List UInt8) (j : Nat) : (incl C j).length = C.length := by
  induction j generalizing C with
  | zero => rfl
  | succ j ih => unfold incl; split <;> simp [ih]
def incC (C : List UInt8) : List UInt8 := incl C 16
theorem incC_len (C : List UInt8) : (incC C).length = C.length := incl_len C 16
def kstep (K : List UInt8) (s : List UInt8 × List UInt8) : List UInt8 × List UInt8 := if s.2.length = 0 then (incC s.1, blockF K s.1) else s
def kst (K : List UInt8) (s : List UInt8 × List UInt8) : Nat → List UInt8 × List UInt8
  | 0 => s
  | n + 1 => ((kstep K (kst K s n)).1, (kstep K (kst K s n)).2.drop 1)
theorem kst_succ (K : List UInt8) (s : List UInt8 × List UInt8) (n : Nat) : kst K s (n + 1) = ((kstep K (kst K s n)).1, (kstep K (kst K s n)).2.drop 1) := rfl
theorem kstep_len {K : List UInt8} {s : List UInt8 × List UInt8} (h : s.1.length = 16) : (kstep K s).1.length = 16 := by
  unfold kstep; split
  · rw [incC_len, h]
  · exact h
theorem kst_len {K : List UInt8} {s : List UInt8 × List UInt8} (h : s.1.length = 16) (n : Nat) : (kst K s n).1.length = 16 := by
  induction n with
  | zero => exact h
  | succ n ih => exact kstep_len ih
theorem kstep_pos {K : List UInt8} {s : List UInt8 × List UInt8} (h : s.1.length = 16) : 0 < (kstep K s).2.length := by
  unfold kstep; split
  · simp only; rw [blockF_len h]; omega
  · omega
def kby (K : List UInt8) (s : List UInt8 × List UInt8) (n : Nat) : UInt8 := (kstep K (kst K s n)).2.getD 0 0
def outT (K : List UInt8) (s : List UInt8 × List UInt8) (bl : List UInt8) : Nat → List UInt8
  | 0 => bl
  | k + 1 => (outT K s bl k).set k ((outT K s bl k).getD k 0 ^^^ kby K s k)
theorem outT_succ (K : List UInt8) (s : List UInt8 × List UInt8) (bl : List UInt8) (k : Nat) : outT K s bl (k + 1) = (outT K s bl k).set k ((outT K s bl k).getD k 0 ^^^ (kstep K (kst K s k)).2.getD 0 0) := rfl
theorem outT_len (K : List UInt8) (s : List UInt8 × List UInt8) (bl : List UInt8) (k : Nat) : (outT K s bl k).length = bl.length := by
  induction k with
  | zero => rfl
  | succ k ih => rw [outT, List.length_set, ih]
def ctr (j : Nat) : Value := .int .i64 ((j : Int) - 1)
theorem ctr_succ (j : Nat) : ctr (j + 1) = vI j := by
  unfold ctr vI
  rw [show (((j + 1 : Nat) : Int) - 1) = (j : Int) by omega]
theorem set_getD {l : List UInt8} {j : Nat} (h : j < l.length) (x : UInt8) : (l.set j x).getD j 0 = x := by
  rw [List.getD_eq_getElem?_getD, List.getElem?_set_self h]; rfl
theorem ne0 {x : UInt8} (h : (x.toNat : Int) ≠ 0) : x ≠ 0 := fun e => h (by rw [e]; rfl)
theorem eq0 {x : UInt8} (h : ¬ (x.toNat : Int) ≠ 0) : x = 0 := UInt8.toNat_inj.1 (by have : (x.toNat : Int) = 0 := Classical.not_not.1 h; rw [Int.natCast_eq_zero.1 this]; rfl)
theorem len0 {n : Nat} (h : (n : Int) = 0) : n = 0 := by omega
/-- The new block takes the place of the one that is spent. -/
theorem move_kb {w00 w : World} {e1 e2 e3 k : Ent} {T : List Ent} (h : St w00 w (k :: e1 :: e2 :: e3 :: T)) (hn : e3.nw = true) : St w00 w (e1 :: e2 :: k :: T) := by
  have h1 := (h.move (k := 3) rfl).drop hn
  simp only [List.eraseIdx_cons_succ, List.eraseIdx_cons_zero] at h1
  have h2 := h1.move (k := 2) rfl
  simp only [List.eraseIdx_cons_succ, List.eraseIdx_cons_zero] at h2
  have h3 := h2.move (k := 2) rfl
  simp only [List.eraseIdx_cons_succ, List.eraseIdx_cons_zero] at h3
  exact h3
theorem nlen0 {n : Nat} (h : ¬ (n : Int) = 0) : ¬ n = 0 := by omega


set_option maxHeartbeats 2000000 in
theorem turn_ok {s : Nat} {K C L bl B : List UInt8} {lv bv : Value} {okb : Option Nat} {w00 w : World} {T : List Ent} (hT : ∀ e ∈ T, e.nw = true) (hS : St w00 w (⟨true, some s, strm K C lv⟩ :: ⟨true, okb, blkB 129 B⟩ :: T)) (hL : SRd w00 [⟨true, okb, blkB 129 B⟩] lv (L.map vB)) (hb : SRd w00 T bv (bl.map vB)) (hK : K.length = 176) (hC : C.length = 16) (hn : bl.length ≤ 1099511627776) :
    Calls Tryd.prog 46 #[.pointer (some ⟨s, 0, none⟩), bv] w fun e w' => ∃ ob pad lv1 okb1 B1, e = .returned (ownV ob bl.length (bl.length + pad.length)) ∧ (ob = none → bl = [] ∧ pad = []) ∧ bl.length + pad.length ≤ 9223372036854775807 ∧
      St w00 w' (⟨true, ob, blk 5 ((outT K (C, L) bl bl.length).map vB ++ pad)⟩ :: ⟨true, some s, strm K (kst K (C, L) bl.length).1 lv1⟩ :: ⟨true, okb1, blkB 129 B1⟩ :: T) ∧ SRd w00 [⟨true, okb1, blkB 129 B1⟩] lv1 ((kst K (C, L) bl.length).2.map vB) := by
  have hR := hb w _ hS (nw_cons rfl (nw_cons rfl hT)) (fun e he => by simp [he])
  refine calls_start 77 Tryd.func46 rfl Tryd.ntmps46 rfl fun a hF => ?_
  refine wp_seq_k fun Kq1 hKq1 => ?_
  -- region 0 (cipher.go:102)
  refine wp_region_lit ?_
  refine wpList_stp (stp_gv hF (wanted_none rfl) rfl rfl (gv_assign rfl (ev_const _ _)) fun a hF => ?_)
  refine wpList_nil ?_
  refine then_normal (hKq1 _ _ ?_)
  refine wp_seq_k fun Kq2 hKq2 => ?_
  refine wp_seq_k fun Kq3 hKq3 => ?_
  -- region 1 (cipher.go:103)
  refine wp_region_lit ?_
  refine wpList_stp (stp_gv hF (wanted_none rfl) rfl rfl (gv_move rfl (hF.t rfl)) fun a hF => ?_)
  refine wpList_stp (stp_gv hF (wanted_none rfl) rfl rfl (gv_eqlNil rfl Tryd.underlying33 (hF.t rfl) (ev_const _ _)) fun a hF => ?_)
  refine wpList_nil ?_
  refine then_normal (hKq3 _ _ ?_)
  refine wp_cond_false (hF.t rfl) ?_
  refine wp_skip ?_
  refine then_normal (hKq2 _ _ ?_)
  refine wp_seq_k fun Kq4 hKq4 => ?_
  -- region 3 (cipher.go:106)
  refine wp_region_lit ?_
  refine wpList_stp (stp_gv hF (wanted_none rfl) rfl rfl (gv_move rfl (hF.t rfl)) fun a hF => ?_)
  replace hS := hS.addNil (blk 5 ([] ++ []))
  refine wpList_stp (stp_append (ob := none) (xs := []) (pad := []) (k := 0) hF (wanted_none rfl) rfl rfl rfl Tryd.underlying22 Tryd.ty5 rfl rfl (hF.t rfl) hS rfl (fun _ => ⟨rfl, rfl⟩) (by simp) hR (one_B _) (by simp; omega) (by simp; omega) fun ob pad a w hF hob hcap hS => ?_)
  simp only [List.length_nil, Nat.zero_add, List.nil_append, List.length_map, List.map_eq_nil_iff] at hF hS hob hcap
  refine wpList_stp (stp_gv hF (wanted_none rfl) rfl rfl (gv_assign rfl (hF.t rfl)) fun a hF => ?_)
  refine wpList_nil ?_
  refine then_normal (hKq4 _ _ ?_)
  refine wp_seq_k fun Kq5 hKq5 => ?_
  refine wp_seq_k fun Kq6 hKq6 => ?_
  -- region 4 (cipher.go:107)
  refine wp_region_lit ?_
  refine wpList_stp (stp_gv hF (wanted_none rfl) rfl rfl (gv_move rfl (hF.t rfl)) fun a hF => ?_)
  refine wpList_stp (stp_gv hF (wanted_none rfl) rfl rfl (gv_lenOwn rfl Tryd.underlying22 (hF.t rfl) (fun h => by rw [(hob h).1]; rfl)) fun a hF => ?_)
  refine wpList_stp (stp_gv hF (wanted_none rfl) rfl rfl (gv_move rfl (ev_const _ _)) fun a hF => ?_)
  refine wpList_nil ?_
  refine then_normal (hKq6 _ _ ?_)
  refine wp_block ?_
  refine wp_loop_n (fun n a w => ∃ k lv1 okb1 B1, k ≤ bl.length ∧ n = bl.length - k ∧ Fr 77 a [(0, .pointer (some ⟨s, 0, none⟩)), (5, ownV ob bl.length (bl.length + pad.length)), (14, vI bl.length), (15, vI k)] ∧ St w00 w (⟨true, ob, blk 5 ((outT K (C, L) bl k).map vB ++ pad)⟩ :: ⟨true, some s, strm K ((kst K (C, L) k).1) (lv1)⟩ :: ⟨true, okb1, blkB 129 B1⟩ :: T) ∧ SRd w00 [⟨true, okb1, blkB 129 B1⟩] lv1 ((kst K (C, L) k).2.map vB)) bl.length ⟨0, lv, okb, B, by omega, by omega, hF.sub ⟨rfl, rfl, rfl, rfl, trivial⟩, hS, hL⟩ ?_
  rintro n a w ⟨k, lv1, okb1, B1, hk, hnk, hF, hS, hL1⟩
  have hR1 := hL1 w _ hS (nw_cons rfl (nw_cons rfl (nw_cons rfl hT))) (by simp)
  have hCk : (kst K (C, L) k).1.length = 16 := kst_len hC k
  obtain ⟨A1, c1, rfl, hc1, hc2, hcell1⟩ := hR1.isB
  refine wp_seq_k fun Kq7 hKq7 => ?_
  -- region 5 (cipher.go:107)
  refine wp_region_lit ?_
  refine wpList_stp (stp_gv hF (wanted_none rfl) rfl rfl (gv_lss rfl (hF.t rfl) (hF.t rfl)) fun a hF => ?_)
  refine wpList_nil ?_
  refine then_normal (hKq7 _ _ ?_)
  refine wp_seq_k fun Kq8 hKq8 => ?_
  refine cond_dec (hF.t rfl) (fun h16 => ?_) (fun h16 => ?_)
  ·
    obtain ⟨ob, rfl⟩ := own_some hob (by omega)
    refine wp_skip ?_
    refine then_normal (hKq8 _ _ ?_)
    refine wp_seq_k fun Kq9 hKq9 => ?_
    refine wp_block ?_
    refine wp_seq_k fun Kq10 hKq10 => ?_
    -- region 6 (cipher.go:107)
    refine wp_region_lit ?_
    refine wpList_stp (stp_gv hF (wanted_none rfl) rfl rfl (gv_move rfl (hF.t rfl)) fun a hF => ?_)
    refine wpList_stp (stp_gv hF (wanted_none rfl) rfl rfl (gv_assign rfl (hF.t rfl)) fun a hF => ?_)
    refine wpList_nil ?_
    refine then_normal (hKq10 _ _ ?_)
    refine wp_cut (fun a w => ∃ lv1 okb1 B1, Fr 77 a [(0, .pointer (some ⟨s, 0, none⟩)), (5, ownV (some ob) bl.length (bl.length + pad.length)), (14, vI bl.length), (15, vI k), (6, vI k)] ∧ St w00 w (⟨true, some ob, blk 5 ((outT K (C, L) bl k).map vB ++ pad)⟩ :: ⟨true, some s, strm K ((kstep K (kst K (C, L) k)).1) (lv1)⟩ :: ⟨true, okb1, blkB 129 B1⟩ :: T) ∧ SRd w00 [⟨true, okb1, blkB 129 B1⟩] lv1 ((kstep K (kst K (C, L) k)).2.map vB)) ?_ ?_
    ·
      refine wp_seq_k fun Kq11 hKq11 => ?_
      -- region 7 (cipher.go:108)
      refine wp_region_lit ?_
      refine wpList_stp (stp_gv hF (wanted_none rfl) rfl rfl (gv_move rfl (hF.t rfl)) fun a hF => ?_)
      refine wpList_stp (stp_gv hF (wanted_none rfl) rfl rfl (gv_nilCheck rfl (hF.t rfl)) fun a hF => ?_)
      refine wpList_stp (stp_gv hF (wanted_none rfl) rfl rfl (gv_field (r := 192) rfl Tryd.underlying131 rfl rfl Tryd.sz22 (by decide) (hF.t rfl)) fun a hF => ?_)
      refine wpList_stp (stp_gv hF (wanted_none rfl) rfl rfl (gv_load rfl Tryd.underlying22 rfl (hF.t rfl) (cell_ix (j := 192) (hS.cell (k := 1) rfl (strm_left hK hCk)) (by omega))) fun a hF => ?_)
      refine wpList_stp (stp_gv hF (wanted_none rfl) rfl rfl (gv_len rfl Tryd.underlying22 (hF.t rfl)) fun a hF => ?_)
      refine wpList_stp (stp_gv hF (wanted_none rfl) rfl rfl (gv_eql rfl (hF.t rfl) (ev_const _ _)) fun a hF => ?_)
      refine wpList_nil ?_
      refine then_normal (hKq11 _ _ ?_)
      refine cond_dec (hF.t rfl) (fun h23 => ?_) (fun h23 => ?_)
      ·
        refine wp_seq_k fun Kq12 hKq12 => ?_
        -- region 8 (cipher.go:109)
        refine wp_region_lit ?_
        refine wpList_stp (stp_gv hF (wanted_none rfl) rfl rfl (gv_move rfl (hF.t rfl)) fun a hF => ?_)
        refine wpList_stp (stp_gv hF (wanted_none rfl) rfl rfl (gv_move rfl (hF.t rfl)) fun a hF => ?_)
        refine wpList_stp (stp_gv hF (wanted_none rfl) rfl rfl (gv_nilCheck rfl (hF.t rfl)) fun a hF => ?_)
        refine wpList_stp (stp_gv hF (wanted_none rfl) rfl rfl (gv_field (r := 176) rfl Tryd.underlying131 rfl rfl Tryd.sz129 (by decide) (hF.t rfl)) fun a hF => ?_)
        refine wpList_stp (stp_gv hF (wanted_none rfl) rfl rfl (gv_loadPartAt (j := 176) (vs := ((kst K (C, L) k).1.map vB)) rfl Tryd.underlying129 rfl (Tryd.sz129.trans (congrArg some (by rw [List.length_map, hCk]))) (hF.t rfl) (by omega) hS (k := 1) rfl (strm_count hK hCk)) fun a hF => ?_)
        refine wpList_stp (stp_call hF (wanted_none rfl) rfl rfl Tryd.ok66 rfl (Evs.cons (hF.t rfl) (Evs.cons (hF.t rfl) Evs.nil)) (block_ok (hS.has _ (List.mem_of_getElem? (i := 1) rfl) _ rfl) hK hCk) fun e w h => ?_)
        obtain ⟨rfl, hx⟩ := h
        refine ⟨_, rfl, fun a hF => ?_⟩
        replace hS := hS.ext hx
        clear hx
        refine wpList_stp (stp_alloc hF (wanted_none rfl) rfl rfl rfl Tryd.zv129 rfl hS fun kb a w hF hS => ?_)
        refine wpList_stp (stp_storeAll hF (wanted_none rfl) rfl rfl (Tryd.sz129.trans (congrArg some (by rw [List.length_map, blockF_len hCk]))) (hF.t rfl) (hF.t rfl) (one_B _) hS (k := 0) rfl (by rw [List.length_map, blockF_len hCk]; rfl) fun w hS => ?_)
        refine wpList_nil ?_
        refine then_normal (hKq12 _ _ ?_)
        refine wp_seq_k fun Kq13 hKq13 => ?_
        -- region 9 (cipher.go:110)
        refine wp_region_lit ?_
        refine wpList_stp (stp_gv hF (wanted_none rfl) rfl rfl (gv_move rfl (hF.t rfl)) fun a hF => ?_)
        refine wpList_stp (stp_gv hF (wanted_none rfl) rfl rfl (gv_sliceArr rfl Tryd.underlying129 Tryd.sz5 (hF.t rfl)) fun a hF => ?_)
        refine wpList_stp (stp_gv hF (wanted_none rfl) rfl rfl (gv_nilCheck rfl (hF.t rfl)) fun a hF => ?_)
        refine wpList_stp (stp_gv hF (wanted_none rfl) rfl rfl (gv_field (r := 192) rfl Tryd.underlying131 rfl rfl Tryd.sz22 (by decide) (hF.t rfl)) fun a hF => ?_)
        refine wpList_stp (stp_storeAt (192) hF (wanted_none rfl) rfl rfl Tryd.sz22 (hF.t rfl) (by omega) (hF.t rfl) rfl hS (k := 2) rfl (by rw [strm_len hK hCk]; omega) fun w hS => ?_)
        rw [strm_setLeft hK hCk] at hS
        refine wpList_nil ?_
        refine then_normal (hKq13 _ _ ?_)
        refine wp_seq_k fun Kq14 hKq14 => ?_
        -- region 10 (cipher.go:111)
        refine wp_region_lit ?_
        refine wpList_stp (stp_gv hF (wanted_none rfl) rfl rfl (gv_assign rfl (ev_const _ _)) fun a hF => ?_)
        refine wpList_nil ?_
        refine then_normal (hKq14 _ _ ?_)
        refine wp_block ?_
        refine wp_loop_n (fun q a w => ∃ j D, j ≤ 16 ∧ q = j ∧ D.length = 16 ∧ incl D j = incC (kst K (C, L) k).1 ∧ Fr 77 a [(0, .pointer (some ⟨s, 0, none⟩)), (5, ownV (some ob) bl.length (bl.length + pad.length)), (6, vI k), (14, vI bl.length), (15, vI k), (8, ctr j)] ∧ St w00 w (⟨true, some kb, blkB 129 (blockF K (kst K (C, L) k).1)⟩ :: ⟨true, some ob, blk 5 ((outT K (C, L) bl k).map vB ++ pad)⟩ :: ⟨true, some s, strm K D (.slice (some ⟨kb, 0, none⟩) 16 16)⟩ :: ⟨true, okb1, blkB 129 B1⟩ :: T)) 16 ⟨16, (kst K (C, L) k).1, by omega, rfl, hCk, rfl, hF.sub ⟨rfl, rfl, rfl, rfl, rfl, rfl, trivial⟩, hS⟩ ?_
        rintro q a w ⟨j, D, hj, hq, hCj, hinc, hF, hS⟩
        refine wp_seq_k fun Kq15 hKq15 => ?_
        refine wp_seq_k fun Kq16 hKq16 => ?_
        -- region 11 (cipher.go:111)
        refine wp_region_lit ?_
        refine wpList_stp (stp_gv hF (wanted_none rfl) rfl rfl (gv_move rfl (hF.t rfl)) fun a hF => ?_)
        refine wpList_stp (stp_gv hF (wanted_none rfl) rfl rfl (gv_geq rfl (hF.t rfl) (ev_const _ _)) fun a hF => ?_)
        refine wpList_nil ?_
        refine then_normal (hKq16 _ _ ?_)
        refine cond_dec (hF.t rfl) (fun h35 => ?_) (fun h35 => ?_)
        ·
          obtain ⟨j, rfl⟩ : ∃ i, j = i + 1 := ⟨j - 1, by omega⟩
          replace hF : Fr 77 a [(0, .pointer (some ⟨s, 0, none⟩)), (5, ownV (some ob) bl.length (bl.length + pad.length)), (6, vI k), (14, vI bl.length), (15, vI k), (8, vI j)] := hF.sub ⟨rfl, rfl, rfl, rfl, rfl, congrArg some (ctr_succ j), trivial⟩
          refine wp_skip ?_
          refine then_normal (hKq15 _ _ ?_)
          refine wp_seq_k fun Kq17 hKq17 => ?_
          refine wp_block ?_
          refine wp_seq_k fun Kq18 hKq18 => ?_
          -- region 13 (cipher.go:112)
          refine Fw.wp_region_draw (by kernel_rfl) fun w hx => ?_
          replace hS := hS.ext hx
          clear hx
          refine run_head0 (n := 10) _ hF (by kernel_rfl) rfl ?_
          refine dw_gv hF rfl (wanted_none rfl) rfl rfl (fun w hx => gv_move rfl (hF.t rfl)) fun a hF => ?_
          refine dw_gv hF rfl (wanted_none rfl) rfl rfl (fun w hx => gv_move rfl (hF.t rfl)) fun a hF => ?_
          refine dw_gv hF rfl (wanted_none rfl) rfl rfl (fun w hx => gv_nilCheck rfl (hF.t rfl)) fun a hF => ?_
          refine dw_gv hF rfl (wanted_none rfl) rfl rfl (fun w hx => gv_field (r := 176) rfl Tryd.underlying131 rfl rfl Tryd.sz129 (by decide) (hF.t rfl)) fun a hF => ?_
          refine dw_gv hF rfl (wanted_none rfl) rfl rfl (fun w hx => gv_indexArr rfl Tryd.underlying129 Tryd.sz5 (hF.t rfl) (hF.t rfl) (by omega)) fun a hF => ?_
          refine dw_gv hF rfl (wanted_none rfl) rfl rfl (fun w hx => gv_load rfl Tryd.underlying5 rfl (hF.t rfl) (cell_ix (j := 176 + j) ((hS.ext hx).cell (k := 2) rfl (at_map2 (by rw [List.length_map, hK]) (by omega) 0)) (by omega))) fun a hF => ?_
          refine dw_gv hF rfl (wanted_none rfl) rfl rfl (fun w hx => gv_b_add (n := 1) rfl (hF.t rfl) rfl) fun a hF => ?_
          refine dw_gv hF rfl (wanted_none rfl) rfl rfl (fun w hx => gv_nilCheck rfl (hF.t rfl)) fun a hF => ?_
          refine dw_gv hF rfl (wanted_none rfl) rfl rfl (fun w hx => gv_field (r := 176) rfl Tryd.underlying131 rfl rfl Tryd.sz129 (by decide) (hF.t rfl)) fun a hF => ?_
          refine dw_gv hF rfl (wanted_none rfl) rfl rfl (fun w hx => gv_indexArr rfl Tryd.underlying129 Tryd.sz5 (hF.t rfl) (hF.t rfl) (by omega)) fun a hF => ?_
          refine dw_nil fun a w hA hx => ?_
          replace hF := hA _ hF
          replace hS := hS.ext hx
          clear hA hx
          refine run_stp (by kernel_rfl) rfl (stp_storeAt (176 + j) hF (wanted_none rfl) rfl rfl Tryd.sz5 (hF.t rfl) (by omega) (hF.t rfl) rfl hS (k := 2) rfl (by rw [strm_len hK hCj]; omega) fun w hS => ?_)
          simp only [List.set_cons_succ, List.set_cons_zero] at hS
          rw [set_map2 (by rw [List.length_map, hK]) (by omega)] at hS
          refine run_done (by decide) ?_
          refine then_normal (hKq18 _ _ ?_)
          refine wp_seq_k fun Kq19 hKq19 => ?_
          -- region 14 (cipher.go:112)
          refine wp_region_lit ?_
          refine wpList_stp (stp_gv hF (wanted_none rfl) rfl rfl (gv_move rfl (hF.t rfl)) fun a hF => ?_)
          refine wpList_stp (stp_gv hF (wanted_none rfl) rfl rfl (gv_move rfl (hF.t rfl)) fun a hF => ?_)
          refine wpList_stp (stp_gv hF (wanted_none rfl) rfl rfl (gv_nilCheck rfl (hF.t rfl)) fun a hF => ?_)
          refine wpList_stp (stp_gv hF (wanted_none rfl) rfl rfl (gv_field (r := 176) rfl Tryd.underlying131 rfl rfl Tryd.sz129 (by decide) (hF.t rfl)) fun a hF => ?_)
          refine wpList_stp (stp_gv hF (wanted_none rfl) rfl rfl (gv_indexArr rfl Tryd.underlying129 Tryd.sz5 (hF.t rfl) (hF.t rfl) (by omega)) fun a hF => ?_)
          refine wpList_stp (stp_gv hF (wanted_none rfl) rfl rfl (gv_load rfl Tryd.underlying5 rfl (hF.t rfl) (cell_ix (j := 176 + j) (hS.cell (k := 2) rfl (at_map2 (by rw [List.length_map, hK]) (by rw [List.length_set]; omega) 0)) (by omega))) fun a hF => ?_)
          refine wpList_stp (stp_gv hF (wanted_none rfl) rfl rfl (gv_neq rfl (hF.t rfl) (ev_const _ _)) fun a hF => ?_)
          refine wpList_nil ?_
          refine then_normal (hKq19 _ _ ?_)
          refine cond_dec (hF.t rfl) (fun h54 => ?_) (fun h54 => ?_)
          ·
            refine wp_exit ?_
            refine block_exit_ne (by decide) ?_
            refine then_exit ?_
            refine then_exit ?_
            refine block_exit ?_
            refine then_normal ?_
            rw [set_getD (by omega)] at h54
            have hks : kstep K (kst K (C, L) k) = (D.set j (D.getD j 0 + 1), blockF K (kst K (C, L) k).1) := by rw [kstep, if_pos (len0 h23), ← hinc, incl, if_pos (ne0 h54)]
            refine ⟨_, some kb, _, hF.sub ⟨rfl, rfl, rfl, rfl, rfl, trivial⟩, by rw [hks]; exact move_kb hS rfl, by rw [hks]; exact SRd.arr List.mem_cons_self (blockF_len hCk) (by omega)⟩
          ·
            refine wp_skip ?_
            refine block_normal ?_
            refine then_normal (hKq17 _ _ ?_)
            -- region 12 (cipher.go:111)
            refine wp_region_lit ?_
            refine wpList_stp (stp_gv hF (wanted_none rfl) rfl rfl (gv_move rfl (hF.t rfl)) fun a hF => ?_)
            refine wpList_stp (stp_gv hF (wanted_none rfl) rfl rfl (gv_sub rfl (hF.t rfl) (ev_const _ _) (by omega) (by omega)) fun a hF => ?_)
            refine wpList_stp (stp_gv hF (wanted_none rfl) rfl rfl (gv_assign rfl (hF.t rfl)) fun a hF => ?_)
            refine wpList_nil ?_
            refine then_normal ?_
            rw [set_getD (by omega)] at h54
            have hz : D.getD j 0 + 1 = 0 := eq0 h54
            exact ⟨q - 1, by omega, j, D.set j (D.getD j 0 + 1), by omega, by omega, by rw [List.length_set, hCj], by rw [← hinc, incl, if_neg (fun h => h hz)], hF.sub ⟨rfl, rfl, rfl, rfl, rfl, rfl, trivial⟩, hS⟩
        ·
          refine wp_exit ?_
          refine then_exit ?_
          refine then_exit ?_
          refine block_exit ?_
          refine then_normal ?_
          obtain rfl : j = 0 := by omega
          have hks : kstep K (kst K (C, L) k) = (D, blockF K (kst K (C, L) k).1) := by rw [kstep, if_pos (len0 h23), ← hinc]; rfl
          refine ⟨_, some kb, _, hF.sub ⟨rfl, rfl, rfl, rfl, rfl, trivial⟩, by rw [hks]; exact move_kb hS rfl, by rw [hks]; exact SRd.arr List.mem_cons_self (blockF_len hCk) (by omega)⟩
      ·
        refine wp_skip ?_
        refine then_normal ?_
        have hks : kstep K (kst K (C, L) k) = kst K (C, L) k := by rw [kstep, if_neg (nlen0 h23)]
        exact ⟨_, okb1, B1, hF.sub ⟨rfl, rfl, rfl, rfl, rfl, trivial⟩, by rw [hks]; exact hS, by rw [hks]; exact hL1⟩
    · rintro a w ⟨lv1, okb1, B1, hF, hS, hL1⟩
      have hCs : (kstep K (kst K (C, L) k)).1.length = 16 := kstep_len hCk
      have hpos : 0 < (kstep K (kst K (C, L) k)).2.length := kstep_pos hCk
      have hR1 := hL1 w _ hS (nw_cons rfl (nw_cons rfl (nw_cons rfl hT))) (by simp)
      clear hcell1 hc1 hc2
      obtain ⟨A1, c1, rfl, hc1, hc2, hcell1⟩ := hR1.isB
      obtain ⟨b1, o1, rfl, hcell1⟩ := hcell1 hpos
      refine wp_seq_k fun Kq20 hKq20 => ?_
      -- region 15 (cipher.go:117)
      refine Fw.wp_region_draw (by kernel_rfl) fun w hx => ?_
      replace hS := hS.ext hx
      replace hR1 := hR1.ext hx
      clear hx
      refine run_head0 (n := 12) _ hF (by kernel_rfl) rfl ?_
      refine dw_gv hF rfl (wanted_none rfl) rfl rfl (fun w hx => gv_move rfl (hF.t rfl)) fun a hF => ?_
      refine dw_gv hF rfl (wanted_none rfl) rfl rfl (fun w hx => gv_move rfl (hF.t rfl)) fun a hF => ?_
      refine dw_gv hF rfl (wanted_none rfl) rfl rfl (fun w hx => gv_indexSl rfl Tryd.underlying22 Tryd.sz5 (hF.t rfl) (hF.t rfl) (by omega)) fun a hF => ?_
      refine dw_gv hF rfl (wanted_none rfl) rfl rfl (fun w hx => gv_load rfl Tryd.underlying5 rfl (hF.t rfl) (cell_ix (j := k) ((hS.ext hx).cell (k := 0) rfl (at_map (by rw [outT_len]; omega) 0)) (by omega))) fun a hF => ?_
      refine dw_gv hF rfl (wanted_none rfl) rfl rfl (fun w hx => gv_move rfl (hF.t rfl)) fun a hF => ?_
      refine dw_gv hF rfl (wanted_none rfl) rfl rfl (fun w hx => gv_nilCheck rfl (hF.t rfl)) fun a hF => ?_
      refine dw_gv hF rfl (wanted_none rfl) rfl rfl (fun w hx => gv_field (r := 192) rfl Tryd.underlying131 rfl rfl Tryd.sz22 (by decide) (hF.t rfl)) fun a hF => ?_
      refine dw_gv hF rfl (wanted_none rfl) rfl rfl (fun w hx => gv_load rfl Tryd.underlying22 rfl (hF.t rfl) (cell_ix (j := 192) ((hS.ext hx).cell (k := 1) rfl (strm_left hK hCs)) (by omega))) fun a hF => ?_
      refine dw_gv hF rfl (wanted_none rfl) rfl rfl (fun w hx => gv_indexSl (q := 0) rfl Tryd.underlying22 Tryd.sz5 (hF.t rfl) rfl (by omega)) fun a hF => ?_
      refine dw_gv hF rfl (wanted_none rfl) rfl rfl (fun w hx => gv_load rfl Tryd.underlying5 rfl (hF.t rfl) (cell_ix ((hR1.ext hx).cellB 0 hpos) (by omega))) fun a hF => ?_
      refine dw_gv hF rfl (wanted_none rfl) rfl rfl (fun w hx => gv_b_xor rfl (hF.t rfl) (hF.t rfl)) fun a hF => ?_
      refine dw_gv hF rfl (wanted_none rfl) rfl rfl (fun w hx => gv_indexSl rfl Tryd.underlying22 Tryd.sz5 (hF.t rfl) (hF.t rfl) (by omega)) fun a hF => ?_
      refine dw_nil fun a w hA hx => ?_
      replace hF := hA _ hF
      replace hS := hS.ext hx
      clear hA hx
      refine run_stp (by kernel_rfl) rfl (stp_storeAt (k) hF (wanted_none rfl) rfl rfl Tryd.sz5 (hF.t rfl) (by omega) (hF.t rfl) rfl hS (k := 0) rfl (by simp [outT_len]; omega) fun w hS => ?_)
      simp only [List.set_cons_succ, List.set_cons_zero] at hS
      rw [set_map (by rw [outT_len]; omega)] at hS
      refine run_done (by decide) ?_
      refine then_normal (hKq20 _ _ ?_)
      -- region 16 (cipher.go:118)
      refine wp_region_lit ?_
      refine wpList_stp (stp_gv hF (wanted_none rfl) rfl rfl (gv_move rfl (hF.t rfl)) fun a hF => ?_)
      refine wpList_stp (stp_gv hF (wanted_none rfl) rfl rfl (gv_move rfl (hF.t rfl)) fun a hF => ?_)
      refine wpList_stp (stp_gv hF (wanted_none rfl) rfl rfl (gv_nilCheck rfl (hF.t rfl)) fun a hF => ?_)
      refine wpList_stp (stp_gv hF (wanted_none rfl) rfl rfl (gv_field (r := 192) rfl Tryd.underlying131 rfl rfl Tryd.sz22 (by decide) (hF.t rfl)) fun a hF => ?_)
      refine wpList_stp (stp_gv hF (wanted_none rfl) rfl rfl (gv_load rfl Tryd.underlying22 rfl (hF.t rfl) (cell_ix (j := 192) (hS.cell (k := 1) rfl (strm_left hK hCs)) (by omega))) fun a hF => ?_)
      refine wpList_stp (stp_gv hF (wanted_none rfl) rfl rfl (gv_sliceLo (lo := 1) rfl Tryd.underlying22 Tryd.sz5 (hF.t rfl) rfl (by omega)) fun a hF => ?_)
      refine wpList_stp (stp_gv hF (wanted_none rfl) rfl rfl (gv_nilCheck rfl (hF.t rfl)) fun a hF => ?_)
      refine wpList_stp (stp_gv hF (wanted_none rfl) rfl rfl (gv_field (r := 192) rfl Tryd.underlying131 rfl rfl Tryd.sz22 (by decide) (hF.t rfl)) fun a hF => ?_)
      refine wpList_stp (stp_storeAt (192) hF (wanted_none rfl) rfl rfl Tryd.sz22 (hF.t rfl) (by omega) (hF.t rfl) rfl hS (k := 1) rfl (by rw [strm_len hK hCs]; omega) fun w hS => ?_)
      simp only [List.set_cons_succ, List.set_cons_zero] at hS
      rw [strm_setLeft hK hCs] at hS
      refine wpList_nil ?_
      refine block_normal ?_
      refine then_normal (hKq9 _ _ ?_)
      -- region 17 (cipher.go:107)
      refine wp_region_lit ?_
      refine wpList_stp (stp_gv hF (wanted_none rfl) rfl rfl (gv_nadd (n := 1) rfl (hF.t rfl) rfl (by omega)) fun a hF => ?_)
      refine wpList_stp (stp_gv hF (wanted_none rfl) rfl rfl (gv_move rfl (hF.t rfl)) fun a hF => ?_)
      refine wpList_nil ?_
      refine then_normal ?_
      exact ⟨n - 1, by omega, k + 1, _, okb1, B1, by omega, by omega, hF.sub ⟨rfl, rfl, rfl, rfl, trivial⟩, by rw [outT_succ, kst_succ]; exact hS, by rw [kst_succ, List.map_drop]; exact hL1.cutLo (by omega)⟩
  ·
    refine wp_exit ?_
    refine then_exit ?_
    refine then_exit ?_
    refine block_exit ?_
    refine then_normal (hKq5 _ _ ?_)
    refine wp_seq_k fun Kq21 hKq21 => ?_
    obtain rfl : k = bl.length := by omega
    -- region 18 (cipher.go:120)
    refine wp_region_lit ?_
    refine wpList_stp (stp_gv hF (wanted_none rfl) rfl rfl (gv_move rfl (hF.t rfl)) fun a hF => ?_)
    refine wpList_stp (stp_gv hF (wanted_none rfl) rfl rfl (gv_assign rfl (hF.t rfl)) fun a hF => ?_)
    refine wpList_nil ?_
    refine then_normal (hKq21 _ _ ?_)
    refine wp_ret ?_
    refine ret1 (fn := Tryd.f46) (t := 4) hF rfl rfl ?_
    exact ⟨ob, pad, _, okb1, B1, rfl, hob, hcap, hS, hL1⟩


end Go.Proofs.YtfhalnobaeogkaaDoor
