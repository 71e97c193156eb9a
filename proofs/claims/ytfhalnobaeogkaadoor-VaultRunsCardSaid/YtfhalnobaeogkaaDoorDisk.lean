/- What is proved: the contracts of a vault.Disk. -/
import Derived.Test.YtfhalnobaeogkaaDoorProg
import Derived.Test.YtfhalnobaeogkaaDoorFwSep
import Derived.KernelRfl
import Derived.Test.YtfhalnobaeogkaaDoorFwVlt
import Derived.Test.YtfhalnobaeogkaaDoorFwApp
import Derived.Test.YtfhalnobaeogkaaDoorFwWord
import Derived.Test.YtfhalnobaeogkaaDoorFwPkt
import Derived.Test.YtfhalnobaeogkaaDoorFwTok
import Derived.Test.YtfhalnobaeogkaaDoorDig
import Derived.Test.YtfhalnobaeogkaaDoorSum
import Derived.Test.YtfhalnobaeogkaaDoorWire
import Derived.Test.YtfhalnobaeogkaaDoorPktW
import Derived.Test.YtfhalnobaeogkaaDoorPktR
import Derived.Test.YtfhalnobaeogkaaDoorWireA
set_option linter.unusedVariables false
set_option linter.unusedSimpArgs false
namespace Go.Proofs.YtfhalnobaeogkaaDoor
open Go Go.RowKit Go.Fw

theorem Tryd.sz72 : (Tryd.prog.info? 72).map (·.size) = some 64 := by kernel_rfl
theorem Tryd.sz109 : (Tryd.prog.info? 109).map (·.size) = some 1 := by kernel_rfl
theorem Tryd.zv72 : (Tryd.prog.info? 72).map (·.zero) = some (some (Value.agg ((List.replicate 64 (0 : UInt8)).map vB).toArray)) := by kernel_rfl
theorem Tryd.zv111 : (Tryd.prog.info? 111).map (·.zero) = some (some (Value.agg ([Value.slice none 0 0] ++ [Value.int .i64 0] ++ [Value.int .i64 0] ++ [Value.bool false]).toArray)) := by kernel_rfl
theorem Tryd.ty72 : Ty Tryd.prog 72 (Value.agg ((List.replicate 64 (0 : UInt8)).map vB).toArray) 64 64 := ⟨by kernel_rfl⟩


/-- A disk's bytes, its power, whether it gave out. -/
structure Dk where
  l : List UInt8
  fuel : Int
  torn : Nat
  dead : Bool
abbrev dskO (p n c : Nat) (D : Dk) : Obj := blk 111 [.slice (some ⟨p, 0, none⟩) n c, .int .i64 D.fuel, vI D.torn, .bool D.dead]
abbrev datO (D : Dk) (pad : List Value) : Obj := blk 72 (D.l.map vB ++ pad)
/-- A disk of so many blocks. -/
structure DkOk (n : Nat) (D : Dk) : Prop where
  len : D.l.length = 64 * n
  n4 : 4 ≤ n
  n1k : n ≤ 1024
  f0 : -1 ≤ D.fuel
  f1 : D.fuel ≤ 9223372036854775807
  torn : D.torn ≤ 64
/-- The disk lies in memory. -/
structure DskW (w : World) (d p n c : Nat) (D : Dk) : Prop where
  c0 : w.cell? ⟨d, 0, none⟩ = some (.slice (some ⟨p, 0, none⟩) n c)
  c1 : w.cell? ⟨d, 1, none⟩ = some (.int .i64 D.fuel)
  c2 : w.cell? ⟨d, 2, none⟩ = some (vI D.torn)
  c3 : w.cell? ⟨d, 3, none⟩ = some (.bool D.dead)
  dat : ∀ j u, (D.l.map vB)[j]? = some u → w.cell? ⟨p, j, none⟩ = some u
theorem ext_cell {w w' : World} {b i : Nat} {v : Value} (hx : Ext w w') (h : w.cell? ⟨b, i, none⟩ = some v) : w'.cell? ⟨b, i, none⟩ = some v := (cell_same (hx.block b (cell_lt h))).trans h
theorem DskW.ext {w w' : World} {d p n c : Nat} {D : Dk} (h : DskW w d p n c D) (hx : Ext w w') : DskW w' d p n c D :=
  ⟨ext_cell hx h.c0, ext_cell hx h.c1, ext_cell hx h.c2, ext_cell hx h.c3, fun j u hu => ext_cell hx (h.dat j u hu)⟩
theorem dskW_of {w00 w : World} {H : List Ent} {k k' d p n c : Nat} {D : Dk} {pad : List Value} (hS : St w00 w H) (hk : H[k]? = some ⟨true, some d, dskO p n c D⟩) (hk' : H[k']? = some ⟨true, some p, datO D pad⟩) : DskW w d p n c D :=
  ⟨hS.cell hk rfl, hS.cell hk rfl, hS.cell hk rfl, hS.cell hk rfl, fun j u hu => hS.cell hk' (by rw [List.getElem?_append_left (List.getElem?_eq_some_iff.1 hu).1]; exact hu)⟩
/-- A block. -/
def blkF (l : List UInt8) (q : Nat) : List UInt8 := (l.drop (64 * q)).take 64
def zero64 : List UInt8 := List.replicate 64 0
def rdF (D : Dk) (n : Nat) (i : Int) : List UInt8 := if i < 0 ∨ (n : Int) ≤ i then zero64 else blkF D.l i.toNat
theorem blkF_len {l : List UInt8} {n q : Nat} (h : l.length = 64 * n) (hq : q < n) : (blkF l q).length = 64 := by
  rw [blkF, List.length_take, List.length_drop, h]; omega
theorem rdF_len {D : Dk} {n : Nat} (h : D.l.length = 64 * n) (i : Int) : (rdF D n i).length = 64 := by
  unfold rdF
  split
  · exact List.length_replicate
  · exact blkF_len h (by omega)
def putL (l : List UInt8) (o : Nat) (x : List UInt8) : List UInt8 := l.take o ++ x ++ l.drop (o + x.length)
theorem putL_len {l x : List UInt8} {o : Nat} (h : o + x.length ≤ l.length) : (putL l o x).length = l.length := by
  simp only [putL, List.length_append, List.length_take, List.length_drop]; omega
theorem putL_map {l x : List UInt8} {o : Nat} {pad : List Value} (h : o + x.length ≤ l.length) : (l.map vB ++ pad).take o ++ x.map vB ++ (l.map vB ++ pad).drop (o + x.length) = (putL l o x).map vB ++ pad := by
  rw [List.take_append_of_le_length (by rw [List.length_map]; omega), List.drop_append_of_le_length (by rw [List.length_map]; omega), putL]
  simp [List.map_append, List.map_take, List.map_drop]
def wrF (D : Dk) (n : Nat) (i : Int) (x : List UInt8) : Nat × Dk :=
  if i < 0 ∨ (n : Int) ≤ i then (1, D)
  else if D.dead = true then (20, D)
  else if D.fuel = 0 then (20, { D with l := putL D.l (64 * i.toNat) (x.take D.torn), dead := true })
  else (0, { D with l := putL D.l (64 * i.toNat) x, fuel := if 0 < D.fuel then D.fuel - 1 else D.fuel })
theorem wrF_ok {D : Dk} {n : Nat} {i : Int} {x : List UInt8} (h : DkOk n D) (hx : x.length = 64) : DkOk n (wrF D n i x).2 := by
  obtain ⟨h1, h2, h3, h4, h5, h6⟩ := h
  unfold wrF
  split
  · exact ⟨h1, h2, h3, h4, h5, h6⟩
  · split
    · exact ⟨h1, h2, h3, h4, h5, h6⟩
    · split
      · exact ⟨by rw [putL_len (by rw [List.length_take]; omega)]; exact h1, h2, h3, h4, h5, h6⟩
      · refine ⟨by rw [putL_len (by omega)]; exact h1, h2, h3, ?_, ?_, h6⟩
        · show -1 ≤ (if 0 < D.fuel then D.fuel - 1 else D.fuel); split <;> omega
        · show (if 0 < D.fuel then D.fuel - 1 else D.fuel) ≤ _; split <;> omega
def fuelF (D : Dk) (n t : Int) : Dk := { D with fuel := max n (-1), torn := (max 0 (min t 64)).toNat }
def againF (D : Dk) : Dk := ⟨D.l, -1, 0, false⟩
def newF (n : Nat) : Dk := ⟨List.replicate (64 * n) 0, -1, 0, false⟩
theorem again_ok {D : Dk} {n : Nat} (h : DkOk n D) : DkOk n (againF D) := ⟨h.len, h.n4, h.n1k, Int.le_refl _, (by show (-1 : Int) ≤ 9223372036854775807; omega), Nat.zero_le _⟩
theorem new_ok {n : Nat} (h : 4 ≤ n) (h' : n ≤ 1024) : DkOk n (newF n) := ⟨List.length_replicate, h, h', Int.le_refl _, (by show (-1 : Int) ≤ 9223372036854775807; omega), Nat.zero_le _⟩
theorem build_disk (A : Option Addr) (n c : Nat) (w : World) : (Instr.build 111 #[(0, .slice A n c), (1, .int .i64 (-1))]).run Tryd.prog w = .ok (.agg [.slice A n c, .int .i64 (-1), vI 0, .bool false].toArray) w := by
  refine run_buildStr (pl := [(0, .slice A n c), (1, .int .i64 (-1))]) (places := #[(0, 1), (1, 1), (2, 1), (3, 1)]) Tryd.underlying111 Tryd.zv111 rfl (fun w => ?_) ?_
  · simp [Fw.run_sizeOf Tryd.sz109, Fw.run_sizeOf Tryd.sz3, Fw.run_sizeOf Tryd.sz4]
  · rfl


theorem blocks_nil {w0 : World} :
    Calls Tryd.prog 42 #[.pointer none] w0 fun e w' => e = .returned (vI 0) ∧ Ext w0 w' := by
  refine calls_start 10 Tryd.func42 rfl Tryd.ntmps42 rfl fun a hF => ?_
  refine wp_seq_k fun Kq1 hKq1 => ?_
  -- region 0 (vault.go:27)
  refine wp_region_lit ?_
  refine wpList_stp (stp_gv hF (wanted_none rfl) rfl rfl (gv_assign rfl (ev_const _ _)) fun a hF => ?_)
  refine wpList_nil ?_
  refine then_normal (hKq1 _ _ ?_)
  refine wp_seq_k fun Kq2 hKq2 => ?_
  refine wp_seq_k fun Kq3 hKq3 => ?_
  -- region 1 (vault.go:28)
  refine wp_region_lit ?_
  refine wpList_stp (stp_gv hF (wanted_none rfl) rfl rfl (gv_move rfl (hF.t rfl)) fun a hF => ?_)
  refine wpList_stp (stp_gv hF (wanted_none rfl) rfl rfl (gv_eqlNil rfl Tryd.underlying65 (hF.t rfl) (ev_const _ _)) fun a hF => ?_)
  refine wpList_nil ?_
  refine then_normal (hKq3 _ _ ?_)
  refine wp_cond_true (hF.t rfl) ?_
  refine wp_seq_k fun Kq4 hKq4 => ?_
  -- region 2 (vault.go:29)
  refine wp_region_lit ?_
  refine wpList_stp (stp_gv hF (wanted_none rfl) rfl rfl (gv_assign rfl (ev_const _ _)) fun a hF => ?_)
  refine wpList_nil ?_
  refine then_normal (hKq4 _ _ ?_)
  refine wp_ret ?_
  refine then_ret ?_
  refine ret1 (fn := Tryd.f42) (t := 2) hF rfl rfl ?_
  exact ⟨rfl, Ext.refl _⟩

theorem blocks_ok {d n c : Nat} {A : Option Addr} {w0 : World} (h : w0.cell? ⟨d, 0, none⟩ = some (.slice A n c)) :
    Calls Tryd.prog 42 #[.pointer (some ⟨d, 0, none⟩)] w0 fun e w' => e = .returned (vI n) ∧ Ext w0 w' := by
  refine calls_start 10 Tryd.func42 rfl Tryd.ntmps42 rfl fun a hF => ?_
  refine wp_seq_k fun Kq1 hKq1 => ?_
  -- region 0 (vault.go:27)
  refine wp_region_lit ?_
  refine wpList_stp (stp_gv hF (wanted_none rfl) rfl rfl (gv_assign rfl (ev_const _ _)) fun a hF => ?_)
  refine wpList_nil ?_
  refine then_normal (hKq1 _ _ ?_)
  refine wp_seq_k fun Kq2 hKq2 => ?_
  refine wp_seq_k fun Kq3 hKq3 => ?_
  -- region 1 (vault.go:28)
  refine wp_region_lit ?_
  refine wpList_stp (stp_gv hF (wanted_none rfl) rfl rfl (gv_move rfl (hF.t rfl)) fun a hF => ?_)
  refine wpList_stp (stp_gv hF (wanted_none rfl) rfl rfl (gv_eqlNil rfl Tryd.underlying65 (hF.t rfl) (ev_const _ _)) fun a hF => ?_)
  refine wpList_nil ?_
  refine then_normal (hKq3 _ _ ?_)
  refine wp_cond_false (hF.t rfl) ?_
  refine wp_skip ?_
  refine then_normal (hKq2 _ _ ?_)
  refine wp_seq_k fun Kq4 hKq4 => ?_
  -- region 3 (vault.go:31)
  refine wp_region_lit ?_
  refine wpList_stp (stp_gv hF (wanted_none rfl) rfl rfl (gv_move rfl (hF.t rfl)) fun a hF => ?_)
  refine wpList_stp (stp_gv hF (wanted_none rfl) rfl rfl (gv_nilCheck rfl (hF.t rfl)) fun a hF => ?_)
  refine wpList_stp (stp_gv hF (wanted_none rfl) rfl rfl (gv_field (r := 0) rfl Tryd.underlying111 rfl rfl Tryd.sz109 (by decide) (hF.t rfl)) fun a hF => ?_)
  refine wpList_stp (stp_gv hF (wanted_none rfl) rfl rfl (gv_load rfl Tryd.underlying109 rfl (hF.t rfl) (cell_ix h (by omega))) fun a hF => ?_)
  refine wpList_stp (stp_gv hF (wanted_none rfl) rfl rfl (gv_len rfl Tryd.underlying109 (hF.t rfl)) fun a hF => ?_)
  refine wpList_stp (stp_gv hF (wanted_none rfl) rfl rfl (gv_assign rfl (hF.t rfl)) fun a hF => ?_)
  refine wpList_nil ?_
  refine then_normal (hKq4 _ _ ?_)
  refine wp_ret ?_
  refine ret1 (fn := Tryd.f42) (t := 2) hF rfl rfl ?_
  exact ⟨rfl, Ext.refl _⟩

theorem dead_nil {w0 : World} :
    Calls Tryd.prog 41 #[.pointer none] w0 fun e w' => e = .returned (.bool false) ∧ Ext w0 w' := by
  refine calls_start 11 Tryd.func41 rfl Tryd.ntmps41 rfl fun a hF => ?_
  refine wp_seq_k fun Kq1 hKq1 => ?_
  -- region 0 (vault.go:68)
  refine wp_region_lit ?_
  refine wpList_stp (stp_gv hF (wanted_none rfl) rfl rfl (gv_assign rfl (ev_const _ _)) fun a hF => ?_)
  refine wpList_nil ?_
  refine then_normal (hKq1 _ _ ?_)
  refine wp_seq_k fun Kq2 hKq2 => ?_
  -- region 1 (vault.go:68)
  refine wp_region_lit ?_
  refine wpList_stp (stp_gv hF (wanted_none rfl) rfl rfl (gv_move rfl (hF.t rfl)) fun a hF => ?_)
  refine wpList_stp (stp_gv hF (wanted_none rfl) rfl rfl (gv_neqNil rfl Tryd.underlying65 (hF.t rfl) (ev_const _ _)) fun a hF => ?_)
  refine wpList_stp (stp_gv hF (wanted_none rfl) rfl rfl (gv_move rfl (hF.t rfl)) fun a hF => ?_)
  refine wpList_stp (stp_skip hF (unwanted_of hF rfl rfl (rfl) rfl) rfl rfl fun a hF => ?_)
  refine wpList_stp (stp_skip hF (unwanted_of hF rfl rfl (rfl) rfl) rfl rfl fun a hF => ?_)
  refine wpList_stp (stp_skip hF (unwanted_of hF rfl rfl (rfl) rfl) rfl rfl fun a hF => ?_)
  refine wpList_stp (stp_skip hF (unwanted_of hF rfl rfl (rfl) rfl) rfl rfl fun a hF => ?_)
  refine wpList_stp (stp_gv hF (wanted_none rfl) rfl rfl (gv_pickF rfl (hF.t rfl) (ev_const _ _)) fun a hF => ?_)
  refine wpList_stp (stp_gv hF (wanted_none rfl) rfl rfl (gv_assign rfl (hF.t rfl)) fun a hF => ?_)
  refine wpList_nil ?_
  refine then_normal (hKq2 _ _ ?_)
  refine wp_ret ?_
  refine ret1 (fn := Tryd.f41) (t := 2) hF rfl rfl ?_
  exact ⟨rfl, Ext.refl _⟩

theorem dead_ok {d : Nat} {b : Bool} {w0 : World} (h : w0.cell? ⟨d, 3, none⟩ = some (.bool b)) :
    Calls Tryd.prog 41 #[.pointer (some ⟨d, 0, none⟩)] w0 fun e w' => e = .returned (.bool b) ∧ Ext w0 w' := by
  refine calls_start 11 Tryd.func41 rfl Tryd.ntmps41 rfl fun a hF => ?_
  refine wp_seq_k fun Kq1 hKq1 => ?_
  -- region 0 (vault.go:68)
  refine wp_region_lit ?_
  refine wpList_stp (stp_gv hF (wanted_none rfl) rfl rfl (gv_assign rfl (ev_const _ _)) fun a hF => ?_)
  refine wpList_nil ?_
  refine then_normal (hKq1 _ _ ?_)
  refine wp_seq_k fun Kq2 hKq2 => ?_
  -- region 1 (vault.go:68)
  refine wp_region_lit ?_
  refine wpList_stp (stp_gv hF (wanted_none rfl) rfl rfl (gv_move rfl (hF.t rfl)) fun a hF => ?_)
  refine wpList_stp (stp_gv hF (wanted_none rfl) rfl rfl (gv_neqNil rfl Tryd.underlying65 (hF.t rfl) (ev_const _ _)) fun a hF => ?_)
  refine wpList_stp (stp_gv hF (wanted_none rfl) rfl rfl (gv_move rfl (hF.t rfl)) fun a hF => ?_)
  refine wpList_stp (stp_gv hF (wanted_of hF rfl rfl (rfl)) rfl rfl (gv_move rfl (hF.t rfl)) fun a hF => ?_)
  refine wpList_stp (stp_gv hF (wanted_of hF rfl rfl (rfl)) rfl rfl (gv_nilCheck rfl (hF.t rfl)) fun a hF => ?_)
  refine wpList_stp (stp_gv hF (wanted_of hF rfl rfl (rfl)) rfl rfl (gv_field (r := 3) rfl Tryd.underlying111 rfl rfl Tryd.sz4 (by decide) (hF.t rfl)) fun a hF => ?_)
  refine wpList_stp (stp_gv hF (wanted_of hF rfl rfl (rfl)) rfl rfl (gv_load rfl Tryd.underlying4 rfl (hF.t rfl) (cell_ix h (by omega))) fun a hF => ?_)
  refine wpList_stp (stp_gv hF (wanted_none rfl) rfl rfl (gv_pickT rfl (hF.t rfl) (hF.t rfl)) fun a hF => ?_)
  refine wpList_stp (stp_gv hF (wanted_none rfl) rfl rfl (gv_assign rfl (hF.t rfl)) fun a hF => ?_)
  refine wpList_nil ?_
  refine then_normal (hKq2 _ _ ?_)
  refine wp_ret ?_
  refine ret1 (fn := Tryd.f41) (t := 2) hF rfl rfl ?_
  exact ⟨rfl, Ext.refl _⟩


theorem build_z64 (w : World) : (Instr.build 72 #[]).run Tryd.prog w = .ok (.agg (zero64.map vB).toArray) w :=
  run_buildArr (pl := []) Tryd.underlying72 Tryd.sz5 Tryd.zv72 rfl rfl
theorem blk_get {l : List UInt8} {q j : Nat} {u : Value} (h : ((blkF l q).map vB)[j]? = some u) : (l.map vB)[64 * q + j]? = some u := by
  rw [blkF, List.map_take, List.map_drop, List.getElem?_take] at h
  split at h
  · rwa [List.getElem?_drop] at h
  · cases h


theorem read_nil {iv : Value} {w0 : World} :
    Calls Tryd.prog 31 #[.pointer none, iv] w0 fun e w' => e = .returned (.agg (zero64.map vB).toArray) ∧ Ext w0 w' := by
  refine calls_start 28 Tryd.func31 rfl Tryd.ntmps31 rfl fun a hF => ?_
  have hS := St.refl w0
  refine wp_seq_k fun Kq1 hKq1 => ?_
  -- region 0 (vault.go:35)
  refine wp_region_lit ?_
  refine wpList_stp (stp_alloc hF (wanted_none rfl) rfl rfl rfl Tryd.zv72 rfl hS fun out a w hF hS => ?_)
  refine wpList_nil ?_
  refine then_normal (hKq1 _ _ ?_)
  refine wp_seq_k fun Kq2 hKq2 => ?_
  refine wp_seq_k fun Kq3 hKq3 => ?_
  -- region 1 (vault.go:36)
  refine wp_region_lit ?_
  refine wpList_stp (stp_gv hF (wanted_none rfl) rfl rfl (gv_move rfl (hF.t rfl)) fun a hF => ?_)
  refine wpList_stp (stp_gv hF (wanted_none rfl) rfl rfl (gv_eqlNil rfl Tryd.underlying65 (hF.t rfl) (ev_const _ _)) fun a hF => ?_)
  refine wpList_stp (stp_gv hF (wanted_none rfl) rfl rfl (gv_move rfl (hF.t rfl)) fun a hF => ?_)
  refine wpList_stp (stp_skip hF (unwanted_of hF rfl rfl (rfl) rfl) rfl rfl fun a hF => ?_)
  refine wpList_stp (stp_skip hF (unwanted_of hF rfl rfl (rfl) rfl) rfl rfl fun a hF => ?_)
  refine wpList_stp (stp_gv hF (wanted_none rfl) rfl rfl (gv_pickT rfl (hF.t rfl) (ev_const _ _)) fun a hF => ?_)
  refine wpList_stp (stp_gv hF (wanted_none rfl) rfl rfl (gv_move rfl (hF.t rfl)) fun a hF => ?_)
  refine wpList_stp (stp_skip hF (unwanted_of hF rfl rfl (rfl) rfl) rfl rfl fun a hF => ?_)
  refine wpList_stp (stp_skip hF (unwanted_of hF rfl rfl (rfl) rfl) rfl rfl fun a hF => ?_)
  refine wpList_stp (stp_skip hF (unwanted_of hF rfl rfl (rfl) rfl) rfl rfl fun a hF => ?_)
  refine wpList_stp (stp_skip hF (unwanted_of hF rfl rfl (rfl) rfl) rfl rfl fun a hF => ?_)
  refine wpList_stp (stp_skip hF (unwanted_of hF rfl rfl (rfl) rfl) rfl rfl fun a hF => ?_)
  refine wpList_stp (stp_skip hF (unwanted_of hF rfl rfl (rfl) rfl) rfl rfl fun a hF => ?_)
  refine wpList_stp (stp_skip hF (unwanted_of hF rfl rfl (rfl) rfl) rfl rfl fun a hF => ?_)
  refine wpList_stp (stp_gv hF (wanted_none rfl) rfl rfl (gv_pickT rfl (hF.t rfl) (ev_const _ _)) fun a hF => ?_)
  refine wpList_nil ?_
  refine then_normal (hKq3 _ _ ?_)
  refine wp_cond_true (hF.t rfl) ?_
  refine wp_seq_k fun Kq4 hKq4 => ?_
  -- region 2 (vault.go:37)
  refine wp_region_lit ?_
  refine wpList_stp (stp_gv hF (wanted_none rfl) rfl rfl (gv_build rfl (EvP.map EvP.nil) (build_z64 _)) fun a hF => ?_)
  refine wpList_stp (stp_storeAll hF (wanted_none rfl) rfl rfl (Tryd.sz72.trans (congrArg some (rfl))) (hF.t rfl) (hF.t rfl) (one_B zero64) hS (k := 0) rfl (rfl) fun w hS => ?_)
  refine wpList_nil ?_
  refine then_normal (hKq4 _ _ ?_)
  refine wp_ret ?_
  refine then_ret ?_
  refine retCell (fn := Tryd.f31) hF rfl Tryd.underlying72 rfl (Tryd.sz72.trans (congrArg some (rfl))) rfl hS (k := 0) rfl ?_
  exact ⟨rfl, hS.toExt (nw_cons rfl nw_nil)⟩

theorem read_ok {d p n c : Nat} {i : Int} {D : Dk} {w0 : World} (hD : DskW w0 d p n c D) (hl : D.l.length = 64 * n) :
    Calls Tryd.prog 31 #[.pointer (some ⟨d, 0, none⟩), .int .i64 i] w0 fun e w' => e = .returned (.agg ((rdF D n i).map vB).toArray) ∧ Ext w0 w' := by
  refine calls_start 28 Tryd.func31 rfl Tryd.ntmps31 rfl fun a hF => ?_
  have hS := St.refl w0
  refine wp_seq_k fun Kq1 hKq1 => ?_
  -- region 0 (vault.go:35)
  refine wp_region_lit ?_
  refine wpList_stp (stp_alloc hF (wanted_none rfl) rfl rfl rfl Tryd.zv72 rfl hS fun out a w hF hS => ?_)
  refine wpList_nil ?_
  replace hD := hD.ext (hS.toExt (nw_cons rfl nw_nil))
  refine then_normal (hKq1 _ _ ?_)
  refine wp_seq_k fun Kq2 hKq2 => ?_
  refine wp_seq_k fun Kq3 hKq3 => ?_
  -- region 1 (vault.go:36)
  refine wp_region_lit ?_
  refine wpList_stp (stp_gv hF (wanted_none rfl) rfl rfl (gv_move rfl (hF.t rfl)) fun a hF => ?_)
  refine wpList_stp (stp_gv hF (wanted_none rfl) rfl rfl (gv_eqlNil rfl Tryd.underlying65 (hF.t rfl) (ev_const _ _)) fun a hF => ?_)
  refine wpList_stp (stp_gv hF (wanted_none rfl) rfl rfl (gv_move rfl (hF.t rfl)) fun a hF => ?_)
  refine wpList_stp (stp_gv hF (wanted_of hF rfl rfl (rfl)) rfl rfl (gv_move rfl (hF.t rfl)) fun a hF => ?_)
  refine wpList_stp (stp_gv hF (wanted_of hF rfl rfl (rfl)) rfl rfl (gv_lss rfl (hF.t rfl) (ev_const _ _)) fun a hF => ?_)
  refine wpList_stp (stp_gv hF (wanted_none rfl) rfl rfl (gv_pickF rfl (hF.t rfl) (hF.t rfl)) fun a hF => ?_)
  refine wpList_stp (stp_gv hF (wanted_none rfl) rfl rfl (gv_move rfl (hF.t rfl)) fun a hF => ?_)
  refine wpList_stp (stp_gvG' hF rfl rfl rfl rfl rfl (fun hg => gv_move rfl (hF.t rfl)) fun a hF => ?_)
  refine wpList_stp (stp_gvG' hF rfl rfl rfl rfl rfl (fun hg => gv_move rfl (hF.t rfl)) fun a hF => ?_)
  refine wpList_stp (stp_gvG' hF rfl rfl rfl rfl rfl (fun hg => gv_nilCheck rfl ((hF.t rfl).trans (if_neg hg))) fun a hF => ?_)
  refine wpList_stp (stp_gvG' hF rfl rfl rfl rfl rfl (fun hg => gv_field (r := 0) rfl Tryd.underlying111 rfl rfl Tryd.sz109 (by decide) ((hF.t rfl).trans (if_neg hg))) fun a hF => ?_)
  refine wpList_stp (stp_gvG' hF rfl rfl rfl rfl rfl (fun hg => gv_load rfl Tryd.underlying109 rfl ((hF.t rfl).trans (if_neg hg)) (cell_ix hD.c0 (by omega))) fun a hF => ?_)
  refine wpList_stp (stp_gvG' hF rfl rfl rfl rfl rfl (fun hg => gv_len rfl Tryd.underlying109 ((hF.t rfl).trans (if_neg hg))) fun a hF => ?_)
  refine wpList_stp (stp_gvG' hF rfl rfl rfl rfl rfl (fun hg => gv_geq rfl ((hF.t rfl).trans (if_neg hg)) ((hF.t rfl).trans (if_neg hg))) fun a hF => ?_)
  refine wpList_stp (stp_gv hF (wanted_none rfl) rfl rfl (gv_pickOr rfl (hF.t rfl) (ev_const _ _) (hF.t rfl)) fun a hF => ?_)
  refine wpList_nil ?_
  refine then_normal (hKq3 _ _ ?_)
  refine cond_dec (hF.t rfl) (fun h19 => ?_) (fun h19 => ?_)
  ·
    refine wp_seq_k fun Kq4 hKq4 => ?_
    -- region 2 (vault.go:37)
    refine wp_region_lit ?_
    refine wpList_stp (stp_gv hF (wanted_none rfl) rfl rfl (gv_build rfl (EvP.map EvP.nil) (build_z64 _)) fun a hF => ?_)
    refine wpList_stp (stp_storeAll hF (wanted_none rfl) rfl rfl (Tryd.sz72.trans (congrArg some (rfl))) (hF.t rfl) (hF.t rfl) (one_B zero64) hS (k := 0) rfl (rfl) fun w hS => ?_)
    refine wpList_nil ?_
    refine then_normal (hKq4 _ _ ?_)
    refine wp_ret ?_
    refine then_ret ?_
    refine retCell (fn := Tryd.f31) hF rfl Tryd.underlying72 rfl (Tryd.sz72.trans (congrArg some (rfl))) rfl hS (k := 0) rfl ?_
    refine ⟨?_, hS.toExt (nw_cons rfl nw_nil)⟩
    rw [rdF, if_pos (by omega)]
  ·
    obtain ⟨q, rfl⟩ : ∃ q : Nat, i = (q : Int) := ⟨i.toNat, by omega⟩
    refine wp_skip ?_
    refine then_normal (hKq2 _ _ ?_)
    refine wp_seq_k fun Kq5 hKq5 => ?_
    -- region 3 (vault.go:39)
    refine wp_region_lit ?_
    refine wpList_stp (stp_gv hF (wanted_none rfl) rfl rfl (gv_move rfl (hF.t rfl)) fun a hF => ?_)
    refine wpList_stp (stp_gv hF (wanted_none rfl) rfl rfl (gv_nilCheck rfl (hF.t rfl)) fun a hF => ?_)
    refine wpList_stp (stp_gv hF (wanted_none rfl) rfl rfl (gv_field (r := 0) rfl Tryd.underlying111 rfl rfl Tryd.sz109 (by decide) (hF.t rfl)) fun a hF => ?_)
    refine wpList_stp (stp_gv hF (wanted_none rfl) rfl rfl (gv_load rfl Tryd.underlying109 rfl (hF.t rfl) (cell_ix hD.c0 (by omega))) fun a hF => ?_)
    refine wpList_stp (stp_gv hF (wanted_none rfl) rfl rfl (gv_move rfl (hF.t rfl)) fun a hF => ?_)
    refine wpList_stp (stp_gv hF (wanted_none rfl) rfl rfl (gv_indexSl (q := q) rfl Tryd.underlying109 Tryd.sz72 (hF.t rfl) (hF.t rfl) (by omega)) fun a hF => ?_)
    refine wpList_stp (stp_gv hF (wanted_none rfl) rfl rfl (gv_loadAgg (vs := (blkF D.l q).map vB) rfl Tryd.underlying72 rfl (Tryd.sz72.trans (congrArg some (by rw [List.length_map, blkF_len hl (by omega)]))) (hF.t rfl) (fun j u hu => hD.dat _ u (by rw [show 0 + q * 64 + j = 64 * q + j by omega]; exact blk_get hu))) fun a hF => ?_)
    refine wpList_stp (stp_storeAll hF (wanted_none rfl) rfl rfl (Tryd.sz72.trans (congrArg some (by rw [List.length_map, blkF_len hl (by omega)]))) (hF.t rfl) (hF.t rfl) (one_B _) hS (k := 0) rfl (by rw [List.length_map, blkF_len hl (by omega)]; rfl) fun w hS => ?_)
    refine wpList_nil ?_
    refine then_normal (hKq5 _ _ ?_)
    refine wp_ret ?_
    refine retCell (fn := Tryd.f31) hF rfl Tryd.underlying72 rfl (Tryd.sz72.trans (congrArg some (by rw [List.length_map, blkF_len hl (by omega)]))) rfl hS (k := 0) rfl ?_
    refine ⟨?_, hS.toExt (nw_cons rfl nw_nil)⟩
    rw [rdF, if_neg (by omega)]
    rfl

theorem dwrite_nil {i : Int} {l : List UInt8} {w0 : World} :
    Calls Tryd.prog 32 #[.pointer none, .int .i64 i, .agg (l.map vB).toArray] w0 fun e w' => e = .returned (.int .i64 1) ∧ Ext w0 w' := by
  refine calls_start 74 Tryd.func32 rfl Tryd.ntmps32 rfl fun a hF => ?_
  have hS := St.refl w0
  refine wp_seq_k fun Kq1 hKq1 => ?_
  -- region 0 (vault.go:43)
  refine wp_region_lit ?_
  refine wpList_stp (stp_box hF (wanted_none rfl) rfl rfl rfl (hF.t rfl) rfl hS fun x0 a w hF hS => ?_)
  refine wpList_stp (stp_gv hF (wanted_none rfl) rfl rfl (gv_assign rfl (ev_const _ _)) fun a hF => ?_)
  refine wpList_nil ?_
  refine then_normal (hKq1 _ _ ?_)
  refine wp_seq_k fun Kq2 hKq2 => ?_
  refine wp_block ?_
  refine wp_seq_k fun Kq3 hKq3 => ?_
  -- region 1 (vault.go:45)
  refine wp_region_lit ?_
  refine wpList_stp (stp_gv hF (wanted_none rfl) rfl rfl (gv_move rfl (hF.t rfl)) fun a hF => ?_)
  refine wpList_stp (stp_gv hF (wanted_none rfl) rfl rfl (gv_eqlNil rfl Tryd.underlying65 (hF.t rfl) (ev_const _ _)) fun a hF => ?_)
  refine wpList_stp (stp_gv hF (wanted_none rfl) rfl rfl (gv_move rfl (hF.t rfl)) fun a hF => ?_)
  refine wpList_stp (stp_skip hF (unwanted_of hF rfl rfl (rfl) rfl) rfl rfl fun a hF => ?_)
  refine wpList_stp (stp_skip hF (unwanted_of hF rfl rfl (rfl) rfl) rfl rfl fun a hF => ?_)
  refine wpList_stp (stp_gv hF (wanted_none rfl) rfl rfl (gv_pickT rfl (hF.t rfl) (ev_const _ _)) fun a hF => ?_)
  refine wpList_stp (stp_gv hF (wanted_none rfl) rfl rfl (gv_move rfl (hF.t rfl)) fun a hF => ?_)
  refine wpList_stp (stp_skip hF (unwanted_of hF rfl rfl (rfl) rfl) rfl rfl fun a hF => ?_)
  refine wpList_stp (stp_skip hF (unwanted_of hF rfl rfl (rfl) rfl) rfl rfl fun a hF => ?_)
  refine wpList_stp (stp_skip hF (unwanted_of hF rfl rfl (rfl) rfl) rfl rfl fun a hF => ?_)
  refine wpList_stp (stp_skip hF (unwanted_of hF rfl rfl (rfl) rfl) rfl rfl fun a hF => ?_)
  refine wpList_stp (stp_skip hF (unwanted_of hF rfl rfl (rfl) rfl) rfl rfl fun a hF => ?_)
  refine wpList_stp (stp_skip hF (unwanted_of hF rfl rfl (rfl) rfl) rfl rfl fun a hF => ?_)
  refine wpList_stp (stp_skip hF (unwanted_of hF rfl rfl (rfl) rfl) rfl rfl fun a hF => ?_)
  refine wpList_stp (stp_gv hF (wanted_none rfl) rfl rfl (gv_pickT rfl (hF.t rfl) (ev_const _ _)) fun a hF => ?_)
  refine wpList_stp (stp_gv hF (wanted_none rfl) rfl rfl (gv_assign rfl (hF.t rfl)) fun a hF => ?_)
  refine wpList_nil ?_
  refine then_normal (hKq3 _ _ ?_)
  refine wp_cond_true (hF.t rfl) ?_
  refine wp_seq_k fun Kq4 hKq4 => ?_
  -- region 2 (vault.go:46)
  refine wp_region_lit ?_
  refine wpList_stp (stp_gv hF (wanted_none rfl) rfl rfl (gv_assign rfl (ev_const _ _)) fun a hF => ?_)
  refine wpList_nil ?_
  refine then_normal (hKq4 _ _ ?_)
  refine wp_ret ?_
  refine block_ret ?_
  refine then_ret ?_
  refine ret1 (fn := Tryd.f32) (t := 6) hF rfl rfl ?_
  exact ⟨rfl, hS.toExt (nw_cons rfl nw_nil)⟩

theorem dwrite_ok {w00 w : World} {T : List Ent} {d p n c : Nat} {i : Int} {D : Dk} {pad : List Value} {xl : List UInt8} (hT : ∀ e ∈ T, e.nw = true) (hS : St w00 w (⟨true, some d, dskO p n c D⟩ :: ⟨true, some p, datO D pad⟩ :: T)) (hD : DkOk n D) (hxl : xl.length = 64) :
    Calls Tryd.prog 32 #[.pointer (some ⟨d, 0, none⟩), .int .i64 i, .agg (xl.map vB).toArray] w fun e w' => e = .returned (.int .i64 ((wrF D n i xl).1 : Nat)) ∧ St w00 w' (⟨true, some d, dskO p n c (wrF D n i xl).2⟩ :: ⟨true, some p, datO (wrF D n i xl).2 pad⟩ :: T) := by
  obtain ⟨hl, hn4, hn1, hf0, hf1, htn⟩ := hD
  refine calls_start 74 Tryd.func32 rfl Tryd.ntmps32 rfl fun a hF => ?_
  refine wp_seq_k fun Kq1 hKq1 => ?_
  -- region 0 (vault.go:43)
  refine wp_region_lit ?_
  refine wpList_stp (stp_box hF (wanted_none rfl) rfl rfl rfl (hF.t rfl) rfl hS fun x a w hF hS => ?_)
  refine wpList_stp (stp_gv hF (wanted_none rfl) rfl rfl (gv_assign rfl (ev_const _ _)) fun a hF => ?_)
  refine wpList_nil ?_
  refine then_normal (hKq1 _ _ ?_)
  refine wp_cut (fun a w => ∃ (q : Nat) (f : Int), i = (q : Int) ∧ q < n ∧ D.dead = false ∧ ¬ D.fuel = 0 ∧ f = (if 0 < D.fuel then D.fuel - 1 else D.fuel) ∧ Fr 74 a [(0, .pointer (some ⟨d, 0, none⟩)), (1, vI q), (5, .pointer (some ⟨x, 0, none⟩))] ∧ St w00 w (⟨true, some x, blkB 72 xl⟩ :: ⟨true, some d, dskO p n c { D with fuel := f }⟩ :: ⟨true, some p, datO D pad⟩ :: T)) ?_ ?_
  ·
    refine wp_block ?_
    refine wp_seq_k fun Kq2 hKq2 => ?_
    -- region 1 (vault.go:45)
    refine wp_region_lit ?_
    refine wpList_stp (stp_gv hF (wanted_none rfl) rfl rfl (gv_move rfl (hF.t rfl)) fun a hF => ?_)
    refine wpList_stp (stp_gv hF (wanted_none rfl) rfl rfl (gv_eqlNil rfl Tryd.underlying65 (hF.t rfl) (ev_const _ _)) fun a hF => ?_)
    refine wpList_stp (stp_gv hF (wanted_none rfl) rfl rfl (gv_move rfl (hF.t rfl)) fun a hF => ?_)
    refine wpList_stp (stp_gv hF (wanted_of hF rfl rfl (rfl)) rfl rfl (gv_move rfl (hF.t rfl)) fun a hF => ?_)
    refine wpList_stp (stp_gv hF (wanted_of hF rfl rfl (rfl)) rfl rfl (gv_lss rfl (hF.t rfl) (ev_const _ _)) fun a hF => ?_)
    refine wpList_stp (stp_gv hF (wanted_none rfl) rfl rfl (gv_pickF rfl (hF.t rfl) (hF.t rfl)) fun a hF => ?_)
    refine wpList_stp (stp_gv hF (wanted_none rfl) rfl rfl (gv_move rfl (hF.t rfl)) fun a hF => ?_)
    refine wpList_stp (stp_gvG' hF rfl rfl rfl rfl rfl (fun hg => gv_move rfl (hF.t rfl)) fun a hF => ?_)
    refine wpList_stp (stp_gvG' hF rfl rfl rfl rfl rfl (fun hg => gv_move rfl (hF.t rfl)) fun a hF => ?_)
    refine wpList_stp (stp_gvG' hF rfl rfl rfl rfl rfl (fun hg => gv_nilCheck rfl ((hF.t rfl).trans (if_neg hg))) fun a hF => ?_)
    refine wpList_stp (stp_gvG' hF rfl rfl rfl rfl rfl (fun hg => gv_field (r := 0) rfl Tryd.underlying111 rfl rfl Tryd.sz109 (by decide) ((hF.t rfl).trans (if_neg hg))) fun a hF => ?_)
    refine wpList_stp (stp_gvG' hF rfl rfl rfl rfl rfl (fun hg => gv_load rfl Tryd.underlying109 rfl ((hF.t rfl).trans (if_neg hg)) (cell_ix (j := 0) (hS.cell (k := 1) rfl (rfl)) (by omega))) fun a hF => ?_)
    refine wpList_stp (stp_gvG' hF rfl rfl rfl rfl rfl (fun hg => gv_len rfl Tryd.underlying109 ((hF.t rfl).trans (if_neg hg))) fun a hF => ?_)
    refine wpList_stp (stp_gvG' hF rfl rfl rfl rfl rfl (fun hg => gv_geq rfl ((hF.t rfl).trans (if_neg hg)) ((hF.t rfl).trans (if_neg hg))) fun a hF => ?_)
    refine wpList_stp (stp_gv hF (wanted_none rfl) rfl rfl (gv_pickOr rfl (hF.t rfl) (ev_const _ _) (hF.t rfl)) fun a hF => ?_)
    refine wpList_stp (stp_gv hF (wanted_none rfl) rfl rfl (gv_assign rfl (hF.t rfl)) fun a hF => ?_)
    refine wpList_nil ?_
    refine then_normal (hKq2 _ _ ?_)
    refine cond_dec (hF.t rfl) (fun h7 => ?_) (fun h7 => ?_)
    ·
      refine wp_seq_k fun Kq3 hKq3 => ?_
      -- region 2 (vault.go:46)
      refine wp_region_lit ?_
      refine wpList_stp (stp_gv hF (wanted_none rfl) rfl rfl (gv_assign rfl (ev_const _ _)) fun a hF => ?_)
      refine wpList_nil ?_
      refine then_normal (hKq3 _ _ ?_)
      refine wp_ret ?_
      refine block_ret ?_
      refine then_ret ?_
      refine ret1 (fn := Tryd.f32) (t := 6) hF rfl rfl ?_
      replace hS := hS.drop rfl
      have hw : wrF D n i xl = (1, D) := if_pos (by omega)
      rw [hw]
      exact ⟨rfl, hS⟩
    ·
      obtain ⟨q, rfl⟩ : ∃ q : Nat, i = (q : Int) := ⟨i.toNat, by omega⟩
      refine wp_seq_k fun Kq4 hKq4 => ?_
      -- region 3 (vault.go:47)
      refine wp_region_lit ?_
      refine wpList_stp (stp_gv hF (wanted_none rfl) rfl rfl (gv_move rfl (hF.t rfl)) fun a hF => ?_)
      refine wpList_stp (stp_gv hF (wanted_none rfl) rfl rfl (gv_nilCheck rfl (hF.t rfl)) fun a hF => ?_)
      refine wpList_stp (stp_gv hF (wanted_none rfl) rfl rfl (gv_field (r := 3) rfl Tryd.underlying111 rfl rfl Tryd.sz4 (by decide) (hF.t rfl)) fun a hF => ?_)
      refine wpList_stp (stp_gv hF (wanted_none rfl) rfl rfl (gv_load rfl Tryd.underlying4 rfl (hF.t rfl) (cell_ix (j := 3) (hS.cell (k := 1) rfl (rfl)) (by omega))) fun a hF => ?_)
      refine wpList_stp (stp_gv hF (wanted_none rfl) rfl rfl (gv_assign rfl (hF.t rfl)) fun a hF => ?_)
      refine wpList_nil ?_
      refine then_normal (hKq4 _ _ ?_)
      refine cond_bool (hF.t rfl) (fun h23 => ?_) (fun h23 => ?_)
      ·
        refine wp_seq_k fun Kq5 hKq5 => ?_
        -- region 4 (vault.go:48)
        refine wp_region_lit ?_
        refine wpList_stp (stp_gv hF (wanted_none rfl) rfl rfl (gv_assign rfl (ev_const _ _)) fun a hF => ?_)
        refine wpList_nil ?_
        refine then_normal (hKq5 _ _ ?_)
        refine wp_ret ?_
        refine block_ret ?_
        refine then_ret ?_
        refine ret1 (fn := Tryd.f32) (t := 6) hF rfl rfl ?_
        replace hS := hS.drop rfl
        have hw : wrF D n (q : Int) xl = (20, D) := by rw [wrF, if_neg (by omega), if_pos h23]
        rw [hw]
        exact ⟨rfl, hS⟩
      ·
        refine wp_seq_k fun Kq6 hKq6 => ?_
        -- region 5 (vault.go:49)
        refine wp_region_lit ?_
        refine wpList_stp (stp_gv hF (wanted_none rfl) rfl rfl (gv_move rfl (hF.t rfl)) fun a hF => ?_)
        refine wpList_stp (stp_gv hF (wanted_none rfl) rfl rfl (gv_nilCheck rfl (hF.t rfl)) fun a hF => ?_)
        refine wpList_stp (stp_gv hF (wanted_none rfl) rfl rfl (gv_field (r := 1) rfl Tryd.underlying111 rfl rfl Tryd.sz3 (by decide) (hF.t rfl)) fun a hF => ?_)
        refine wpList_stp (stp_gv hF (wanted_none rfl) rfl rfl (gv_load rfl Tryd.underlying3 rfl (hF.t rfl) (cell_ix (j := 1) (hS.cell (k := 1) rfl (rfl)) (by omega))) fun a hF => ?_)
        refine wpList_stp (stp_gv hF (wanted_none rfl) rfl rfl (gv_eql rfl (hF.t rfl) (ev_const _ _)) fun a hF => ?_)
        refine wpList_stp (stp_gv hF (wanted_none rfl) rfl rfl (gv_assign rfl (hF.t rfl)) fun a hF => ?_)
        refine wpList_nil ?_
        refine then_normal (hKq6 _ _ ?_)
        refine cond_dec (hF.t rfl) (fun h28 => ?_) (fun h28 => ?_)
        ·
          refine wp_seq_k fun Kq7 hKq7 => ?_
          -- region 6 (vault.go:50)
          refine Fw.wp_region_draw (by kernel_rfl) fun w hx => ?_
          replace hS := hS.ext hx
          clear hx
          refine run_head0 (n := 16) _ hF (by kernel_rfl) rfl ?_
          refine dw_gv hF rfl (wanted_none rfl) rfl rfl (fun w hx => gv_move rfl (hF.t rfl)) fun a hF => ?_
          refine dw_gv hF rfl (wanted_none rfl) rfl rfl (fun w hx => gv_nilCheck rfl (hF.t rfl)) fun a hF => ?_
          refine dw_gv hF rfl (wanted_none rfl) rfl rfl (fun w hx => gv_field (r := 0) rfl Tryd.underlying111 rfl rfl Tryd.sz109 (by decide) (hF.t rfl)) fun a hF => ?_
          refine dw_gv hF rfl (wanted_none rfl) rfl rfl (fun w hx => gv_load rfl Tryd.underlying109 rfl (hF.t rfl) (cell_ix (j := 0) ((hS.ext hx).cell (k := 1) rfl (rfl)) (by omega))) fun a hF => ?_
          refine dw_gv hF rfl (wanted_none rfl) rfl rfl (fun w hx => gv_move rfl (hF.t rfl)) fun a hF => ?_
          refine dw_gv hF rfl (wanted_none rfl) rfl rfl (fun w hx => gv_indexSl (q := q) rfl Tryd.underlying109 Tryd.sz72 (hF.t rfl) (hF.t rfl) (by omega)) fun a hF => ?_
          refine dw_gv hF rfl (wanted_none rfl) rfl rfl (fun w hx => gv_move rfl (hF.t rfl)) fun a hF => ?_
          refine dw_gv hF rfl (wanted_none rfl) rfl rfl (fun w hx => gv_nilCheck rfl (hF.t rfl)) fun a hF => ?_
          refine dw_gv hF rfl (wanted_none rfl) rfl rfl (fun w hx => gv_field (r := 2) rfl Tryd.underlying111 rfl rfl Tryd.sz3 (by decide) (hF.t rfl)) fun a hF => ?_
          refine dw_gv hF rfl (wanted_none rfl) rfl rfl (fun w hx => gv_load rfl Tryd.underlying3 rfl (hF.t rfl) (cell_ix (j := 2) ((hS.ext hx).cell (k := 1) rfl (rfl)) (by omega))) fun a hF => ?_
          refine dw_gv hF rfl (wanted_none rfl) rfl rfl (fun w hx => gv_sliceArrHi rfl Tryd.underlying72 Tryd.sz5 (hF.t rfl) (hF.t rfl) htn) fun a hF => ?_
          refine dw_gv hF rfl (wanted_none rfl) rfl rfl (fun w hx => gv_move rfl (hF.t rfl)) fun a hF => ?_
          refine dw_gv hF rfl (wanted_none rfl) rfl rfl (fun w hx => gv_nilCheck rfl (hF.t rfl)) fun a hF => ?_
          refine dw_gv hF rfl (wanted_none rfl) rfl rfl (fun w hx => gv_field (r := 2) rfl Tryd.underlying111 rfl rfl Tryd.sz3 (by decide) (hF.t rfl)) fun a hF => ?_
          refine dw_gv hF rfl (wanted_none rfl) rfl rfl (fun w hx => gv_load rfl Tryd.underlying3 rfl (hF.t rfl) (cell_ix (j := 2) ((hS.ext hx).cell (k := 1) rfl (rfl)) (by omega))) fun a hF => ?_
          refine dw_gv hF rfl (wanted_none rfl) rfl rfl (fun w hx => gv_sliceArrHi rfl Tryd.underlying72 Tryd.sz5 (hF.t rfl) (hF.t rfl) htn) fun a hF => ?_
          refine dw_nil fun a w hA hx => ?_
          replace hF := hA _ hF
          replace hS := hS.ext hx
          clear hA hx
          have hR : Rd w (.slice (some ⟨x, 0, none⟩) D.torn 64) ((xl.take D.torn).map vB) := by
            rw [List.map_take]
            exact (SRd.cutHi (SRd.arr (w0 := w00) (T := [⟨true, some x, blkB 72 xl⟩]) List.mem_cons_self hxl (by omega)) htn) w _ hS (nw_cons rfl (nw_cons rfl (nw_cons rfl hT))) (fun e he => by obtain rfl := List.mem_singleton.1 he; exact List.mem_cons_self)
          have htl : (xl.take D.torn).length = D.torn := by rw [List.length_take]; omega
          rw [← htl] at hR
          refine run_stp (by kernel_rfl) rfl (stp_copyAt (k := 2) (n := D.torn) (ml := xl.take D.torn) hF (wanted_none rfl) rfl rfl rfl Tryd.underlying22 Tryd.sz5 (hF.t rfl) (hF.t rfl) hS rfl (by rw [List.length_append, List.length_map]; omega) (by rw [← htl]; exact hR) fun a w hF hS => ?_)
          rw [show min (xl.take D.torn).length D.torn = (xl.take D.torn).length by omega, List.take_of_length_le (show (xl.take D.torn).length ≤ D.torn by omega), show 0 + q * 64 = 64 * q by omega] at hS
          rw [putL_map (by rw [htl]; omega)] at hS
          refine run_done (by decide) ?_
          refine then_normal (hKq7 _ _ ?_)
          refine wp_seq_k fun Kq8 hKq8 => ?_
          -- region 7 (vault.go:51)
          refine wp_region_lit ?_
          refine wpList_stp (stp_gv hF (wanted_none rfl) rfl rfl (gv_move rfl (hF.t rfl)) fun a hF => ?_)
          refine wpList_stp (stp_gv hF (wanted_none rfl) rfl rfl (gv_nilCheck rfl (hF.t rfl)) fun a hF => ?_)
          refine wpList_stp (stp_gv hF (wanted_none rfl) rfl rfl (gv_field (r := 3) rfl Tryd.underlying111 rfl rfl Tryd.sz4 (by decide) (hF.t rfl)) fun a hF => ?_)
          refine wpList_stp (stp_storeAt (3) hF (wanted_none rfl) rfl rfl Tryd.sz4 (hF.t rfl) (by omega) (ev_const _ _) rfl hS (k := 1) rfl (by simp) fun w hS => ?_)
          refine wpList_nil ?_
          refine then_normal (hKq8 _ _ ?_)
          refine wp_seq_k fun Kq9 hKq9 => ?_
          -- region 8 (vault.go:52)
          refine wp_region_lit ?_
          refine wpList_stp (stp_gv hF (wanted_none rfl) rfl rfl (gv_assign rfl (ev_const _ _)) fun a hF => ?_)
          refine wpList_nil ?_
          refine then_normal (hKq9 _ _ ?_)
          refine wp_ret ?_
          refine block_ret ?_
          refine then_ret ?_
          refine ret1 (fn := Tryd.f32) (t := 6) hF rfl rfl ?_
          replace hS := hS.drop rfl
          have hw : wrF D n (q : Int) xl = (20, { D with l := putL D.l (64 * q) (xl.take D.torn), dead := true }) := by rw [wrF, if_neg (by omega), if_neg (by rw [h23]; exact Bool.false_ne_true), if_pos h28]; rfl
          rw [hw]
          exact ⟨rfl, hS⟩
        ·
          refine wp_seq_k fun Kq10 hKq10 => ?_
          -- region 9 (vault.go:53)
          refine wp_region_lit ?_
          refine wpList_stp (stp_gv hF (wanted_none rfl) rfl rfl (gv_move rfl (hF.t rfl)) fun a hF => ?_)
          refine wpList_stp (stp_gv hF (wanted_none rfl) rfl rfl (gv_nilCheck rfl (hF.t rfl)) fun a hF => ?_)
          refine wpList_stp (stp_gv hF (wanted_none rfl) rfl rfl (gv_field (r := 1) rfl Tryd.underlying111 rfl rfl Tryd.sz3 (by decide) (hF.t rfl)) fun a hF => ?_)
          refine wpList_stp (stp_gv hF (wanted_none rfl) rfl rfl (gv_load rfl Tryd.underlying3 rfl (hF.t rfl) (cell_ix (j := 1) (hS.cell (k := 1) rfl (rfl)) (by omega))) fun a hF => ?_)
          refine wpList_stp (stp_gv hF (wanted_none rfl) rfl rfl (gv_gtr rfl (hF.t rfl) (ev_const _ _)) fun a hF => ?_)
          refine wpList_stp (stp_gv hF (wanted_none rfl) rfl rfl (gv_assign rfl (hF.t rfl)) fun a hF => ?_)
          refine wpList_nil ?_
          refine then_normal (hKq10 _ _ ?_)
          refine cond_dec (hF.t rfl) (fun h54 => ?_) (fun h54 => ?_)
          ·
            -- region 10 (vault.go:54)
            refine wp_region_lit ?_
            refine wpList_stp (stp_gv hF (wanted_none rfl) rfl rfl (gv_move rfl (hF.t rfl)) fun a hF => ?_)
            refine wpList_stp (stp_gv hF (wanted_none rfl) rfl rfl (gv_nilCheck rfl (hF.t rfl)) fun a hF => ?_)
            refine wpList_stp (stp_gv hF (wanted_none rfl) rfl rfl (gv_field (r := 1) rfl Tryd.underlying111 rfl rfl Tryd.sz3 (by decide) (hF.t rfl)) fun a hF => ?_)
            refine wpList_stp (stp_gv hF (wanted_none rfl) rfl rfl (gv_load rfl Tryd.underlying3 rfl (hF.t rfl) (cell_ix (j := 1) (hS.cell (k := 1) rfl (rfl)) (by omega))) fun a hF => ?_)
            refine wpList_stp (stp_gv hF (wanted_none rfl) rfl rfl (gv_sub rfl (hF.t rfl) (ev_const _ _) (by omega) (by omega)) fun a hF => ?_)
            refine wpList_stp (stp_gv hF (wanted_none rfl) rfl rfl (gv_nilCheck rfl (hF.t rfl)) fun a hF => ?_)
            refine wpList_stp (stp_gv hF (wanted_none rfl) rfl rfl (gv_field (r := 1) rfl Tryd.underlying111 rfl rfl Tryd.sz3 (by decide) (hF.t rfl)) fun a hF => ?_)
            refine wpList_stp (stp_storeAt (1) hF (wanted_none rfl) rfl rfl Tryd.sz3 (hF.t rfl) (by omega) (hF.t rfl) rfl hS (k := 1) rfl (by simp) fun w hS => ?_)
            refine wpList_nil ?_
            refine block_normal ?_
            refine then_normal ?_
            exact ⟨q, _, rfl, by omega, h23, h28, (if_pos h54).symm, hF.sub ⟨rfl, rfl, rfl, trivial⟩, hS⟩
          ·
            refine wp_skip ?_
            refine block_normal ?_
            refine then_normal ?_
            exact ⟨q, _, rfl, by omega, h23, h28, (if_neg h54).symm, hF.sub ⟨rfl, rfl, rfl, trivial⟩, hS⟩
  · rintro a w ⟨q, f, rfl, hqn, h23, h28, hf, hF, hS⟩
    refine wp_seq_k fun Kq11 hKq11 => ?_
    -- region 11 (vault.go:56)
    refine Fw.wp_region_draw (by kernel_rfl) fun w hx => ?_
    replace hS := hS.ext hx
    clear hx
    refine run_head0 (n := 7) _ hF (by kernel_rfl) rfl ?_
    refine dw_gv hF rfl (wanted_none rfl) rfl rfl (fun w hx => gv_move rfl (hF.t rfl)) fun a hF => ?_
    refine dw_gv hF rfl (wanted_none rfl) rfl rfl (fun w hx => gv_nilCheck rfl (hF.t rfl)) fun a hF => ?_
    refine dw_gv hF rfl (wanted_none rfl) rfl rfl (fun w hx => gv_field (r := 0) rfl Tryd.underlying111 rfl rfl Tryd.sz109 (by decide) (hF.t rfl)) fun a hF => ?_
    refine dw_gv hF rfl (wanted_none rfl) rfl rfl (fun w hx => gv_load rfl Tryd.underlying109 rfl (hF.t rfl) (cell_ix (j := 0) ((hS.ext hx).cell (k := 1) rfl (rfl)) (by omega))) fun a hF => ?_
    refine dw_gv hF rfl (wanted_none rfl) rfl rfl (fun w hx => gv_move rfl (hF.t rfl)) fun a hF => ?_
    refine dw_gv hF rfl (wanted_none rfl) rfl rfl (fun w hx => gv_loadAll rfl Tryd.underlying72 rfl (Tryd.sz72.trans (congrArg some (by rw [List.length_map, hxl]))) (hF.t rfl) (hS.ext hx) (k := 0) rfl) fun a hF => ?_
    refine dw_gv hF rfl (wanted_none rfl) rfl rfl (fun w hx => gv_indexSl (q := q) rfl Tryd.underlying109 Tryd.sz72 (hF.t rfl) (hF.t rfl) (by omega)) fun a hF => ?_
    refine dw_nil fun a w hA hx => ?_
    replace hF := hA _ hF
    replace hS := hS.ext hx
    clear hA hx
    refine run_stp (by kernel_rfl) rfl (stp_storeAggAt (64 * q) hF (wanted_none rfl) rfl rfl (Tryd.sz72.trans (congrArg some (by rw [List.length_map, hxl]))) (hF.t rfl) (by omega) (hF.t rfl) (one_B _) hS (k := 2) rfl (by rw [List.length_append, List.length_map, List.length_map]; omega) fun w hS => ?_)
    refine run_done (by decide) ?_
    refine then_normal (hKq11 _ _ ?_)
    refine wp_seq_k fun Kq12 hKq12 => ?_
    -- region 12 (vault.go:57)
    refine wp_region_lit ?_
    refine wpList_stp (stp_gv hF (wanted_none rfl) rfl rfl (gv_assign rfl (ev_const _ _)) fun a hF => ?_)
    refine wpList_nil ?_
    refine then_normal (hKq12 _ _ ?_)
    refine wp_ret ?_
    refine ret1 (fn := Tryd.f32) (t := 6) hF rfl rfl ?_
    replace hS := hS.drop rfl
    have hm := putL_map (l := D.l) (x := xl) (o := 64 * q) (pad := pad) (by omega)
    rw [List.length_map, hm] at hS
    have hw : wrF D n (q : Int) xl = (0, { D with l := putL D.l (64 * q) xl, fuel := f }) := by rw [wrF, if_neg (by omega), if_neg (by rw [h23]; exact Bool.false_ne_true), if_neg h28, hf]; rfl
    rw [hw]
    exact ⟨rfl, hS⟩

theorem fuel_nil {v1 v2 : Value} {w0 : World} :
    Calls Tryd.prog 39 #[.pointer none, v1, v2] w0 fun e w' => e = .returned (.tuple #[]) ∧ Ext w0 w' := by
  refine calls_start 19 Tryd.func39 rfl Tryd.ntmps39 rfl fun a hF => ?_
  refine wp_seq_k fun Kq1 hKq1 => ?_
  -- region 0 (vault.go:62)
  refine wp_region_lit ?_
  refine wpList_stp (stp_gv hF (wanted_none rfl) rfl rfl (gv_move rfl (hF.t rfl)) fun a hF => ?_)
  refine wpList_stp (stp_gv hF (wanted_none rfl) rfl rfl (gv_neqNil rfl Tryd.underlying65 (hF.t rfl) (ev_const _ _)) fun a hF => ?_)
  refine wpList_nil ?_
  refine then_normal (hKq1 _ _ ?_)
  refine wp_cond_false (hF.t rfl) ?_
  refine wp_skip ?_
  refine end0 (fn := Tryd.f39) hF rfl ?_
  exact ⟨rfl, Ext.refl _⟩

theorem fuel_ok {w00 w : World} {T : List Ent} {d p n c : Nat} {i j : Int} {D : Dk} {pad : List Value} (hS : St w00 w (⟨true, some d, dskO p n c D⟩ :: ⟨true, some p, datO D pad⟩ :: T)) :
    Calls Tryd.prog 39 #[.pointer (some ⟨d, 0, none⟩), .int .i64 i, .int .i64 j] w fun e w' => e = .returned (.tuple #[]) ∧ St w00 w' (⟨true, some d, dskO p n c (fuelF D i j)⟩ :: ⟨true, some p, datO (fuelF D i j) pad⟩ :: T) := by
  refine calls_start 19 Tryd.func39 rfl Tryd.ntmps39 rfl fun a hF => ?_
  refine wp_seq_k fun Kq1 hKq1 => ?_
  -- region 0 (vault.go:62)
  refine wp_region_lit ?_
  refine wpList_stp (stp_gv hF (wanted_none rfl) rfl rfl (gv_move rfl (hF.t rfl)) fun a hF => ?_)
  refine wpList_stp (stp_gv hF (wanted_none rfl) rfl rfl (gv_neqNil rfl Tryd.underlying65 (hF.t rfl) (ev_const _ _)) fun a hF => ?_)
  refine wpList_nil ?_
  refine then_normal (hKq1 _ _ ?_)
  refine wp_cond_true (hF.t rfl) ?_
  -- region 1 (vault.go:63)
  refine wp_region_lit ?_
  refine wpList_stp (stp_gv hF (wanted_none rfl) rfl rfl (gv_move rfl (hF.t rfl)) fun a hF => ?_)
  refine wpList_stp (stp_gv hF (wanted_none rfl) rfl rfl (gv_move rfl (hF.t rfl)) fun a hF => ?_)
  refine wpList_stp (stp_gv hF (wanted_none rfl) rfl rfl (gv_move rfl (hF.t rfl)) fun a hF => ?_)
  refine wpList_stp (stp_gv hF (wanted_none rfl) rfl rfl (gv_imax rfl (hF.t rfl) (ev_const _ _)) fun a hF => ?_)
  refine wpList_stp (stp_gv hF (wanted_none rfl) rfl rfl (gv_move rfl (hF.t rfl)) fun a hF => ?_)
  refine wpList_stp (stp_gv hF (wanted_none rfl) rfl rfl (gv_imin rfl (hF.t rfl) (ev_const _ _)) fun a hF => ?_)
  refine wpList_stp (stp_gv hF (wanted_none rfl) rfl rfl (gv_imax rfl (ev_const _ _) (hF.t rfl)) fun a hF => ?_)
  refine wpList_stp (stp_gv hF (wanted_none rfl) rfl rfl (gv_nilCheck rfl (hF.t rfl)) fun a hF => ?_)
  refine wpList_stp (stp_gv hF (wanted_none rfl) rfl rfl (gv_field (r := 1) rfl Tryd.underlying111 rfl rfl Tryd.sz3 (by decide) (hF.t rfl)) fun a hF => ?_)
  refine wpList_stp (stp_storeAt (1) hF (wanted_none rfl) rfl rfl Tryd.sz3 (hF.t rfl) (by omega) (hF.t rfl) rfl hS (k := 0) rfl (by simp) fun w hS => ?_)
  refine wpList_stp (stp_gv hF (wanted_none rfl) rfl rfl (gv_nilCheck rfl (hF.t rfl)) fun a hF => ?_)
  refine wpList_stp (stp_gv hF (wanted_none rfl) rfl rfl (gv_field (r := 2) rfl Tryd.underlying111 rfl rfl Tryd.sz3 (by decide) (hF.t rfl)) fun a hF => ?_)
  refine wpList_stp (stp_storeAt (2) hF (wanted_none rfl) rfl rfl Tryd.sz3 (hF.t rfl) (by omega) (hF.t rfl) rfl hS (k := 0) rfl (by simp) fun w hS => ?_)
  refine wpList_nil ?_
  refine end0 (fn := Tryd.f39) hF rfl ⟨rfl, ?_⟩
  have ht : Value.int .i64 (max 0 (min j 64)) = vI (max 0 (min j 64)).toNat := by rw [vI]; congr 1; omega
  rw [ht] at hS
  exact hS

theorem again_nil {w0 : World} :
    Calls Tryd.prog 40 #[.pointer none] w0 fun e w' => e = .returned (.pointer none) ∧ Ext w0 w' := by
  refine calls_start 12 Tryd.func40 rfl Tryd.ntmps40 rfl fun a hF => ?_
  refine wp_seq_k fun Kq1 hKq1 => ?_
  -- region 0 (vault.go:71)
  refine wp_region_lit ?_
  refine wpList_stp (stp_gv hF (wanted_none rfl) rfl rfl (gv_assign rfl (ev_const _ _)) fun a hF => ?_)
  refine wpList_nil ?_
  refine then_normal (hKq1 _ _ ?_)
  refine wp_seq_k fun Kq2 hKq2 => ?_
  refine wp_seq_k fun Kq3 hKq3 => ?_
  -- region 1 (vault.go:72)
  refine wp_region_lit ?_
  refine wpList_stp (stp_gv hF (wanted_none rfl) rfl rfl (gv_move rfl (hF.t rfl)) fun a hF => ?_)
  refine wpList_stp (stp_gv hF (wanted_none rfl) rfl rfl (gv_eqlNil rfl Tryd.underlying65 (hF.t rfl) (ev_const _ _)) fun a hF => ?_)
  refine wpList_nil ?_
  refine then_normal (hKq3 _ _ ?_)
  refine wp_cond_true (hF.t rfl) ?_
  refine wp_seq_k fun Kq4 hKq4 => ?_
  -- region 2 (vault.go:73)
  refine wp_region_lit ?_
  refine wpList_stp (stp_gv hF (wanted_none rfl) rfl rfl (gv_assign rfl (ev_const _ _)) fun a hF => ?_)
  refine wpList_nil ?_
  refine then_normal (hKq4 _ _ ?_)
  refine wp_ret ?_
  refine then_ret ?_
  refine ret1 (fn := Tryd.f40) (t := 2) hF rfl rfl ?_
  exact ⟨rfl, Ext.refl _⟩

theorem again_call {d p n c : Nat} {D : Dk} {w0 : World} (hD : DskW w0 d p n c D) (hK : DkOk n D) :
    Calls Tryd.prog 40 #[.pointer (some ⟨d, 0, none⟩)] w0 fun e w' => ∃ d' p' c' pad', e = .returned (.pointer (some ⟨d', 0, none⟩)) ∧ n ≤ c' ∧ c' ≤ 9223372036854775807 ∧ St w0 w' [⟨true, some d', dskO p' n c' (againF D)⟩, ⟨true, some p', datO (againF D) pad'⟩] := by
  obtain ⟨hl, hn4, hn1, hf0, hf1, htn⟩ := hK
  refine calls_start 12 Tryd.func40 rfl Tryd.ntmps40 rfl fun a hF => ?_
  have hS := St.refl w0
  refine wp_seq_k fun Kq1 hKq1 => ?_
  -- region 0 (vault.go:71)
  refine wp_region_lit ?_
  refine wpList_stp (stp_gv hF (wanted_none rfl) rfl rfl (gv_assign rfl (ev_const _ _)) fun a hF => ?_)
  refine wpList_nil ?_
  refine then_normal (hKq1 _ _ ?_)
  refine wp_seq_k fun Kq2 hKq2 => ?_
  refine wp_seq_k fun Kq3 hKq3 => ?_
  -- region 1 (vault.go:72)
  refine wp_region_lit ?_
  refine wpList_stp (stp_gv hF (wanted_none rfl) rfl rfl (gv_move rfl (hF.t rfl)) fun a hF => ?_)
  refine wpList_stp (stp_gv hF (wanted_none rfl) rfl rfl (gv_eqlNil rfl Tryd.underlying65 (hF.t rfl) (ev_const _ _)) fun a hF => ?_)
  refine wpList_nil ?_
  refine then_normal (hKq3 _ _ ?_)
  refine wp_cond_false (hF.t rfl) ?_
  refine wp_skip ?_
  refine then_normal (hKq2 _ _ ?_)
  refine wp_seq_k fun Kq4 hKq4 => ?_
  -- region 3 (vault.go:75)
  refine wp_region_lit ?_
  refine wpList_stp (stp_gv hF (wanted_none rfl) rfl rfl (gv_move rfl (hF.t rfl)) fun a hF => ?_)
  refine wpList_stp (stp_gv hF (wanted_none rfl) rfl rfl (gv_nilCheck rfl (hF.t rfl)) fun a hF => ?_)
  refine wpList_stp (stp_gv hF (wanted_none rfl) rfl rfl (gv_field (r := 0) rfl Tryd.underlying111 rfl rfl Tryd.sz109 (by decide) (hF.t rfl)) fun a hF => ?_)
  refine wpList_stp (stp_gv hF (wanted_none rfl) rfl rfl (gv_load rfl Tryd.underlying109 rfl (hF.t rfl) (cell_ix hD.c0 (by omega))) fun a hF => ?_)
  refine wpList_stp (stp_appNilN (news := D.l.map vB) hF (wanted_none rfl) rfl rfl rfl Tryd.underlying109 Tryd.ty72 (ev_const _ _) (hF.t rfl) (by rw [List.length_map, hl]; omega) (fun j u hu => by rw [Nat.zero_add]; exact hD.dat j u hu) (by omega) (by omega) (by omega) hS fun p2 c2 pad2 a w hF hc1 hc2 hS => ?_)
  refine wpList_stp (stp_gv hF (wanted_none rfl) rfl rfl (gv_build rfl (EvP.map (EvP.cons (hF.t rfl) (EvP.cons (ev_const _ _) EvP.nil))) (build_disk _ _ _ _)) fun a hF => ?_)
  refine wpList_stp (stp_box hF (wanted_none rfl) rfl rfl rfl (hF.t rfl) rfl hS fun d2 a w hF hS => ?_)
  refine wpList_stp (stp_gv hF (wanted_none rfl) rfl rfl (gv_assign rfl (hF.t rfl)) fun a hF => ?_)
  refine wpList_nil ?_
  refine then_normal (hKq4 _ _ ?_)
  refine wp_ret ?_
  refine ret1 (fn := Tryd.f40) (t := 2) hF rfl rfl ?_
  exact ⟨d2, p2, c2, pad2, rfl, hc1, hc2, hS⟩

theorem new_bad {i : Int} {w0 : World} (h : i < 4 ∨ 1024 < i) :
    Calls Tryd.prog 28 #[.int .i64 i] w0 fun e w' => e = .returned (.tuple #[.pointer none, .int .i64 1]) ∧ Ext w0 w' := by
  refine calls_start 14 Tryd.func28 rfl Tryd.ntmps28 rfl fun a hF => ?_
  have hS := St.refl w0
  refine wp_seq_k fun Kq1 hKq1 => ?_
  -- region 0 (vault.go:19)
  refine wp_region_lit ?_
  refine wpList_stp (stp_gv hF (wanted_none rfl) rfl rfl (gv_assign rfl (ev_const _ _)) fun a hF => ?_)
  refine wpList_stp (stp_gv hF (wanted_none rfl) rfl rfl (gv_assign rfl (ev_const _ _)) fun a hF => ?_)
  refine wpList_nil ?_
  refine then_normal (hKq1 _ _ ?_)
  refine wp_seq_k fun Kq2 hKq2 => ?_
  refine wp_seq_k fun Kq3 hKq3 => ?_
  -- region 1 (vault.go:20)
  refine wp_region_lit ?_
  refine wpList_stp (stp_gv hF (wanted_none rfl) rfl rfl (gv_move rfl (hF.t rfl)) fun a hF => ?_)
  refine wpList_stp (stp_gv hF (wanted_none rfl) rfl rfl (gv_lss rfl (hF.t rfl) (ev_const _ _)) fun a hF => ?_)
  refine wpList_stp (stp_gv hF (wanted_none rfl) rfl rfl (gv_move rfl (hF.t rfl)) fun a hF => ?_)
  refine wpList_stp (stp_gvG' hF rfl rfl rfl rfl rfl (fun hg => gv_move rfl (hF.t rfl)) fun a hF => ?_)
  refine wpList_stp (stp_gvG' hF rfl rfl rfl rfl rfl (fun hg => gv_gtr rfl ((hF.t rfl).trans (if_neg hg)) (ev_const _ _)) fun a hF => ?_)
  refine wpList_stp (stp_gv hF (wanted_none rfl) rfl rfl (gv_pickOr rfl (hF.t rfl) (ev_const _ _) (hF.t rfl)) fun a hF => ?_)
  refine wpList_nil ?_
  refine then_normal (hKq3 _ _ ?_)
  refine cond_dec (hF.t rfl) (fun h9 => ?_) (fun h9 => ?_)
  ·
    refine wp_seq_k fun Kq4 hKq4 => ?_
    -- region 2 (vault.go:21)
    refine wp_region_lit ?_
    refine wpList_stp (stp_gv hF (wanted_none rfl) rfl rfl (gv_assign rfl (ev_const _ _)) fun a hF => ?_)
    refine wpList_stp (stp_gv hF (wanted_none rfl) rfl rfl (gv_assign rfl (ev_const _ _)) fun a hF => ?_)
    refine wpList_nil ?_
    refine then_normal (hKq4 _ _ ?_)
    refine wp_ret ?_
    refine then_ret ?_
    refine ret2 (fn := Tryd.f28) (t := 2) (u := 3) hF rfl rfl rfl ?_
    exact ⟨rfl, Ext.refl _⟩
  ·
    exact absurd h h9

theorem new_call {n : Nat} {w0 : World} (h4 : 4 ≤ n) (h1 : n ≤ 1024) :
    Calls Tryd.prog 28 #[vI n] w0 fun e w' => ∃ d p, e = .returned (.tuple #[.pointer (some ⟨d, 0, none⟩), .int .i64 0]) ∧ St w0 w' [⟨true, some d, dskO p n n (newF n)⟩, ⟨true, some p, datO (newF n) []⟩] := by
  refine calls_start 14 Tryd.func28 rfl Tryd.ntmps28 rfl fun a hF => ?_
  have hS := St.refl w0
  refine wp_seq_k fun Kq1 hKq1 => ?_
  -- region 0 (vault.go:19)
  refine wp_region_lit ?_
  refine wpList_stp (stp_gv hF (wanted_none rfl) rfl rfl (gv_assign rfl (ev_const _ _)) fun a hF => ?_)
  refine wpList_stp (stp_gv hF (wanted_none rfl) rfl rfl (gv_assign rfl (ev_const _ _)) fun a hF => ?_)
  refine wpList_nil ?_
  refine then_normal (hKq1 _ _ ?_)
  refine wp_seq_k fun Kq2 hKq2 => ?_
  refine wp_seq_k fun Kq3 hKq3 => ?_
  -- region 1 (vault.go:20)
  refine wp_region_lit ?_
  refine wpList_stp (stp_gv hF (wanted_none rfl) rfl rfl (gv_move rfl (hF.t rfl)) fun a hF => ?_)
  refine wpList_stp (stp_gv hF (wanted_none rfl) rfl rfl (gv_lssF rfl (hF.t rfl) (ev_const _ _) (by omega)) fun a hF => ?_)
  refine wpList_stp (stp_gv hF (wanted_none rfl) rfl rfl (gv_move rfl (hF.t rfl)) fun a hF => ?_)
  refine wpList_stp (stp_gv hF (wanted_of hF rfl rfl (rfl)) rfl rfl (gv_move rfl (hF.t rfl)) fun a hF => ?_)
  refine wpList_stp (stp_gv hF (wanted_of hF rfl rfl (rfl)) rfl rfl (gv_gtrF rfl (hF.t rfl) (ev_const _ _) (by omega)) fun a hF => ?_)
  refine wpList_stp (stp_gv hF (wanted_none rfl) rfl rfl (gv_pickF rfl (hF.t rfl) (hF.t rfl)) fun a hF => ?_)
  refine wpList_nil ?_
  refine then_normal (hKq3 _ _ ?_)
  refine wp_cond_false (hF.t rfl) ?_
  refine wp_skip ?_
  refine then_normal (hKq2 _ _ ?_)
  refine wp_seq_k fun Kq4 hKq4 => ?_
  -- region 3 (vault.go:23)
  refine wp_region_lit ?_
  refine wpList_stp (stp_gv hF (wanted_none rfl) rfl rfl (gv_move rfl (hF.t rfl)) fun a hF => ?_)
  refine wpList_stp (stp_makeN (u := vB 0) (sz := 64) (n := n) hF (wanted_none rfl) rfl rfl rfl Tryd.underlying109 Tryd.ty72 (by rw [show (List.replicate 64 (vB 0)) = (List.replicate 64 (0 : UInt8)).map vB from rfl]; rfl) (by omega) (hF.t rfl) (hF.t rfl) (by omega) (by omega) hS fun p a w hF hS => ?_)
  rw [show List.replicate (n * 64) (vB 0) = (newF n).l.map vB ++ [] by rw [List.append_nil, newF, List.map_replicate, Nat.mul_comm]] at hS
  refine wpList_stp (stp_gv hF (wanted_none rfl) rfl rfl (gv_build rfl (EvP.map (EvP.cons (hF.t rfl) (EvP.cons (ev_const _ _) EvP.nil))) (build_disk _ _ _ _)) fun a hF => ?_)
  refine wpList_stp (stp_box hF (wanted_none rfl) rfl rfl rfl (hF.t rfl) rfl hS fun d a w hF hS => ?_)
  refine wpList_stp (stp_gv hF (wanted_none rfl) rfl rfl (gv_assign rfl (hF.t rfl)) fun a hF => ?_)
  refine wpList_stp (stp_gv hF (wanted_none rfl) rfl rfl (gv_assign rfl (ev_const _ _)) fun a hF => ?_)
  refine wpList_nil ?_
  refine then_normal (hKq4 _ _ ?_)
  refine wp_ret ?_
  refine ret2 (fn := Tryd.f28) (t := 2) (u := 3) hF rfl rfl rfl ?_
  exact ⟨d, p, rfl, hS⟩


end Go.Proofs.YtfhalnobaeogkaaDoor
