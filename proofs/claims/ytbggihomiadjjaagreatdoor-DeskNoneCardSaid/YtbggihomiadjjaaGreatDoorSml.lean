/- What is proved: Small of package tabularylaw14 comes to some whole number, whatever the elements are, and leaves memory as it was. -/
import Derived.Test.YtbggihomiadjjaaGreatDoorProg
import Derived.Test.YtbggihomiadjjaaGreatDoorFwStr
import Derived.KernelRfl
set_option linter.unusedVariables false
set_option linter.unusedSimpArgs false
namespace Go.Proofs.YtbggihomiadjjaaGreatDoor
open Go Go.RowKit Go.Fw

section
variable {P : Program} {a : Act} {o : Oper} {w : World} {t t' : TypeId} {x y : Operand} {p q : Int}
theorem gv_addw (ho : o.op = .binOp .add t x y t') (hx : a.eval x = .int .i64 p) (hy : a.eval y = .int .i64 q) : Gv P o a w (.int .i64 (IntKind.i64.wrap (p + q))) := gv_int ho hx hy (by simp [binOp, Op.intArith])
theorem gv_subw (ho : o.op = .binOp .sub t x y t') (hx : a.eval x = .int .i64 p) (hy : a.eval y = .int .i64 q) : Gv P o a w (.int .i64 (IntKind.i64.wrap (p - q))) := gv_int ho hx hy (by simp [binOp, Op.intArith])
theorem gv_quow (ho : o.op = .binOp .quo t x y t') (hx : a.eval x = .int .i64 p) (hy : a.eval y = .int .i64 q) (h : q ≠ 0) : Gv P o a w (.int .i64 (IntKind.i64.wrap (p.tdiv q))) := gv_int ho hx hy (by simp [binOp, Op.intDiv, h])
end
theorem cell_ext {w w' : World} {b i : Nat} {v : Value} (h : w.cell? ⟨b, i, none⟩ = some v) (hx : Ext w w') : w'.cell? ⟨b, i, none⟩ = some v := (cell_same (hx.block b (cell_lt h))).trans h
/-- An element, its parts held unread but for its kids. -/
structure El where
  sp : ByteArray
  nm : ByteArray
  aA : Option Addr
  an : Nat
  ac : Nat
  tx : ByteArray
  kv : Value
def El.cells (x : El) : List Value := [.string x.sp, .string x.nm, .slice x.aA x.an x.ac, .string x.tx, x.kv]
/-- Elements as they lie in memory, and theirs. -/
inductive Els (w : World) : Value → Prop
  | mk {A : Option Addr} {cs : List El} {c : Nat} : (0 < cs.length → ∃ b o, A = some ⟨b, o, none⟩ ∧ ∀ i x, cs[i]? = some x → ∀ j u, x.cells[j]? = some u → w.cell? ⟨b, o + i * 5 + j, none⟩ = some u) →
      (∀ (i : Nat) (x : El), cs[i]? = some x → Els w x.kv) → cs.length ≤ 9223372036854775807 → Els w (.slice A cs.length c)
theorem Els.ext {w w' : World} (hx : Ext w w') {v : Value} (h : Els w v) : Els w' v := by
  induction h with
  | mk h1 _ h3 ih =>
    refine .mk (fun hp => ?_) ih h3
    obtain ⟨b, o, hA, hc⟩ := h1 hp
    exact ⟨b, o, hA, fun i x hi j u hu => cell_ext (hc i x hi j u hu) hx⟩
theorem Els.slice {w : World} {v : Value} (h : Els w v) : ∃ A n c, v = .slice A n c := by cases h; exact ⟨_, _, _, rfl⟩

theorem Tryz.sz22 : (Tryz.prog.info? 22).map (·.size) = some 1 := by kernel_rfl
theorem Tryz.sz57 : (Tryz.prog.info? 57).map (·.size) = some 5 := by kernel_rfl
theorem Tryz.sz9 : (Tryz.prog.info? 9).map (·.size) = some 1 := by kernel_rfl
theorem Tryz.sz55 : (Tryz.prog.info? 55).map (·.size) = some 1 := by kernel_rfl
theorem Tryz.zv57 : (Tryz.prog.info? 57).map (·.zero) = some (some (Value.agg ([Value.string .empty, Value.string .empty, Value.slice none 0 0, Value.string .empty, Value.slice none 0 0] : List Value).toArray)) := by kernel_rfl
theorem Tryz.ok5 : CallOk Tryz.prog 5 := ⟨_, Tryz.func5, by kernel_rfl, by kernel_rfl⟩

theorem small_ok {v : Value} {w0 : World} (hv : Els w0 v) : ∀ (w1 : World) (z : Int), Ext w0 w1 → Calls Tryz.prog 5 #[v, .int .i64 z] w1 fun e w' => (∃ z' : Int, e = .returned (.int .i64 z')) ∧ Ext w1 w' := by
  induction hv with
  | @mk A cs c h1 _ h3 ih =>
  intro w1 z hx01
  refine calls_start 41 Tryz.func5 rfl Tryz.ntmps5 rfl fun a hF => ?_
  have hS := St.refl w1
  refine wp_seq_k fun Kq1 hKq1 => ?_
  -- region 0
  refine wp_region_lit ?_
  refine wpList_stp (stp_gv hF (wanted_none rfl) rfl rfl (gv_assign rfl (ev_const _ _)) fun a hF => ?_)
  refine wpList_nil ?_
  refine then_normal (hKq1 _ _ ?_)
  refine wp_seq_k fun Kq3 hKq3 => ?_
  refine wp_seq_k fun Kq4 hKq4 => ?_
  -- region 1
  refine wp_region_lit ?_
  refine wpList_stp (stp_gv hF (wanted_none rfl) rfl rfl (gv_move rfl (hF.t rfl)) fun a hF => ?_)
  refine wpList_stp (stp_gv hF (wanted_none rfl) rfl rfl (gv_len rfl Tryz.underlying22 (hF.t rfl)) fun a hF => ?_)
  refine wpList_stp (stp_gv hF (wanted_none rfl) rfl rfl (gv_move rfl (ev_const _ _)) fun a hF => ?_)
  refine wpList_nil ?_
  refine then_normal (hKq4 _ _ ?_)
  refine wp_block ?_
  refine wp_loop_n (fun n a w => ∃ i, i ≤ cs.length ∧ n = cs.length - i ∧ ∃ z : Int, Fr 41 a [(1, .int .i64 z), (7, .slice A cs.length c), (8, vI cs.length), (9, vI i)] ∧ St w1 w []) cs.length ⟨0, by omega, by omega, z, hF.sub ⟨rfl, rfl, rfl, rfl, trivial⟩, hS⟩ ?_
  rintro n a w ⟨i, hi, hn, z, hF, hS⟩
  refine wp_seq_k fun Kq5 hKq5 => ?_
  -- region 2
  refine wp_region_lit ?_
  refine wpList_stp (stp_gv hF (wanted_none rfl) rfl rfl (gv_lss rfl (hF.t rfl) (hF.t rfl)) fun a hF => ?_)
  refine wpList_nil ?_
  refine then_normal (hKq5 _ _ ?_)
  refine wp_seq_k fun Kq6 hKq6 => ?_
  refine cond_dec (hF.t rfl) (fun h9 => ?_) (fun h9 => ?_)
  ·
    obtain ⟨b1, o1, hA1, hcells⟩ := h1 (by omega)
    obtain ⟨x1, hx1⟩ : ∃ x, cs[i]? = some x := ⟨_, List.getElem?_eq_getElem (by omega)⟩
    have hcell := hcells i x1 hx1
    have hkv := ih i x1 hx1
    obtain ⟨kA, kn, kc, hks⟩ := (‹∀ (i : Nat) (x : El), cs[i]? = some x → Els w0 x.kv› i x1 hx1).slice
    obtain ⟨sp, nm, aA, an, ac, tx, kv⟩ := x1
    simp only at hks hkv
    subst hks
    subst hA1
    refine wp_skip ?_
    refine then_normal (hKq6 _ _ ?_)
    refine wp_seq_k fun Kq7 hKq7 => ?_
    refine wp_block ?_
    refine wp_seq_k fun Kq8 hKq8 => ?_
    -- region 3
    refine wp_region_lit ?_
    refine wpList_stp (stp_gv hF (wanted_none rfl) rfl rfl (gv_indexSl rfl Tryz.underlying22 Tryz.sz57 (hF.t rfl) (hF.t rfl) (by omega)) fun a hF => ?_)
    refine wpList_stp (stp_gv hF (wanted_none rfl) rfl rfl (gv_loadAgg (vs := [.string sp, .string nm, .slice aA an ac, .string tx, .slice kA kn kc]) rfl Tryz.underlying57 rfl (Tryz.sz57.trans (congrArg some (by rfl))) (hF.t rfl) (fun j u hu => cell_ext (cell_ext (hcell j u hu) hx01) (hS.toExt nw_nil))) fun a hF => ?_)
    refine wpList_stp (stp_alloc hF (wanted_none rfl) rfl rfl rfl Tryz.zv57 rfl hS fun cx a w hF hS => ?_)
    refine wpList_stp (stp_storeAll hF (wanted_none rfl) rfl rfl (Tryz.sz57.trans (congrArg some (by rfl))) (hF.t rfl) (hF.t rfl) (by intro u hu; simp at hu; rcases hu with rfl | rfl | rfl | rfl | rfl <;> rfl) hS (k := 0) rfl (by rfl) fun w hS => ?_)
    refine wpList_nil ?_
    refine then_normal (hKq8 _ _ ?_)
    refine wp_seq_k fun Kq13 hKq13 => ?_
    refine wp_seq_k fun Kq9 hKq9 => ?_
    -- region 4
    refine wp_region_lit ?_
    refine wpList_stp (stp_gv hF (wanted_none rfl) rfl rfl (gv_move rfl (hF.t rfl)) fun a hF => ?_)
    refine wpList_stp (stp_gv hF (wanted_none rfl) rfl rfl (gv_field (r := 3) rfl Tryz.underlying57 rfl rfl Tryz.sz9 (by decide) (hF.t rfl)) fun a hF => ?_)
    refine wpList_stp (stp_gv hF (wanted_none rfl) rfl rfl (gv_load rfl Tryz.underlying9 rfl (hF.t rfl) (cell_ix (j := 3) (hS.cell (k := 0) rfl (rfl)) (by omega))) fun a hF => ?_)
    refine wpList_stp (stp_gv hF (wanted_none rfl) rfl rfl (gv_lenStr rfl Tryz.underlying9 (hF.t rfl)) fun a hF => ?_)
    refine wpList_stp (stp_gv hF (wanted_none rfl) rfl rfl (gv_field (r := 0) rfl Tryz.underlying57 rfl rfl Tryz.sz9 (by decide) (hF.t rfl)) fun a hF => ?_)
    refine wpList_stp (stp_gv hF (wanted_none rfl) rfl rfl (gv_load rfl Tryz.underlying9 rfl (hF.t rfl) (cell_ix (j := 0) (hS.cell (k := 0) rfl (rfl)) (by omega))) fun a hF => ?_)
    refine wpList_stp (stp_gv hF (wanted_none rfl) rfl rfl (gv_lenStr rfl Tryz.underlying9 (hF.t rfl)) fun a hF => ?_)
    refine wpList_stp (stp_gv hF (wanted_none rfl) rfl rfl (gv_addw rfl (hF.t rfl) (hF.t rfl)) fun a hF => ?_)
    refine wpList_stp (stp_gv hF (wanted_none rfl) rfl rfl (gv_field (r := 1) rfl Tryz.underlying57 rfl rfl Tryz.sz9 (by decide) (hF.t rfl)) fun a hF => ?_)
    refine wpList_stp (stp_gv hF (wanted_none rfl) rfl rfl (gv_load rfl Tryz.underlying9 rfl (hF.t rfl) (cell_ix (j := 1) (hS.cell (k := 0) rfl (rfl)) (by omega))) fun a hF => ?_)
    refine wpList_stp (stp_gv hF (wanted_none rfl) rfl rfl (gv_lenStr rfl Tryz.underlying9 (hF.t rfl)) fun a hF => ?_)
    refine wpList_stp (stp_gv hF (wanted_none rfl) rfl rfl (gv_addw rfl (hF.t rfl) (hF.t rfl)) fun a hF => ?_)
    refine wpList_stp (stp_gv hF (wanted_none rfl) rfl rfl (gv_quow (q := 50) rfl (hF.t rfl) rfl (by decide)) fun a hF => ?_)
    refine wpList_stp (stp_gv hF (wanted_none rfl) rfl rfl (gv_addw (p := 1) rfl rfl (hF.t rfl)) fun a hF => ?_)
    refine wpList_stp (stp_gv hF (wanted_none rfl) rfl rfl (gv_field (r := 2) rfl Tryz.underlying57 rfl rfl Tryz.sz55 (by decide) (hF.t rfl)) fun a hF => ?_)
    refine wpList_stp (stp_gv hF (wanted_none rfl) rfl rfl (gv_load rfl Tryz.underlying55 rfl (hF.t rfl) (cell_ix (j := 2) (hS.cell (k := 0) rfl (rfl)) (by omega))) fun a hF => ?_)
    refine wpList_stp (stp_gv hF (wanted_none rfl) rfl rfl (gv_len rfl Tryz.underlying55 (hF.t rfl)) fun a hF => ?_)
    refine wpList_stp (stp_gv hF (wanted_none rfl) rfl rfl (gv_addw rfl (hF.t rfl) (hF.t rfl)) fun a hF => ?_)
    refine wpList_stp (stp_gv hF (wanted_none rfl) rfl rfl (gv_subw rfl (hF.t rfl) (hF.t rfl)) fun a hF => ?_)
    refine wpList_stp (stp_gv hF (wanted_none rfl) rfl rfl (gv_assign rfl (hF.t rfl)) fun a hF => ?_)
    refine wpList_nil ?_
    refine then_normal (hKq9 _ _ ?_)
    refine wp_seq_k fun Kq10 hKq10 => ?_
    -- region 5
    refine wp_region_lit ?_
    refine wpList_stp (stp_gv hF (wanted_none rfl) rfl rfl (gv_move rfl (hF.t rfl)) fun a hF => ?_)
    refine wpList_stp (stp_gv hF (wanted_none rfl) rfl rfl (gv_lss rfl (hF.t rfl) (ev_const _ _)) fun a hF => ?_)
    refine wpList_nil ?_
    refine then_normal (hKq10 _ _ ?_)
    refine cond_dec (hF.t rfl) (fun h24 => ?_) (fun h24 => ?_)
    ·
      refine wp_seq_k fun Kq11 hKq11 => ?_
      -- region 6
      refine wp_region_lit ?_
      refine wpList_stp (stp_gv hF (wanted_none rfl) rfl rfl (gv_move rfl (hF.t rfl)) fun a hF => ?_)
      refine wpList_stp (stp_gv hF (wanted_none rfl) rfl rfl (gv_assign rfl (hF.t rfl)) fun a hF => ?_)
      refine wpList_nil ?_
      refine then_normal (hKq11 _ _ ?_)
      refine wp_ret ?_
      refine then_ret ?_
      refine block_ret ?_
      refine then_ret ?_
      refine then_ret ?_
      refine block_ret ?_
      refine then_ret ?_
      refine ret1 (fn := Tryz.f5) (t := 4) hF rfl rfl ?_
      exact ⟨⟨_, rfl⟩, hS.toExt (nw_cons rfl nw_nil)⟩
    ·
      refine wp_skip ?_
      refine then_normal (hKq13 _ _ ?_)
      -- region 7
      refine wp_region_lit ?_
      refine wpList_stp (stp_gv hF (wanted_none rfl) rfl rfl (gv_field (r := 4) rfl Tryz.underlying57 rfl rfl Tryz.sz22 (by decide) (hF.t rfl)) fun a hF => ?_)
      refine wpList_stp (stp_gv hF (wanted_none rfl) rfl rfl (gv_load rfl Tryz.underlying22 rfl (hF.t rfl) (cell_ix (j := 4) (hS.cell (k := 0) rfl (rfl)) (by omega))) fun a hF => ?_)
      refine wpList_stp (stp_gv hF (wanted_none rfl) rfl rfl (gv_move rfl (hF.t rfl)) fun a hF => ?_)
      refine wpList_stp (stp_call hF (wanted_none rfl) rfl rfl Tryz.ok5 rfl (Evs.cons (hF.t rfl) (Evs.cons (hF.t rfl) Evs.nil)) (hkv _ _ (hx01.trans (hS.toExt (nw_cons rfl nw_nil)))) fun e w h => ?_)
      obtain ⟨⟨z', rfl⟩, hx⟩ := h
      refine ⟨_, rfl, fun a hF => ?_⟩
      replace hS := hS.ext hx
      refine wpList_stp (stp_gv hF (wanted_none rfl) rfl rfl (gv_assign rfl (hF.t rfl)) fun a hF => ?_)
      refine wpList_nil ?_
      refine block_normal ?_
      refine then_normal (hKq7 _ _ ?_)
      -- region 8
      refine wp_region_lit ?_
      refine wpList_stp (stp_gv hF (wanted_none rfl) rfl rfl (gv_nadd (n := 1) rfl (hF.t rfl) rfl (by omega)) fun a hF => ?_)
      refine wpList_stp (stp_gv hF (wanted_none rfl) rfl rfl (gv_move rfl (hF.t rfl)) fun a hF => ?_)
      refine wpList_nil ?_
      refine then_normal ?_
      exact ⟨n - 1, by omega, i + 1, by omega, by omega, _, hF.sub ⟨rfl, rfl, rfl, rfl, trivial⟩, hS.drop rfl⟩
  ·
    refine wp_exit ?_
    refine then_exit ?_
    refine then_exit ?_
    refine block_exit ?_
    refine then_normal (hKq3 _ _ ?_)
    refine wp_seq_k fun Kq12 hKq12 => ?_
    -- region 9
    refine wp_region_lit ?_
    refine wpList_stp (stp_gv hF (wanted_none rfl) rfl rfl (gv_move rfl (hF.t rfl)) fun a hF => ?_)
    refine wpList_stp (stp_gv hF (wanted_none rfl) rfl rfl (gv_assign rfl (hF.t rfl)) fun a hF => ?_)
    refine wpList_nil ?_
    refine then_normal (hKq12 _ _ ?_)
    refine wp_ret ?_
    refine ret1 (fn := Tryz.f5) (t := 4) hF rfl rfl ?_
    exact ⟨⟨_, rfl⟩, hS.toExt nw_nil⟩
end Go.Proofs.YtbggihomiadjjaaGreatDoor
