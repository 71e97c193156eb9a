/- What is proved: a region of four operations of which the first two come in either order; copy into a row of the call's own; a slice of two slices that is built. -/
import Derived.Test.YtfhalnobaeogkaaDoorFwPkt
import Derived.Test.YtfhalnobaeogkaaDoorFwTok
set_option linter.unusedVariables false
set_option linter.unusedSimpArgs false
namespace Go.Fw
open Go Go.RowKit
theorem cell_ext {w w' : World} {b i : Nat} {v : Value} (h : w.cell? ⟨b, i, none⟩ = some v) (hx : Ext w w') : w'.cell? ⟨b, i, none⟩ = some v := (cell_same (hx.block b (cell_lt h))).trans h
section
variable {P : Program} {ops : Array Oper} {Q : Exit → Act → World → Prop} {N : Nat} {a : Act} {m : List (Nat × Value)} {o : Oper} {w w0 : World} {K K' : Act → World → Prop} {H : List Ent}
theorem stp_mono (hk : ∀ a w, K a w → K' a w) (h : Stp P ops Q o a w K) : Stp P ops Q o a w K' := by
  unfold Stp at h ⊢
  split
  · rename_i hw
    rw [if_pos hw] at h
    exact h.imp (Oper.wp_mono hk) id
  · rename_i hw
    rw [if_neg hw] at h
    exact hk _ _ h
theorem run_four {o0 o1 o2 o3 : Oper} (φ : Act → World → Prop) (hsz : ops.size = 4) (h0 : ops[0]? = some o0) (h1 : ops[1]? = some o1) (h2 : ops[2]? = some o2) (h3 : ops[3]? = some o3)
    (r0 : Region.ready .any ops (upto 4 0) = [0, 1]) (r1 : Region.ready .any ops ((upto 4 0).setIfInBounds 0 true) = [1, 2]) (r2 : Region.ready .any ops ((upto 4 0).setIfInBounds 1 true) = [0])
    (r3 : Region.ready .any ops (((upto 4 0).setIfInBounds 0 true).setIfInBounds 1 true) = [2]) (r4 : Region.ready .any ops (((upto 4 0).setIfInBounds 0 true).setIfInBounds 2 true) = [1]) (r5 : Region.ready .any ops (((upto 4 0).setIfInBounds 1 true).setIfInBounds 0 true) = [2])
    (r6 : Region.ready .any ops ((((upto 4 0).setIfInBounds 0 true).setIfInBounds 1 true).setIfInBounds 2 true) = [3]) (r7 : Region.ready .any ops ((((upto 4 0).setIfInBounds 0 true).setIfInBounds 2 true).setIfInBounds 1 true) = [3]) (r8 : Region.ready .any ops ((((upto 4 0).setIfInBounds 1 true).setIfInBounds 0 true).setIfInBounds 2 true) = [3])
    (r9 : Region.ready .any ops (((((upto 4 0).setIfInBounds 0 true).setIfInBounds 1 true).setIfInBounds 2 true).setIfInBounds 3 true) = []) (r10 : Region.ready .any ops (((((upto 4 0).setIfInBounds 0 true).setIfInBounds 2 true).setIfInBounds 1 true).setIfInBounds 3 true) = []) (r11 : Region.ready .any ops (((((upto 4 0).setIfInBounds 1 true).setIfInBounds 0 true).setIfInBounds 2 true).setIfInBounds 3 true) = [])
    (g : Stp P ops Q o0 a w (fun a w => Stp P ops Q o1 a w (fun a w => Stp P ops Q o2 a w (fun a w => Stp P ops Q o3 a w φ)) ∧ Stp P ops Q o2 a w (fun a w => Stp P ops Q o1 a w (fun a w => Stp P ops Q o3 a w φ))))
    (g' : Stp P ops Q o1 a w (fun a w => Stp P ops Q o0 a w (fun a w => Stp P ops Q o2 a w (fun a w => Stp P ops Q o3 a w φ))))
    (hQ : ∀ a w, φ a w → Q .normal a w) : Run P ops Q 0 a w := by
  have one : ∀ (k i : Nat) (listed : Array Bool) (o : Oper) (a : Act) (w : World), ops[i]? = some o → Region.ready .any ops listed = [i] → Stp P ops Q o a w (wpAny P .any ops Q k (listed.setIfInBounds i true)) → wpAny P .any ops Q (k + 1) listed a w := fun k i listed o a w ho hr h => by
    refine ⟨fun h0 => absurd (hr ▸ h0) (by simp), fun j hj => ?_⟩
    rw [hr] at hj
    obtain rfl : j = i := by simpa using hj
    unfold wpOp; rw [ho]; exact h
  have two : ∀ (k i j : Nat) (listed : Array Bool) (o p : Oper) (a : Act) (w : World), ops[i]? = some o → ops[j]? = some p → Region.ready .any ops listed = [i, j] → Stp P ops Q o a w (wpAny P .any ops Q k (listed.setIfInBounds i true)) → Stp P ops Q p a w (wpAny P .any ops Q k (listed.setIfInBounds j true)) → wpAny P .any ops Q (k + 1) listed a w := fun k i j listed o p a w ho hp hr h h' => by
    refine ⟨fun h0 => absurd (hr ▸ h0) (by simp), fun q hq => ?_⟩
    rw [hr] at hq
    rcases (by simpa using hq : q = i ∨ q = j) with rfl | rfl
    · unfold wpOp; rw [ho]; exact h
    · unfold wpOp; rw [hp]; exact h'
  have fin : ∀ (listed : Array Bool), Region.ready .any ops listed = [] → ∀ a w, φ a w → wpAny P .any ops Q 0 listed a w := fun listed hr a w h => ⟨hr, hQ a w h⟩
  unfold Run
  rw [hsz]
  refine two 3 0 1 _ o0 o1 a w h0 h1 r0 (stp_mono (fun a w hab => ?_) g) (stp_mono (fun a w ha => ?_) g')
  · obtain ⟨ha, hb⟩ := hab
    refine two 2 1 2 _ o1 o2 a w h1 h2 r1 (stp_mono (fun a w h => ?_) ha) (stp_mono (fun a w h => ?_) hb)
    · exact one 1 2 _ o2 a w h2 r3 (stp_mono (fun a w h => one 0 3 _ o3 a w h3 r6 (stp_mono (fin _ r9) h)) h)
    · exact one 1 1 _ o1 a w h1 r4 (stp_mono (fun a w h => one 0 3 _ o3 a w h3 r7 (stp_mono (fin _ r10) h)) h)
  · exact one 2 0 _ o0 a w h0 r2 (stp_mono (fun a w h => one 1 2 _ o2 a w h2 r5 (stp_mono (fun a w h => one 0 3 _ o3 a w h3 r8 (stp_mono (fin _ r11) h)) h)) ha)
end
section
variable {P : Program} {N : Nat} {a : Act} {w w0 : World} {m : List (Nat × Value)} {H : List Ent} {o : Oper} {ops : Array Oper} {K : Act → World → Prop} {Q : Exit → Act → World → Prop} {x y : Operand} {t e : TypeId}
/-- copy into a whole row of the call's own. -/
theorem stp_copyB {b n k d : Nat} {nw : Bool} {l ml : List UInt8} {v : Value} (hF : Fr N a m) (hw : Region.wanted o (yielded ops a.tmps) = true) (hd : o.dst = some d) (hN : Nat.blt d N = true)
    (ho : o.op = .call { callee := .builtin .copy, args := #[x, y], argTypes := #[t, t] }) (ht : P.underlying t = some (.slice e)) (hz : (P.info? e).map (·.size) = some 1)
    (hx : a.eval x = .slice (some ⟨b, 0, none⟩) n n) (hy : a.eval y = v) (hS : St w0 w H) (hk : H[k]? = some ⟨nw, some b, blkB e l⟩) (hl : l.length = n) (hr : Rd w v (ml.map vB)) (hp : 0 < ml.length) (hm : ml.length ≤ n)
    (h : ∀ a' w', Fr N a' ((d, vI ml.length) :: m) → St w0 w' (H.set k ⟨nw, some b, blkB e (ml ++ l.drop ml.length)⟩) → K a' w') : Stp P ops Q o a w K := by
  obtain ⟨A2, c2, rfl, _, _, hc2⟩ := hr.isB
  obtain ⟨b2, o2, rfl, hd2⟩ := hc2 hp
  have hb := hS.has _ (List.mem_of_getElem? hk) b rfl
  have hf := run_firstCells_some (P := P) w 1 ml.length ⟨b2, o2, none⟩ ml.length c2 (ml.map vB) (by simp) (fun j u hu => by
    rw [List.getElem?_map] at hu
    obtain ⟨q, hq, rfl⟩ := Option.map_eq_some_iff.1 hu
    have h1 := (List.getElem?_eq_some_iff.1 hq).1
    rw [add_lit, hd2 j h1, List.getD_eq_getElem?_getD, hq]; rfl)
  have hst := run_storeCells_at P b 0 e (ml.map vB) 0 (l.map vB).toArray w hb (by simp; omega) (one_B ml)
  have hrun : (Builtin.copy_ #[t, t] o.type #[.slice (some ⟨b, 0, none⟩) n n, .slice (some ⟨b2, o2, none⟩) ml.length c2]).run P w = .ok (vI ml.length) (w.setRow b ((ml ++ l.drop ml.length).map vB).toArray) := by
    have hmin : Nat.min ml.length n = ml.length := Nat.min_eq_left hm
    have e1 : (((l.map vB).toArray.toList.take (0 + 0) ++ ml.map vB ++ (l.map vB).toArray.toList.drop (0 + 0 + (ml.map vB).length)).toArray) = ((ml ++ l.drop ml.length).map vB).toArray := by simp
    rw [e1] at hst
    simp [Builtin.copy_, run_underlying ht, Fw.run_sizeOf hz, Builtin.lenOf, hmin, hf, hst, goInt, vI]
  refine stp_val hF hw hd hN (v := vI ml.length) (w' := w.setRow b ((ml ++ l.drop ml.length).map vB).toArray) ?_ fun a' hF' => h a' _ hF' (hS.setRow hk)
  unfold execOp
  rw [ho]
  simp [resolve, invoke, builtin, hx, hy, hrun]
/-- A slice of two values, built among floaters. -/
theorem sx_build2 {R : Value → World → Prop} {q0 q1 : Operand} {v0 v1 z : Value} {by_ : Nat} (hw : Region.wanted o (yielded ops a.tmps) = true) (ho : o.op = .buildSlice t 2 #[(0, q0), (1, q1)]) (ht : P.underlying t = some (.slice e)) (hty : Ty P e z 1 by_) (hz : z.cells = #[z]) (hv0 : v0.cells = #[v0]) (hv1 : v1.cells = #[v1])
    (h0 : a.eval q0 = v0) (h1 : a.eval q1 = v1) (hr : R (.slice (some ⟨w.heap.size, 0, none⟩) 2 2) (w.alloc (.cells [v0, v1].toArray e))) : SX P ops o a w R := by
  obtain ⟨i, g1, g2, g3, g4⟩ := hty.get
  refine ⟨hw, .inl ⟨_, w.alloc (.cells [v0, v1].toArray e), ?_, Ext.alloc _ _, hr⟩⟩
  have := run_buildSlice (P := P) w t e 2 #[(0, v0), (1, v1)] [v0, v1].toArray i z ht g1 g2 (by rw [g3]; decide) (by rw [g3]; decide) (by
    rw [g3, show (Array.range (2 * 1)).map (fun j => z.cells[j % z.cells.size]!) = #[z, z] from by rw [show Array.range (2 * 1) = #[0, 1] from by decide]; simp [hz]]
    refine (fill_cons (place := fun i => some (i * 1, 1)) (v := v0) (i := 0) (rest := [(1, v1)]) (zs := [z, z]) (vs := [v0]) (off := 0) rfl (by rw [hv0]) (by simp)).trans ?_
    refine (fill_cons (place := fun i => some (i * 1, 1)) (v := v1) (i := 1) (rest := []) (vs := [v1]) (off := 1) rfl (by rw [hv1]) (by simp [splice])).trans ?_
    rw [fill_nil]; rfl)
  simp [execOp, ho, h0, h1]
  show ((Instr.buildSlice t 2 #[(0, v0), (1, v1)]).run P w).andThen _ = _
  rw [this]; rfl
end
end Go.Fw
namespace Go.Fw
open Go Go.RowKit
section
variable {P : Program} {a : Act} {o : Oper} {w : World} {x y : Operand} {t u : TypeId}
theorem gv_nmin {m n : Nat} (ho : o.op = .call { callee := .builtin .min, args := #[x, y], argTypes := #[t, u] }) (hx : a.eval x = vI m) (hy : a.eval y = vI n) : Gv P o a w (vI (min m n)) := by
  unfold Gv execOp; rw [ho]
  have : (if n < m then (n : Int) else (m : Int)) = ((min m n : Nat) : Int) := by split <;> omega
  simp [resolve, invoke, builtin, hx, hy, vI, Builtin.min_, Builtin.min2, this]
end
/-- The list of known blocks, in another order. -/
theorem once_perm {H H' : List Ent} (hp : H.Perm H') : (H.filterMap (·.ob)).Nodup → (H'.filterMap (·.ob)).Nodup := fun h => (hp.filterMap _).nodup_iff.1 h
theorem once_nodup : ∀ {H : List Ent}, (∀ (i j : Nat) (ei ej : Ent) (b : Nat), H[i]? = some ei → H[j]? = some ej → ei.ob = some b → ej.ob = some b → i = j) → (H.filterMap (·.ob)).Nodup
  | [], _ => List.nodup_nil
  | e :: H, h => by
    have ih := once_nodup (H := H) fun i j ei ej b hi hj h1 h2 => by
      have := h (i + 1) (j + 1) ei ej b (by simpa using hi) (by simpa using hj) h1 h2
      omega
    cases he : e.ob with
    | none => rw [List.filterMap_cons_none he]; exact ih
    | some b =>
      rw [List.filterMap_cons_some he, List.nodup_cons]
      refine ⟨fun hm => ?_, ih⟩
      obtain ⟨d, hd, hdb⟩ := List.mem_filterMap.1 hm
      obtain ⟨j, hj⟩ := List.getElem?_of_mem hd
      have := h 0 (j + 1) e d b rfl (by simpa using hj) he hdb
      omega
theorem nodup_once : ∀ {H : List Ent}, (H.filterMap (·.ob)).Nodup → ∀ (i j : Nat) (ei ej : Ent) (b : Nat), H[i]? = some ei → H[j]? = some ej → ei.ob = some b → ej.ob = some b → i = j
  | [], _, i, _, _, _, _, hi, _, _, _ => by simp at hi
  | e :: H, h, i, j, ei, ej, b, hi, hj, h1, h2 => by
    have ht : (H.filterMap (·.ob)).Nodup := by
      cases he : e.ob with
      | none => rwa [List.filterMap_cons_none he] at h
      | some c => rw [List.filterMap_cons_some he, List.nodup_cons] at h; exact h.2
    have hne : ∀ (k : Nat) (d : Ent), H[k]? = some d → d.ob = some b → e.ob = some b → False := fun k d hk hd he => by
      rw [List.filterMap_cons_some he, List.nodup_cons] at h
      exact h.1 (List.mem_filterMap.2 ⟨d, List.mem_of_getElem? hk, hd⟩)
    match i, j with
    | 0, 0 => rfl
    | 0, j + 1 =>
      simp only [List.getElem?_cons_zero, Option.some.injEq, List.getElem?_cons_succ] at hi hj
      subst hi
      exact (hne j ej hj h2 h1).elim
    | i + 1, 0 =>
      simp only [List.getElem?_cons_zero, Option.some.injEq, List.getElem?_cons_succ] at hi hj
      subst hj
      exact (hne i ei hi h1 h2).elim
    | i + 1, j + 1 =>
      simp only [List.getElem?_cons_succ] at hi hj
      rw [nodup_once ht i j ei ej b hi hj h1 h2]
theorem St.perm {w0 w : World} {H H' : List Ent} (h : St w0 w H) (hp : H.Perm H') : St w0 w H' :=
  ⟨h.os, h.tape, h.output, h.size, fun b hb hn => h.old b hb fun e he => hn e (hp.mem_iff.1 he), fun e he => h.has e (hp.mem_iff.2 he), fun e he => h.new e (hp.mem_iff.2 he), nodup_once (once_perm hp (once_nodup h.once))⟩
/-- What is not spoken of any more. -/
theorem St.fewer {w0 w : World} {H H' : List Ent} (h : St w0 w (H ++ H')) (hn : ∀ e ∈ H, e.nw = true) : St w0 w H' := by
  induction H with
  | nil => exact h
  | cons e H ih => exact ih (St.drop (H := H ++ H') h (hn e List.mem_cons_self)) fun d hd => hn d (List.mem_cons_of_mem _ hd)
end Go.Fw
