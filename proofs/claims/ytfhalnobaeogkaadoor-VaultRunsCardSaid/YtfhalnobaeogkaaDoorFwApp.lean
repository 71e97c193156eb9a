/- What is proved: append of bytes to a row of the call's own, word for word in lists of bytes; a row made of a string's bytes; append of one byte to such a row; append of no zeros; globals that are read. -/
import Derived.Test.YtfhalnobaeogkaaDoorFwStr
import Derived.Lib.ConvBytes
import Derived.Laws.IdiomCopy
set_option linter.unusedVariables false
set_option linter.unusedSimpArgs false
namespace Go.Fw
open Go Go.RowKit
section
variable {P : Program} {N : Nat} {a : Act} {w w0 : World} {m : List (Nat × Value)} {H : List Ent} {o : Oper} {ops : Array Oper} {K : Act → World → Prop} {Q : Exit → Act → World → Prop} {x y : Operand} {t e : TypeId} {z : Value} {by_ : Nat}
theorem stp_appB {ob : Option Nat} {l ml : List UInt8} {pad : List Value} {v : Value} {d k : Nat} (hF : Fr N a m) (hw : Region.wanted o (yielded ops a.tmps) = true) (hd : o.dst = some d) (hN : Nat.blt d N = true)
    (ho : o.op = .call { callee := .builtin .append, args := #[x, y], argTypes := #[t, t] }) (ht : P.underlying t = some (.slice e)) (hty : Ty P e z 1 1) (hzc : z.cells.size = 1)
    (hx : a.eval x = ownV ob l.length (l.length + pad.length)) (hy : a.eval y = v) (hS : St w0 w H) (hk : H[k]? = some ⟨true, ob, blk e (l.map vB ++ pad)⟩) (hob : ob = none → l = [] ∧ pad = []) (hcap : l.length + pad.length ≤ 9223372036854775807)
    (hr : Rd w v (ml.map vB)) (hn : l.length + ml.length ≤ 140737488355328)
    (h : ∀ ob' pad' a' w', Fr N a' ((d, ownV ob' (l ++ ml).length ((l ++ ml).length + pad'.length)) :: m) → (ob' = none → l ++ ml = [] ∧ pad' = []) → (l ++ ml).length + pad'.length ≤ 9223372036854775807 →
      St w0 w' (H.set k ⟨true, ob', blk e ((l ++ ml).map vB ++ pad')⟩) → K a' w') : Stp P ops Q o a w K := by
  refine stp_append (xs := l.map vB) (ys := ml.map vB) hF hw hd hN ho ht hty hzc (by rw [List.length_map]; exact hx) hy hS hk (fun h => ⟨by rw [(hob h).1]; rfl, (hob h).2⟩) (by rw [List.length_map]; exact hcap) hr (one_B _) (by simp only [List.length_map]; omega) (by simp only [List.length_map]; omega) fun ob' pad' a' w' hF' h2 h3 h4 => ?_
  simp only [List.length_map, ← List.length_append, ← List.map_append, List.map_eq_nil_iff] at hF' h2 h3 h4
  exact h ob' pad' a' w' hF' h2 h3 h4
theorem stp_app1 {ob : Option Nat} {l : List UInt8} {c : UInt8} {pad : List Value} {zb d k : Nat} (hF : Fr N a m) (hw : Region.wanted o (yielded ops a.tmps) = true) (hd : o.dst = some d) (hN : Nat.blt d N = true)
    (ho : o.op = .call { callee := .builtin .append, args := #[x, y], argTypes := #[t, t] }) (ht : P.underlying t = some (.slice e)) (hty : Ty P e z 1 1) (hzc : z.cells.size = 1)
    (hx : a.eval x = ownV ob l.length (l.length + pad.length)) (hy : a.eval y = .slice (some ⟨zb, 0, none⟩) 1 1) (hS : St w0 w (⟨true, some zb, blkB e [c]⟩ :: H)) (hk : H[k]? = some ⟨true, ob, blk e (l.map vB ++ pad)⟩) (hob : ob = none → l = [] ∧ pad = []) (hcap : l.length + pad.length ≤ 9223372036854775807)
    (hn : l.length + 1 ≤ 140737488355328)
    (h : ∀ ob' pad' a' w', Fr N a' ((d, ownV ob' (l ++ [c]).length ((l ++ [c]).length + pad'.length)) :: m) → (ob' = none → l ++ [c] = [] ∧ pad' = []) → (l ++ [c]).length + pad'.length ≤ 9223372036854775807 →
      St w0 w' (H.set k ⟨true, ob', blk e ((l ++ [c]).map vB ++ pad')⟩) → K a' w') : Stp P ops Q o a w K := by
  refine stp_appB (k := k + 1) (ml := [c]) hF hw hd hN ho ht hty hzc hx hy hS hk hob hcap (rd_blkB hS List.mem_cons_self rfl (by omega)) (by simpa using hn) fun ob' pad' a' w' h1 h2 h3 h4 => h ob' pad' a' w' h1 h2 h3 ?_
  rw [List.set_cons_succ] at h4
  exact h4.drop rfl

/-- A block that a conversion of a string laid (f), or any other. -/
def blkX (f : Bool) (t : TypeId) (cs : List Value) : Obj := .cells cs.toArray t (if f then (cs.length, cs.length + 1) else (0, 0))
theorem blkX_false (t : TypeId) (cs : List Value) : blkX false t cs = blk t cs := rfl
theorem St.cellX (hS : St w0 w H) {k i : Nat} {nw f : Bool} {b : Nat} {t : TypeId} {cs : List Value} {v : Value} (hk : H[k]? = some ⟨nw, some b, blkX f t cs⟩) (hv : cs[i]? = some v) : w.cell? ⟨b, i, none⟩ = some v := by
  rw [cell_blk (hS.has _ (List.mem_of_getElem? hk) b rfl)]; exact hv
theorem run_app1X {ty : TypeId} (ht : P.underlying t = some (.slice e)) (hy : Ty P e z 1 1) (hzc : z.cells.size = 1) {b zb k : Nat} {l : List UInt8} {c : UInt8} {pad : List Value} (hS : St w0 w H) (hk : H[k]? = some ⟨true, some b, blkX true e (l.map vB ++ pad)⟩)
    (hcap : l.length + pad.length ≤ 9223372036854775807) (hv : w.cell? ⟨zb, 0, none⟩ = some (vB c)) (hn : l.length + 1 ≤ 140737488355328) :
    ∃ f b' pad' w', (Builtin.append_ #[t, t] ty #[.slice (some ⟨b, 0, none⟩) l.length (l.length + pad.length), .slice (some ⟨zb, 0, none⟩) 1 1]).run P w = .ok (.slice (some ⟨b', 0, none⟩) (l ++ [c]).length ((l ++ [c]).length + pad'.length)) w' ∧
      (l ++ [c]).length + pad'.length ≤ 9223372036854775807 ∧ St w0 w' (H.set k ⟨true, some b', blkX f e ((l ++ [c]).map vB ++ pad')⟩) := by
  obtain ⟨i, hi, h2, h3, h4⟩ := hy.get
  have hnews : ∀ j u, [vB c][j]? = some u → w.cell? ((⟨zb, 0, none⟩ : Addr).add j) = some u := fun j u hu => by
    cases j with
    | zero => rw [add_lit]; simpa using (by simpa using hu ▸ hv)
    | succ j => simp at hu
  have hlen : (l ++ [c]).length = l.length + 1 := by simp
  cases pad with
  | nil =>
    have hr := run_append_grow (P := P) w t ty e i z ht hi h2 ⟨b, 0, none⟩ l.length (l.length + ([] : List Value).length) (l.map vB) (by simp [h3]) (fun j u hu => by rw [add_lit, Nat.zero_add]; exact hS.cellX hk (by simpa using hu)) ⟨zb, 0, none⟩ 1 1 [vB c] (by simp [h3]) hnews (by simp) (by omega) (growslice_fits (by simp) (by rw [h4]; omega))
    have hge := grownCap_ge w (l.length + 1) (l.length + ([] : List Value).length) e
    have hle := grownCap_le_maxLen w (l.length + 1) (l.length + ([] : List Value).length) e (by simp only [maxLen]; omega)
    obtain ⟨Z, hZ⟩ : ∃ Z : Array Value, Builtin.zeroCells z.cells (grownCap w (l.length + 1) (l.length + ([] : List Value).length) e - (l.length + 1)) = Z := ⟨_, rfl⟩
    have hZl : Z.toList.length = grownCap w (l.length + 1) (l.length + ([] : List Value).length) e - (l.length + 1) := by rw [← hZ, Array.length_toList, size_zeroCells, hzc]; omega
    rw [hZ] at hr
    refine ⟨false, w.heap.size, Z.toList, _, (by rw [hlen, hZl, show l.length + 1 + (grownCap w (l.length + 1) (l.length + ([] : List Value).length) e - (l.length + 1)) = grownCap w (l.length + 1) (l.length + ([] : List Value).length) e by omega]; exact hr), by rw [hlen, hZl]; simp only [maxLen] at hle; omega, ?_⟩
    refine hS.swap hk rfl (w' := w.drew.alloc _) ⟨rfl, rfl, rfl, by simp, fun j hj => heap_alloc_old w.drew _ hj⟩ (some w.heap.size) _ fun b' hb' => ?_
    injection hb' with hb'
    subst hb'
    refine ⟨Nat.le_refl _, (heap_alloc_new w.drew _).trans ?_⟩
    simp [blkX]
  | cons p ps =>
    have hb := hS.has _ (List.mem_of_getElem? hk) b rfl
    have hroom : l.length + 1 ≤ l.length + (p :: ps).length := by simp
    have hf := run_firstCells_some (P := P) w i.size 1 ⟨zb, 0, none⟩ 1 1 [vB c] (by simp [h3]) hnews
    have hfz : w.frozen? ⟨b, l.length, none⟩ = false := by
      simp [World.frozen?, hb, blkX]
      omega
    have hst := run_storeCells_cells (P := P) b l.length [vB c] 0 w (fun j hj => by
      simp at hj; subst hj
      rw [show l.length + 0 + 0 = l.length from rfl, hS.cellX hk (v := p) (by simp)]; rfl) (fun j hj => by simp at hj; subst hj; exact hfz) (by intro v hv; simp at hv; subst hv; rfl)
    refine ⟨true, b, ps, w.setCells b (l.length + 0) [vB c], ?_, by rw [hlen]; simp at hcap; omega, ?_⟩
    · rw [hlen, show l.length + 1 + ps.length = l.length + (p :: ps).length by simp only [List.length_cons]; omega]
      simp only [h3, Nat.mul_one] at hf
      simp [Builtin.append_, run_underlying ht, sizeOf, typeInfo, hi, Builtin.lenOf, h3, hroom, hf, Addr.add_lit, hst]
    · have hset : (w.setCells b (l.length + 0) [vB c]) = w.setCell ⟨b, l.length, none⟩ (vB c) := by simp [World.setCells]
      rw [hset]
      refine hS.turn hk rfl rfl rfl (by simp [World.setCell]) ?_ fun j hj hne => ?_
      · have hl : (l.map vB ++ p :: ps).length = ((l ++ [c]).map vB ++ ps).length := by simp
        simp only [World.setCell, Array.getElem?_modify, hb, if_true, Option.map_some, blkX, hl]
        simp
      · have hne' : ¬ b = j := fun e => hne e.symm
        simp [World.setCell, Array.getElem?_modify, hne']
theorem stp_app1X {f : Bool} {b : Nat} {l : List UInt8} {c : UInt8} {pad : List Value} {zb d k : Nat} (hF : Fr N a m) (hw : Region.wanted o (yielded ops a.tmps) = true) (hd : o.dst = some d) (hN : Nat.blt d N = true)
    (ho : o.op = .call { callee := .builtin .append, args := #[x, y], argTypes := #[t, t] }) (ht : P.underlying t = some (.slice e)) (hty : Ty P e z 1 1) (hzc : z.cells.size = 1)
    (hx : a.eval x = .slice (some ⟨b, 0, none⟩) l.length (l.length + pad.length)) (hy : a.eval y = .slice (some ⟨zb, 0, none⟩) 1 1) (hS : St w0 w (⟨true, some zb, blkB e [c]⟩ :: H)) (hk : H[k]? = some ⟨true, some b, blkX f e (l.map vB ++ pad)⟩) (hcap : l.length + pad.length ≤ 9223372036854775807)
    (hn : l.length + 1 ≤ 140737488355328)
    (h : ∀ f' b' pad' a' w', Fr N a' ((d, .slice (some ⟨b', 0, none⟩) (l ++ [c]).length ((l ++ [c]).length + pad'.length)) :: m) → (l ++ [c]).length + pad'.length ≤ 9223372036854775807 →
      St w0 w' (H.set k ⟨true, some b', blkX f' e ((l ++ [c]).map vB ++ pad')⟩) → K a' w') : Stp P ops Q o a w K := by
  cases f with
  | false =>
    refine stp_app1 (ob := some b) hF hw hd hN ho ht hty hzc hx hy hS hk (fun h => by cases h) hcap hn fun ob' pad' a' w' h1 h2 h3 h4 => ?_
    cases ob' with
    | none => have := (h2 rfl).1; simp at this
    | some b' => exact h false b' pad' a' w' h1 h3 h4
  | true =>
    obtain ⟨f', b', pad', w', hrun, h3, h4⟩ := run_app1X (ty := o.type) ht hty hzc (k := k + 1) hS hk hcap (cell_blk (hS.has _ List.mem_cons_self zb rfl)) hn
    refine stp_val hF hw hd hN (run_appendOp ho hx hy hrun) fun a' hF' => h f' b' pad' a' w' hF' h3 ?_
    rw [List.set_cons_succ] at h4
    exact h4.drop rfl
/-- append(x, make([]byte, 0)...). -/
theorem stp_app0 {u : TypeId} {A : Option Addr} {n c d : Nat} (hF : Fr N a m) (hw : Region.wanted o (yielded ops a.tmps) = true) (hd : o.dst = some d) (hN : Nat.blt d N = true)
    (ho : o.op = .call { callee := .builtin .append, args := #[x, y], argTypes := #[t, u] }) (ht : P.underlying t = some (.slice e)) (hu : P.underlying u = some (.int .i64)) (hty : Ty P e z 1 1)
    (hx : a.eval x = .slice A n c) (hy : a.eval y = vI 0) (hc : n ≤ c) (h : ∀ a', Fr N a' ((d, .slice A n c) :: m) → K a' w) : Stp P ops Q o a w K := by
  obtain ⟨i, hi, h2, h3, h4⟩ := hty.get
  have hr : (Builtin.append_ #[t, u] o.type #[.slice A n c, vI 0]).run P w = .ok (.slice A n c) w := by
    cases A <;> simp [Builtin.append_, run_underlying ht, run_underlying hu, sizeOf, typeInfo, hi, vI, asInt, asIntOf, IntKind.wrap_i64, h3, h4, hc, storeCells]
  refine stp_val hF hw hd hN ?_ h
  unfold execOp
  rw [ho]
  simp [resolve, invoke, builtin, hx, hy, hr]
/-- []byte(s). -/
theorem stp_strBytes {s : TypeId} {l : List UInt8} {d : Nat} (hF : Fr N a m) (hw : Region.wanted o (yielded ops a.tmps) = true) (hd : o.dst = some d) (hN : Nat.blt d N = true)
    (ho : o.op = .convert s t x) (hs : P.underlying s = some .string) (ht : P.underlying t = some (.slice e)) (he : P.underlying e = some (.int .u8)) (hx : a.eval x = sV l) (hn : l.length ≤ 9223372036854775807) (hS : St w0 w H)
    (h : ∀ b pad a' w', Fr N a' ((d, .slice (some ⟨b, 0, none⟩) l.length (l.length + pad.length)) :: m) → l.length + pad.length ≤ 9223372036854775807 → St w0 w' (⟨true, some b, blkX true e (l.map vB ++ pad)⟩ :: H) → K a' w') : Stp P ops Q o a w K := by
  have hr := Lib.run_convert_string_bytes (P := P) w s t e ⟨l.toArray⟩ hs ht he
  rw [sV_size] at hr
  have hge := grownCap_ge w l.length 0 e
  have hle := grownCap_le_maxLen w l.length 0 e (by simp only [maxLen]; omega)
  have hcells : Lib.bytesCells w e ⟨l.toArray⟩ = (l.map vB ++ List.replicate (grownCap w l.length 0 e - l.length) (Value.int .u8 0)).toArray := by
    apply Array.ext'
    simp [Lib.bytesCells, sV_size]
    intro b _
    rfl
  have hx' : Ext w (Lib.bytesWorld w e ⟨l.toArray⟩) := ⟨rfl, rfl, rfl, by rw [Lib.bytesWorld_size]; omega, fun j hj => Lib.bytesWorld_at_old w e _ j hj⟩
  refine stp_val hF hw hd hN (v := .slice (some ⟨w.heap.size, 0, none⟩) l.length (grownCap w l.length 0 e)) (w' := Lib.bytesWorld w e ⟨l.toArray⟩) ?_ fun a' hF' => ?_
  · unfold execOp
    rw [ho]
    simp [hx, sV, hr]
  · refine h w.heap.size (List.replicate (grownCap w l.length 0 e - l.length) (Value.int .u8 0)) a' _ (by rw [List.length_replicate, show l.length + (grownCap w l.length 0 e - l.length) = grownCap w l.length 0 e by omega]; exact hF') (by rw [List.length_replicate]; simp only [maxLen] at hle; omega) (hS.float hx' (Nat.le_refl _) ?_)
    rw [Lib.bytesWorld_at_new, hcells]
    simp [blkX]
theorem rdX {f nw : Bool} {b n : Nat} {l : List UInt8} {pad : List Value} (hS : St w0 w H) (he : ⟨nw, some b, blkX f e (l.map vB ++ pad)⟩ ∈ H) (hl : l.length = n) (hc : n + pad.length ≤ 9223372036854775807) : Rd w (.slice (some ⟨b, 0, none⟩) n (n + pad.length)) (l.map vB) := by
  subst hl
  obtain ⟨k, hk⟩ := List.getElem?_of_mem he
  refine ⟨some ⟨b, 0, none⟩, l.length + pad.length, by simp, by simp, hc, fun _ => ⟨b, 0, rfl, fun i u hu => ?_⟩⟩
  rw [Nat.zero_add]
  exact hS.cellX hk (by rw [List.getElem?_append_left (List.getElem?_eq_some_iff.1 hu).1]; exact hu)
/-- A row of the call's own as a slice that is read through the list. -/
theorem own_rd {nw : Bool} {T : List Ent} {ob : Option Nat} {l : List UInt8} {pad : List Value} {n : Nat} (he : ⟨nw, ob, blk t (l.map vB ++ pad)⟩ ∈ T) (hob : ob = none → l = [] ∧ pad = []) (hl : l.length = n) (hc : n + pad.length ≤ 9223372036854775807) :
    SRd w0 T (ownV ob n (n + pad.length)) (l.map vB) := by
  subst hl
  have := SRd.own (w0 := w0) he (fun h => ⟨by rw [(hob h).1]; rfl, (hob h).2⟩) (by simpa using hc)
  rwa [List.length_map] at this
end
end Go.Fw
