/- What is proved: append of zeros ('append(x, make([]byte, n)...)') to a row of the call's own. -/
import Derived.Test.YtfhalnobaeogkaaDoorFwVlt
set_option linter.unusedVariables false
set_option linter.unusedSimpArgs false
namespace Go.Fw
open Go Go.RowKit
section
variable {P : Program} {N : Nat} {a : Act} {w w0 : World} {m : List (Nat × Value)} {H : List Ent} {o : Oper} {ops : Array Oper} {K : Act → World → Prop} {Q : Exit → Act → World → Prop} {x y : Operand} {t e ti us : TypeId}
theorem zeroCells_u8 (n : Nat) : Builtin.zeroCells #[.int .u8 0] n = ((List.replicate n (0 : UInt8)).map vB).toArray := by
  apply Array.ext'
  simp only [Builtin.zeroCells, Array.toList_map, List.size_toArray, List.length_cons, List.length_nil, Nat.mul_one]
  apply List.ext_getElem
  · simp
  · intro i h1 h2
    simp [vB, Nat.mod_one]
theorem run_appendZ {ty : TypeId} (ht : P.underlying t = some (.slice e)) (hti : P.underlying ti = some (.int .i64)) (hu : P.underlying us = some .string) (hy : Ty P e (.int .u8 0) 1 1) (A : Option Addr) (len cap n : Nat) (hn0 : n ≠ 0) (hc : len ≤ cap) (hn : len + n ≤ 140737488355328) (w : World) :
    (Builtin.append_ #[t, ti] ty #[.slice A len cap, vI n]).run P w = (Builtin.append_ #[t, us] ty #[.slice A len cap, sV (List.replicate n 0)]).run P w := by
  obtain ⟨i, hi, h2, h3, h4⟩ := hy.get
  have hw : IntKind.i64.wrap (n : Int) = n := wrap_i64_id (by omega) (by omega)
  have hz := zeroCells_u8 n
  have hml : (List.replicate n (0 : UInt8)).length = n := List.length_replicate
  generalize List.replicate n (0 : UInt8) = ml at hz hml ⊢
  have hsz := sV_size ml
  rw [hml] at hsz
  have htk : List.take n (List.map (fun b : UInt8 => Value.int IntKind.u8 (b.toNat : Int)) ml) = ml.map vB := List.take_of_length_le (by simp [hml])
  have h0 : ¬ ((n : Int) < 0) := by omega
  have h48 : ¬ (281474976710656 < (n : Int)) := by omega
  have hsz' : (ByteArray.mk ml.toArray).size = n := by simpa [sV] using hsz
  have hzc : (Value.int IntKind.u8 0).cells = #[.int .u8 0] := rfl
  by_cases hroom : len + n ≤ cap
  · cases A <;> simp [sV, vI, asInt, asIntOf, hw, h0, h48, Builtin.append_, run_underlying ht, run_underlying hti, run_underlying hu, sizeOf, typeInfo, hi, zeroValue, h2, h3, h4, Builtin.lenOf, hroom, Builtin.firstCells, hsz', hn0, hz, hzc, htk]
  · have hfit := growslice_fits (bytes := 1) (show cap < len + n by omega) (by omega)
    have hn1 : ¬ 281474976710656 < Builtin.nextslicecap (len + n) cap := by omega
    have h63 : ¬ (9223372036854775807 < (len : Int) + (n : Int)) := by omega
    cases A <;> simp [sV, vI, asInt, asIntOf, hw, h0, h48, Builtin.append_, run_underlying ht, run_underlying hti, run_underlying hu, sizeOf, typeInfo, hi, zeroValue, h2, h3, h4, Builtin.lenOf, hroom, Builtin.firstCells, hsz', hn0, hz, hzc, htk, hn1, h63]
theorem stp_appZ {ob : Option Nat} {l : List UInt8} {n : Nat} {pad : List Value} {d k : Nat} (hF : Fr N a m) (hw : Region.wanted o (yielded ops a.tmps) = true) (hd : o.dst = some d) (hN : Nat.blt d N = true)
    (ho : o.op = .call { callee := .builtin .append, args := #[x, y], argTypes := #[t, ti] }) (ht : P.underlying t = some (.slice e)) (hti : P.underlying ti = some (.int .i64)) (hu : P.underlying us = some .string) (hty : Ty P e (.int .u8 0) 1 1)
    (hx : a.eval x = ownV ob l.length (l.length + pad.length)) (hy : a.eval y = vI n) (hn0 : n ≠ 0) (hS : St w0 w H) (hk : H[k]? = some ⟨true, ob, blk e (l.map vB ++ pad)⟩) (hob : ob = none → l = [] ∧ pad = []) (hcap : l.length + pad.length ≤ 9223372036854775807)
    (hn : l.length + n ≤ 140737488355328)
    (h : ∀ ob' pad' a' w', Fr N a' ((d, ownV ob' (l ++ List.replicate n 0).length ((l ++ List.replicate n 0).length + pad'.length)) :: m) → (ob' = none → l ++ List.replicate n 0 = [] ∧ pad' = []) → (l ++ List.replicate n 0).length + pad'.length ≤ 9223372036854775807 →
      St w0 w' (H.set k ⟨true, ob', blk e ((l ++ List.replicate n 0).map vB ++ pad')⟩) → K a' w') : Stp P ops Q o a w K := by
  obtain ⟨ob', pad', w', hrun, h2, h3, h4⟩ := run_appendS (ty := o.type) (ml := List.replicate n 0) ht hu hty rfl hS hk hob hcap (by simpa using hn)
  refine stp_val hF hw hd hN ?_ fun a' hF' => h ob' pad' a' w' hF' h2 h3 h4
  have hr : (Builtin.append_ #[t, ti] o.type #[ownV ob l.length (l.length + pad.length), vI n]).run P w = (Builtin.append_ #[t, us] o.type #[ownV ob l.length (l.length + pad.length), sV (List.replicate n 0)]).run P w := by
    cases ob with
    | none => obtain ⟨rfl, rfl⟩ := hob rfl; exact run_appendZ ht hti hu hty none _ _ n hn0 (Nat.le_refl 0) hn w
    | some b => exact run_appendZ ht hti hu hty _ _ _ n hn0 (by omega) hn w
  unfold execOp
  rw [ho]
  simp [resolve, invoke, builtin, hx, hy, hr, hrun]
variable {z : Value}
/-- append of one byte to a row that a conversion laid, without room, or to any row of the call's own. -/
theorem run_app1F {ty : TypeId} (ht : P.underlying t = some (.slice e)) (hy : Ty P e z 1 1) (hzc : z.cells.size = 1) {b zb k : Nat} {l : List UInt8} {c : UInt8} (hS : St w0 w H) (hk : H[k]? = some ⟨true, some b, blkX true e (l.map vB)⟩)
    (hv : w.cell? ⟨zb, 0, none⟩ = some (vB c)) (hn : l.length + 1 ≤ 140737488355328) :
    ∃ b' pad' w', (Builtin.append_ #[t, t] ty #[.slice (some ⟨b, 0, none⟩) l.length l.length, .slice (some ⟨zb, 0, none⟩) 1 1]).run P w = .ok (.slice (some ⟨b', 0, none⟩) (l ++ [c]).length ((l ++ [c]).length + pad'.length)) w' ∧
      (l ++ [c]).length + pad'.length ≤ 9223372036854775807 ∧ St w0 w' (H.set k ⟨true, some b', blk e ((l ++ [c]).map vB ++ pad')⟩) := by
  obtain ⟨i, hi, h2, h3, h4⟩ := hy.get
  have hnews : ∀ j u, [vB c][j]? = some u → w.cell? ((⟨zb, 0, none⟩ : Addr).add j) = some u := fun j u hu => by
    cases j with
    | zero => rw [add_lit]; simpa using (by simpa using hu ▸ hv)
    | succ j => simp at hu
  have hlen : (l ++ [c]).length = l.length + 1 := by simp
  have hr := run_append_grow (P := P) w t ty e i z ht hi h2 ⟨b, 0, none⟩ l.length l.length (l.map vB) (by simp [h3]) (fun j u hu => by rw [add_lit, Nat.zero_add]; exact hS.cellX hk hu) ⟨zb, 0, none⟩ 1 1 [vB c] (by simp [h3]) hnews (by simp) (by omega) (growslice_fits (by simp) (by rw [h4]; omega))
  have hge := grownCap_ge w (l.length + 1) l.length e
  have hle := grownCap_le_maxLen w (l.length + 1) l.length e (by simp only [maxLen]; omega)
  obtain ⟨Z, hZ⟩ : ∃ Z : Array Value, Builtin.zeroCells z.cells (grownCap w (l.length + 1) l.length e - (l.length + 1)) = Z := ⟨_, rfl⟩
  have hZl : Z.toList.length = grownCap w (l.length + 1) l.length e - (l.length + 1) := by rw [← hZ, Array.length_toList, size_zeroCells, hzc]; omega
  rw [hZ] at hr
  refine ⟨w.heap.size, Z.toList, _, (by rw [hlen, hZl, show l.length + 1 + (grownCap w (l.length + 1) l.length e - (l.length + 1)) = grownCap w (l.length + 1) l.length e by omega]; exact hr), by rw [hlen, hZl]; simp only [maxLen] at hle; omega, ?_⟩
  refine hS.swap hk rfl (w' := w.drew.alloc _) ⟨rfl, rfl, rfl, by simp, fun j hj => heap_alloc_old w.drew _ hj⟩ (some w.heap.size) _ fun b' hb' => ?_
  injection hb' with hb'
  subst hb'
  refine ⟨Nat.le_refl _, (heap_alloc_new w.drew _).trans ?_⟩
  simp [blk]
theorem stp_app1Y {f : Bool} {b : Nat} {l : List UInt8} {c : UInt8} {pad : List Value} {zb d k : Nat} (hf : f = true → pad = []) (hF : Fr N a m) (hw : Region.wanted o (yielded ops a.tmps) = true) (hd : o.dst = some d) (hN : Nat.blt d N = true)
    (ho : o.op = .call { callee := .builtin .append, args := #[x, y], argTypes := #[t, t] }) (ht : P.underlying t = some (.slice e)) (hty : Ty P e z 1 1) (hzc : z.cells.size = 1)
    (hx : a.eval x = .slice (some ⟨b, 0, none⟩) l.length (l.length + pad.length)) (hy : a.eval y = .slice (some ⟨zb, 0, none⟩) 1 1) (hS : St w0 w (⟨true, some zb, blkB e [c]⟩ :: H)) (hk : H[k]? = some ⟨true, some b, blkX f e (l.map vB ++ pad)⟩) (hcap : l.length + pad.length ≤ 9223372036854775807)
    (hn : l.length + 1 ≤ 140737488355328)
    (h : ∀ b' pad' a' w', Fr N a' ((d, .slice (some ⟨b', 0, none⟩) (l ++ [c]).length ((l ++ [c]).length + pad'.length)) :: m) → (l ++ [c]).length + pad'.length ≤ 9223372036854775807 →
      St w0 w' (H.set k ⟨true, some b', blkX false e ((l ++ [c]).map vB ++ pad')⟩) → K a' w') : Stp P ops Q o a w K := by
  cases f with
  | false =>
    refine stp_app1 (ob := some b) hF hw hd hN ho ht hty hzc hx hy hS hk (fun h => by cases h) hcap hn fun ob' pad' a' w' h1 h2 h3 h4 => ?_
    cases ob' with
    | none => have := (h2 rfl).1; simp at this
    | some b' => exact h b' pad' a' w' h1 h3 h4
  | true =>
    obtain rfl := hf rfl
    obtain ⟨b', pad', w', hrun, h3, h4⟩ := run_app1F (ty := o.type) ht hty hzc (k := k + 1) hS (by simpa using hk) (cell_blk (hS.has _ List.mem_cons_self zb rfl)) hn
    refine stp_val hF hw hd hN (run_appendOp ho (by simpa using hx) hy hrun) fun a' hF' => h b' pad' a' w' hF' h3 ?_
    rw [List.set_cons_succ] at h4
    exact h4.drop rfl
end
end Go.Fw
