/- What is proved: ints that are bytes; operations under a guard whose test is not known. -/
import Derived.Test.YtbggihomiadjjaaGreatDoorFwSep
set_option linter.unusedVariables false
set_option linter.unusedSimpArgs false
namespace Go.Fw
open Go Go.RowKit

section guarded
variable {P : Program} {N : Nat} {a : Act} {w w0 : World} {m : List (Nat × Value)} {o : Oper} {ops : Array Oper} {K : Act → World → Prop} {Q : Exit → Act → World → Prop}
theorem stp_gvG {p : Prop} [Decidable p] (hF : Fr N a m) {j t : Nat} (hg : o.guard = some (j, true)) (hj : (ops[j]?).bind (·.dst) = some t) (hl : look t m = some (.bool (decide p))) {d : Nat} {v : Value} (hd : o.dst = some d) (hN : Nat.blt d N = true)
    (hv : p → Gv P o a w v) (h : ∀ a', Fr N a' ((d, if p then v else undef) :: m) → K a' w) : Stp P ops Q o a w K := by
  by_cases hp : p
  · rw [decide_eq_true hp] at hl
    exact stp_gv hF (wanted_of hF hg hj hl) hd hN (hv hp) (by simpa [hp] using h)
  · rw [decide_eq_false hp] at hl
    exact stp_skip hF (unwanted_of hF hg hj hl rfl) hd hN (by simpa [hp] using h)
theorem stp_gvG' {p : Prop} [Decidable p] (hF : Fr N a m) {j t : Nat} (hg : o.guard = some (j, false)) (hj : (ops[j]?).bind (·.dst) = some t) (hl : look t m = some (.bool (decide p))) {d : Nat} {v : Value} (hd : o.dst = some d) (hN : Nat.blt d N = true)
    (hv : ¬ p → Gv P o a w v) (h : ∀ a', Fr N a' ((d, if p then undef else v) :: m) → K a' w) : Stp P ops Q o a w K := by
  by_cases hp : p
  · rw [decide_eq_true hp] at hl
    exact stp_skip hF (unwanted_of hF hg hj hl rfl) hd hN (by simpa [hp] using h)
  · rw [decide_eq_false hp] at hl
    exact stp_gv hF (wanted_of hF hg hj hl) hd hN (hv hp) (by simpa [hp] using h)
theorem dw_gvG {p : Prop} [Decidable p] {fl : List Nat} {KK : Act → Prop} {i : Nat} {rest : List Oper} (hF : Fr N a m) (hfl : fl.contains i = false) {j t : Nat} (hg : o.guard = some (j, true)) (hj : (ops[j]?).bind (·.dst) = some t) (hl : look t m = some (.bool (decide p))) {d : Nat} {v : Value} (hd : o.dst = some d) (hN : Nat.blt d N = true)
    (hv : ∀ w', Ext w w' → p → Gv P o a w' v) (h : ∀ a', Fr N a' ((d, if p then v else undef) :: m) → dwalk P ops w fl KK (i + 1) rest a') : dwalk P ops w fl KK i (o :: rest) a := by
  by_cases hp : p
  · rw [decide_eq_true hp] at hl
    exact dw_gv hF hfl (wanted_of hF hg hj hl) hd hN (fun w' hx => hv w' hx hp) (by simpa [hp] using h)
  · rw [decide_eq_false hp] at hl
    exact dw_skip hF hfl (unwanted_of hF hg hj hl rfl) hd hN (by simpa [hp] using h)
theorem dw_gvG' {p : Prop} [Decidable p] {fl : List Nat} {KK : Act → Prop} {i : Nat} {rest : List Oper} (hF : Fr N a m) (hfl : fl.contains i = false) {j t : Nat} (hg : o.guard = some (j, false)) (hj : (ops[j]?).bind (·.dst) = some t) (hl : look t m = some (.bool (decide p))) {d : Nat} {v : Value} (hd : o.dst = some d) (hN : Nat.blt d N = true)
    (hv : ∀ w', Ext w w' → ¬ p → Gv P o a w' v) (h : ∀ a', Fr N a' ((d, if p then undef else v) :: m) → dwalk P ops w fl KK (i + 1) rest a') : dwalk P ops w fl KK i (o :: rest) a := by
  by_cases hp : p
  · rw [decide_eq_true hp] at hl
    exact dw_skip hF hfl (unwanted_of hF hg hj hl rfl) hd hN (by simpa [hp] using h)
  · rw [decide_eq_false hp] at hl
    exact dw_gv hF hfl (wanted_of hF hg hj hl) hd hN (fun w' hx => hv w' hx hp) (by simpa [hp] using h)
theorem gv_pickAnd {p q : Prop} [Decidable p] [Decidable q] {c x y : Operand} (ho : o.op = .pick c x y) (hc : a.eval c = .bool (decide p)) (hx : a.eval x = if p then .bool (decide q) else undef) (hy : a.eval y = .bool false) : Gv P o a w (.bool (decide (p ∧ q))) := by
  refine gv_pick ho hc ?_
  by_cases hp : p
  · simp [hp, hx]
  · simp [hp, hy]
theorem gv_pickOr {p q : Prop} [Decidable p] [Decidable q] {c x y : Operand} (ho : o.op = .pick c x y) (hc : a.eval c = .bool (decide p)) (hx : a.eval x = .bool true) (hy : a.eval y = if p then undef else .bool (decide q)) : Gv P o a w (.bool (decide (p ∨ q))) := by
  refine gv_pick ho hc ?_
  by_cases hp : p
  · simp [hp, hx]
  · simp [hp, hy]
end guarded

section bytes
variable {P : Program} {N : Nat} {a : Act} {w w0 : World} {m : List (Nat × Value)} {H : List Ent} {o : Oper} {ops : Array Oper} {K : Act → World → Prop} {Q : Exit → Act → World → Prop}
/-- A byte as an int. -/
abbrev vN (x : UInt8) : Value := vI x.toNat
def blkM (t : TypeId) (l : List UInt8) : Obj := blk t (l.map vN)
theorem rep_vN (n : Nat) : (List.replicate n (0 : Nat)).map vI = (List.replicate n (0 : UInt8)).map vN := by simp [vN]
theorem rep_blkM (t : TypeId) (n : Nat) : blk t ((List.replicate n (0 : Nat)).map vI) = blkM t (List.replicate n (0 : UInt8)) := by rw [rep_vN]; rfl
theorem one_M (l : List UInt8) : ∀ u ∈ l.map vN, u.oneCell' = true := one_map (fun _ => rfl) l
theorem St.cellM (hS : St w0 w H) {k : Nat} {nw : Bool} {b : Nat} {t : TypeId} {l : List UInt8} (hk : H[k]? = some ⟨nw, some b, blkM t l⟩) (j : Nat) (hj : j < l.length) : w.cell? ⟨b, j, none⟩ = some (vN (l.getD j 0)) := hS.cell hk (map_at (f := vN) hj 0)
theorem stp_storeM {t : TypeId} {x y : Operand} {b i : Nat} {k : Nat} {nw : Bool} {T : TypeId} {v : UInt8} {l : List UInt8} (j : Nat) (hF : Fr N a m) (hw : Region.wanted o (yielded ops a.tmps) = true) (hd : o.dst = none) (ho : o.op = .store t x y) (hz : (P.info? t).map (·.size) = some 1)
    (hx : a.eval x = .pointer (some ⟨b, i, none⟩)) (hij : i = j) (hy : a.eval y = vN v) (hS : St w0 w H) (hk : H[k]? = some ⟨nw, some b, blkM T l⟩) (hi : j < l.length) (h : ∀ w', St w0 w' (H.set k ⟨nw, some b, blkM T (l.set j v)⟩) → K a w') : Stp P ops Q o a w K :=
  stp_storeAt j hF hw hd ho hz hx hij hy rfl hS hk (by simpa using hi) fun w' h' => h w' (by unfold blkM; rw [List.map_set]; exact h')
theorem gv_x8 {t t' : TypeId} {x y : Operand} {m n : UInt8} (ho : o.op = .binOp .xor t x y t') (hx : a.eval x = vN m) (hy : a.eval y = vN n) : Gv P o a w (vN (m ^^^ n)) := by
  have h1 := m.toNat_lt
  have h2 := n.toNat_lt
  have := gv_n_xor (P := P) (w := w) ho hx hy (by omega) (by omega)
  unfold vN
  rwa [UInt8.toNat_xor]
theorem gv_conv_n_b {s d : TypeId} {x : Operand} {m : UInt8} (ho : o.op = .convert s d x) (hs : P.underlying s = some (.int .i64)) (hd : P.underlying d = some (.int .u8)) (hx : a.eval x = vN m) : Gv P o a w (vB m) := by
  have := gv_conv_i_b (P := P) (w := w) ho hs hd hx
  rwa [UInt8.ofNat_toNat] at this
end bytes
end Go.Fw
