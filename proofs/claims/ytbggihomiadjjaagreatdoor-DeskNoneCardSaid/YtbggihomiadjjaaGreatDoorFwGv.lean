/- What is proved: what each kind of operation yields ('Gv'), and the steps of a walk over a list of operations ('sq_..': in the order of the text; 'dw_..': in a region that draws its order). Over any program. -/
import Derived.Test.YtbggihomiadjjaaGreatDoorFwOps
set_option linter.unusedVariables false
set_option linter.unusedSimpArgs false
namespace Go.Fw
open Go Go.RowKit

/-! ### Bytes and words -/
def vB (x : UInt8) : Value := .int .u8 (x.toNat : Int)
def vW (x : UInt32) : Value := .int .u32 (x.toNat : Int)
def vD (x : UInt64) : Value := .int .u64 (x.toNat : Int)
/-- An int that isn't below 0. -/
def vI (n : Nat) : Value := .int .i64 (n : Int)

section
variable {P : Program} {a : Act} {o : Oper} {w : World}

/-- The operation yields v and leaves the world. -/
def Gv (P : Program) (o : Oper) (a : Act) (w : World) (v : Value) : Prop := (execOp a.eval o).run P w = .ok (.value v) w

theorem run_sizeOf {e : TypeId} {n : Nat} (h : (P.info? e).map (·.size) = some n) (w : World) : (sizeOf e).run P w = .ok n w := by
  cases hi : P.info? e with
  | none => rw [hi] at h; cases h
  | some i => rw [hi] at h; injection h with h; simp [sizeOf, typeInfo, hi, h]
theorem run_zeroValue {e : TypeId} {z : Value} (h : (P.info? e).map (·.zero) = some (some z)) (w : World) : (zeroValue e).run P w = .ok z w := by
  cases hi : P.info? e with
  | none => rw [hi] at h; cases h
  | some i => rw [hi] at h; injection h with h; simp [zeroValue, typeInfo, hi, h]
theorem run_und {t : TypeId} {d : TypeDesc} (h : P.underlying t = some d) (w : World) : (underlying t).run P w = .ok d w := by
  simp [underlying, h]
theorem add_lit (b o n : Nat) : (⟨b, o, none⟩ : Addr).add n = ⟨b, o + n, none⟩ := by
  unfold Addr.add; split <;> simp_all

theorem gv_move {x : Operand} {v : Value} (ho : o.op = .move x) (hx : a.eval x = v) : Gv P o a w v := by
  unfold Gv execOp; rw [ho]; simp [hx]
theorem gv_assign {x : Operand} {v : Value} (ho : o.op = .assign x) (hx : a.eval x = v) : Gv P o a w v := by
  unfold Gv execOp; rw [ho]; simp [hx]
theorem gv_pick {c x y : Operand} {b : Bool} {v : Value} (ho : o.op = .pick c x y) (hc : a.eval c = .bool b) (hv : (if b then a.eval x else a.eval y) = v) : Gv P o a w v := by
  unfold Gv execOp; rw [ho]; simp [hc, asBool, hv]
theorem gv_not {t : TypeId} {x : Operand} {b : Bool} (ho : o.op = .unOp .not t x) (hx : a.eval x = .bool b) : Gv P o a w (.bool !b) := by
  unfold Gv execOp; rw [ho]; simp [hx, Op.unary]
theorem gv_nilCheck {x : Operand} {ad : Addr} (ho : o.op = .nilCheck x) (hx : a.eval x = .pointer (some ad)) : Gv P o a w (.pointer (some ad)) := by
  unfold Gv execOp; rw [ho]; simp [hx]
theorem gv_extract {x : Operand} {vs : Array Value} {i : Nat} {v : Value} (ho : o.op = .extract x i) (hx : a.eval x = .tuple vs) (hi : vs[i]? = some v) : Gv P o a w v := by
  unfold Gv execOp; rw [ho]; simp [hx, Instr.extract, hi]

theorem eqGuard_int (op : BinOp) (t : TypeId) (x y : Operand) (k k' : IntKind) (p q : Int) (w : World) : (eqGuard op t x y (.int k p) (.int k' q)).run P w = .ok () w := by
  unfold eqGuard; split <;> rfl

section arith
variable {op : BinOp} {t t' : TypeId} {x y : Operand} {k : IntKind} {p q : Int}
theorem gv_int (ho : o.op = .binOp op t x y t') (hx : a.eval x = .int k p) (hy : a.eval y = .int k q) {v : Value} (hr : (binOp op t (.int k p) (.int k q)).run P w = .ok v w) : Gv P o a w v := by
  unfold Gv execOp; rw [ho]; simp [hx, hy, eqGuard_int, hr]
theorem wrap_i64_id {n : Int} (h1 : -9223372036854775808 ≤ n) (h2 : n ≤ 9223372036854775807) : IntKind.i64.wrap n = n := by
  rw [IntKind.wrap_i64]; omega
theorem gv_add (ho : o.op = .binOp .add t x y t') (hx : a.eval x = .int .i64 p) (hy : a.eval y = .int .i64 q) (h1 : -9223372036854775808 ≤ p + q) (h2 : p + q ≤ 9223372036854775807) : Gv P o a w (.int .i64 (p + q)) :=
  gv_int ho hx hy (by simp [binOp, Op.intArith, wrap_i64_id h1 h2])
theorem gv_sub (ho : o.op = .binOp .sub t x y t') (hx : a.eval x = .int .i64 p) (hy : a.eval y = .int .i64 q) (h1 : -9223372036854775808 ≤ p - q) (h2 : p - q ≤ 9223372036854775807) : Gv P o a w (.int .i64 (p - q)) :=
  gv_int ho hx hy (by simp [binOp, Op.intArith, wrap_i64_id h1 h2])
theorem gv_mul (ho : o.op = .binOp .mul t x y t') (hx : a.eval x = .int .i64 p) (hy : a.eval y = .int .i64 q) (h1 : -9223372036854775808 ≤ p * q) (h2 : p * q ≤ 9223372036854775807) : Gv P o a w (.int .i64 (p * q)) :=
  gv_int ho hx hy (by simp [binOp, Op.intArith, wrap_i64_id h1 h2])
/-- Ints that aren't below 0. -/
theorem gv_nadd {m n : Nat} (ho : o.op = .binOp .add t x y t') (hx : a.eval x = vI m) (hy : a.eval y = vI n) (h : m + n ≤ 9223372036854775807) : Gv P o a w (vI (m + n)) := by
  have := gv_add (P := P) (w := w) ho hx hy (by omega) (by omega)
  rwa [← Int.natCast_add] at this
theorem gv_nsub {m n : Nat} (ho : o.op = .binOp .sub t x y t') (hx : a.eval x = vI m) (hy : a.eval y = vI n) (h : n ≤ m) (h2 : m ≤ 9223372036854775807) : Gv P o a w (vI (m - n)) := by
  have := gv_sub (P := P) (w := w) ho hx hy (by omega) (by omega)
  rwa [← Int.ofNat_sub h] at this
theorem gv_nmul {m n : Nat} (ho : o.op = .binOp .mul t x y t') (hx : a.eval x = vI m) (hy : a.eval y = vI n) (h : m * n ≤ 9223372036854775807) : Gv P o a w (vI (m * n)) := by
  have hc : ((m : Int) * (n : Int)) = ((m * n : Nat) : Int) := (Int.natCast_mul m n).symm
  have := gv_mul (P := P) (w := w) ho hx hy (by rw [hc]; omega) (by rw [hc]; omega)
  rwa [hc] at this
theorem gv_nquo {m n : Nat} (ho : o.op = .binOp .quo t x y t') (hx : a.eval x = vI m) (hy : a.eval y = vI n) (h0 : 0 < n) (h : m ≤ 9223372036854775807) : Gv P o a w (vI (m / n)) := by
  have hd : (m : Int).tdiv (n : Int) = ((m / n : Nat) : Int) := by
    rw [Int.tdiv_eq_ediv_of_nonneg (by omega)]; rfl
  have hl : m / n ≤ m := Nat.div_le_self m n
  refine gv_int ho hx hy ?_
  have hn : ¬ ((n : Int) = 0) := by omega
  simp only [binOp, Op.intDiv, hn, if_false, ne_eq, not_true_eq_false, hd]
  rw [wrap_i64_id (by generalize m / n = r at *; omega) (by generalize m / n = r at *; omega)]
  rfl
theorem gv_nrem {m n : Nat} (ho : o.op = .binOp .rem t x y t') (hx : a.eval x = vI m) (hy : a.eval y = vI n) (h0 : 0 < n) : Gv P o a w (vI (m % n)) := by
  have hd : (m : Int).tmod (n : Int) = ((m % n : Nat) : Int) := by
    rw [Int.tmod_eq_emod_of_nonneg (by omega)]; rfl
  refine gv_int ho hx hy ?_
  have hn : ¬ ((n : Int) = 0) := by omega
  simp only [binOp, Op.intDiv, hn, if_false, ne_eq, not_true_eq_false, hd]
  rfl
theorem gv_quo (ho : o.op = .binOp .quo t x y t') (hx : a.eval x = .int .i64 p) (hy : a.eval y = .int .i64 q) (h0 : q ≠ 0) (h1 : -9223372036854775808 ≤ p.tdiv q) (h2 : p.tdiv q ≤ 9223372036854775807) : Gv P o a w (.int .i64 (p.tdiv q)) := by
  refine gv_int ho hx hy ?_
  simp only [binOp, Op.intDiv, h0, if_false, ne_eq, not_true_eq_false]
  rw [wrap_i64_id h1 h2]; rfl
theorem gv_rem (ho : o.op = .binOp .rem t x y t') (hx : a.eval x = .int .i64 p) (hy : a.eval y = .int .i64 q) (h0 : q ≠ 0) : Gv P o a w (.int .i64 (p.tmod q)) := by
  refine gv_int ho hx hy ?_
  simp only [binOp, Op.intDiv, h0, if_false, ne_eq, not_true_eq_false]
  rfl
theorem beq_dec (p q : Int) : (p == q) = decide (p = q) := rfl
theorem gv_lss (ho : o.op = .binOp .lss t x y t') (hx : a.eval x = .int k p) (hy : a.eval y = .int k q) : Gv P o a w (.bool (decide (p < q))) := gv_int ho hx hy (by simp [binOp, Op.intCmp])
theorem gv_leq (ho : o.op = .binOp .leq t x y t') (hx : a.eval x = .int k p) (hy : a.eval y = .int k q) : Gv P o a w (.bool (decide (p ≤ q))) := gv_int ho hx hy (by simp [binOp, Op.intCmp])
theorem gv_gtr (ho : o.op = .binOp .gtr t x y t') (hx : a.eval x = .int k p) (hy : a.eval y = .int k q) : Gv P o a w (.bool (decide (q < p))) := gv_int ho hx hy (by simp [binOp, Op.intCmp])
theorem gv_geq (ho : o.op = .binOp .geq t x y t') (hx : a.eval x = .int k p) (hy : a.eval y = .int k q) : Gv P o a w (.bool (decide (q ≤ p))) := gv_int ho hx hy (by simp [binOp, Op.intCmp])
theorem gv_eql (ho : o.op = .binOp .eql t x y t') (hx : a.eval x = .int k p) (hy : a.eval y = .int k q) : Gv P o a w (.bool (decide (p = q))) := gv_int ho hx hy (by simp only [binOp, ne_eq, not_true_eq_false, if_false, Op.intCmp, Sem.run_pure, beq_dec])
theorem gv_neq (ho : o.op = .binOp .neq t x y t') (hx : a.eval x = .int k p) (hy : a.eval y = .int k q) : Gv P o a w (.bool (decide (p ≠ q))) := gv_int ho hx hy (by simp only [binOp, ne_eq, not_true_eq_false, if_false, Op.intCmp, Sem.run_pure, bne, beq_dec, decide_not])
theorem gv_lssT (ho : o.op = .binOp .lss t x y t') (hx : a.eval x = .int k p) (hy : a.eval y = .int k q) (h : p < q) : Gv P o a w (.bool true) := by have := gv_lss (P := P) (w := w) ho hx hy; rwa [decide_eq_true h] at this
theorem gv_lssF (ho : o.op = .binOp .lss t x y t') (hx : a.eval x = .int k p) (hy : a.eval y = .int k q) (h : ¬ (p < q)) : Gv P o a w (.bool false) := by have := gv_lss (P := P) (w := w) ho hx hy; rwa [decide_eq_false h] at this
theorem gv_leqT (ho : o.op = .binOp .leq t x y t') (hx : a.eval x = .int k p) (hy : a.eval y = .int k q) (h : p ≤ q) : Gv P o a w (.bool true) := by have := gv_leq (P := P) (w := w) ho hx hy; rwa [decide_eq_true h] at this
theorem gv_leqF (ho : o.op = .binOp .leq t x y t') (hx : a.eval x = .int k p) (hy : a.eval y = .int k q) (h : ¬ (p ≤ q)) : Gv P o a w (.bool false) := by have := gv_leq (P := P) (w := w) ho hx hy; rwa [decide_eq_false h] at this
theorem gv_gtrT (ho : o.op = .binOp .gtr t x y t') (hx : a.eval x = .int k p) (hy : a.eval y = .int k q) (h : q < p) : Gv P o a w (.bool true) := by have := gv_gtr (P := P) (w := w) ho hx hy; rwa [decide_eq_true h] at this
theorem gv_gtrF (ho : o.op = .binOp .gtr t x y t') (hx : a.eval x = .int k p) (hy : a.eval y = .int k q) (h : ¬ (q < p)) : Gv P o a w (.bool false) := by have := gv_gtr (P := P) (w := w) ho hx hy; rwa [decide_eq_false h] at this
theorem gv_geqT (ho : o.op = .binOp .geq t x y t') (hx : a.eval x = .int k p) (hy : a.eval y = .int k q) (h : q ≤ p) : Gv P o a w (.bool true) := by have := gv_geq (P := P) (w := w) ho hx hy; rwa [decide_eq_true h] at this
theorem gv_geqF (ho : o.op = .binOp .geq t x y t') (hx : a.eval x = .int k p) (hy : a.eval y = .int k q) (h : ¬ (q ≤ p)) : Gv P o a w (.bool false) := by have := gv_geq (P := P) (w := w) ho hx hy; rwa [decide_eq_false h] at this
theorem gv_eqlT (ho : o.op = .binOp .eql t x y t') (hx : a.eval x = .int k p) (hy : a.eval y = .int k q) (h : p = q) : Gv P o a w (.bool true) := by have := gv_eql (P := P) (w := w) ho hx hy; rwa [decide_eq_true h] at this
theorem gv_eqlF (ho : o.op = .binOp .eql t x y t') (hx : a.eval x = .int k p) (hy : a.eval y = .int k q) (h : ¬ (p = q)) : Gv P o a w (.bool false) := by have := gv_eql (P := P) (w := w) ho hx hy; rwa [decide_eq_false h] at this
theorem gv_neqT (ho : o.op = .binOp .neq t x y t') (hx : a.eval x = .int k p) (hy : a.eval y = .int k q) (h : p ≠ q) : Gv P o a w (.bool true) := by have := gv_neq (P := P) (w := w) ho hx hy; rwa [decide_eq_true h] at this
theorem gv_neqF (ho : o.op = .binOp .neq t x y t') (hx : a.eval x = .int k p) (hy : a.eval y = .int k q) (h : ¬ (p ≠ q)) : Gv P o a w (.bool false) := by have := gv_neq (P := P) (w := w) ho hx hy; rwa [decide_eq_false h] at this
end arith

section bytes
variable {op : BinOp} {t t' : TypeId} {x y : Operand}
theorem u8_wrap (n : Nat) : IntKind.u8.wrap (n : Int) = ((n % 256 : Nat) : Int) := by
  simp [IntKind.wrap, IntKind.bits, IntKind.signed]
theorem u32_wrap (n : Nat) : IntKind.u32.wrap (n : Int) = ((n % 4294967296 : Nat) : Int) := by
  simp [IntKind.wrap, IntKind.bits, IntKind.signed]
theorem u64_wrap (n : Nat) : IntKind.u64.wrap (n : Int) = ((n % 18446744073709551616 : Nat) : Int) := by
  simp [IntKind.wrap, IntKind.bits, IntKind.signed]
theorem bv_of (n k : Nat) (h : k < 2 ^ n) : (BitVec.ofInt n (k : Int)).toNat = k := by
  rw [BitVec.ofInt_natCast, BitVec.toNat_ofNat]; exact Nat.mod_eq_of_lt h

theorem gv_b_and {m n : UInt8} (ho : o.op = .binOp .and t x y t') (hx : a.eval x = vB m) (hy : a.eval y = vB n) : Gv P o a w (vB (m &&& n)) := by
  refine gv_int ho hx hy ?_
  have h1 := bv_of 8 m.toNat m.toNat_lt
  have h2 := bv_of 8 n.toNat n.toNat_lt
  have h3 : m.toNat &&& n.toNat < 2 ^ 8 := Nat.and_lt_two_pow _ n.toNat_lt
  show Result.ok (Value.int .u8 (IntKind.u8.wrap ((BitVec.ofInt 8 (m.toNat : Int) &&& BitVec.ofInt 8 (n.toNat : Int)).toNat : Int))) w = _
  rw [BitVec.toNat_and, h1, h2, u8_wrap, Nat.mod_eq_of_lt h3, vB, UInt8.toNat_and]
theorem gv_b_or {m n : UInt8} (ho : o.op = .binOp .or t x y t') (hx : a.eval x = vB m) (hy : a.eval y = vB n) : Gv P o a w (vB (m ||| n)) := by
  refine gv_int ho hx hy ?_
  have h1 := bv_of 8 m.toNat m.toNat_lt
  have h2 := bv_of 8 n.toNat n.toNat_lt
  have h3 : m.toNat ||| n.toNat < 2 ^ 8 := Nat.or_lt_two_pow m.toNat_lt n.toNat_lt
  show Result.ok (Value.int .u8 (IntKind.u8.wrap ((BitVec.ofInt 8 (m.toNat : Int) ||| BitVec.ofInt 8 (n.toNat : Int)).toNat : Int))) w = _
  rw [BitVec.toNat_or, h1, h2, u8_wrap, Nat.mod_eq_of_lt h3, vB, UInt8.toNat_or]
theorem gv_b_xor {m n : UInt8} (ho : o.op = .binOp .xor t x y t') (hx : a.eval x = vB m) (hy : a.eval y = vB n) : Gv P o a w (vB (m ^^^ n)) := by
  refine gv_int ho hx hy ?_
  have h1 := bv_of 8 m.toNat m.toNat_lt
  have h2 := bv_of 8 n.toNat n.toNat_lt
  have h3 : m.toNat ^^^ n.toNat < 2 ^ 8 := Nat.xor_lt_two_pow m.toNat_lt n.toNat_lt
  show Result.ok (Value.int .u8 (IntKind.u8.wrap ((BitVec.ofInt 8 (m.toNat : Int) ^^^ BitVec.ofInt 8 (n.toNat : Int)).toNat : Int))) w = _
  rw [BitVec.toNat_xor, h1, h2, u8_wrap, Nat.mod_eq_of_lt h3, vB, UInt8.toNat_xor]
theorem gv_b_add {m n : UInt8} (ho : o.op = .binOp .add t x y t') (hx : a.eval x = vB m) (hy : a.eval y = vB n) : Gv P o a w (vB (m + n)) := by
  refine gv_int ho hx hy ?_
  simp only [binOp, Op.intArith, ne_eq, not_true_eq_false, if_false, ← Int.natCast_add, u8_wrap, vB, UInt8.toNat_add]
  rfl
theorem gv_b_sub {m n : UInt8} (ho : o.op = .binOp .sub t x y t') (hx : a.eval x = vB m) (hy : a.eval y = vB n) : Gv P o a w (vB (m - n)) := by
  refine gv_int ho hx hy ?_
  have hm := m.toNat_lt
  have hn := n.toNat_lt
  have : IntKind.u8.wrap ((m.toNat : Int) - (n.toNat : Int)) = (((m - n).toNat : Nat) : Int) := by
    rw [UInt8.toNat_sub]
    simp only [IntKind.wrap, IntKind.bits, IntKind.signed]
    simp
    omega
  simp only [binOp, Op.intArith, ne_eq, not_true_eq_false, if_false, this, vB]
  rfl
/-- A shift by a count that is known. -/
theorem gv_shift (ho : o.op = .binOp op t x y t') (hop : op = .shl ∨ op = .shr) {k k' : IntKind} {p q : Int} (hx : a.eval x = .int k p) (hy : a.eval y = .int k' q) {v : Value} (hr : (Op.shift op k p k' q).run P w = .ok v w) : Gv P o a w v := by
  unfold Gv execOp; rw [ho]
  rcases hop with rfl | rfl <;> simp [hx, hy, eqGuard_int, binOp, hr]
theorem gv_b_shl {m : UInt8} {k' : IntKind} {n : Nat} (ho : o.op = .binOp .shl t x y t') (hx : a.eval x = vB m) (hy : a.eval y = .int k' (n : Int)) (hn : n < 8) : Gv P o a w (vB (m <<< (UInt8.ofNat n))) := by
  refine gv_shift ho (.inl rfl) hx hy ?_
  have h0 : ¬ ((n : Int) < 0) := by omega
  have h8 : min n 8 = n := by omega
  have hc : ((m.toNat : Int) * 2 ^ n) = ((m.toNat * 2 ^ n : Nat) : Int) := by simp
  simp only [Op.shift, h0, if_false, Int.toNat_natCast, IntKind.bits, h8, hc, u8_wrap, vB]
  rw [UInt8.toNat_shiftLeft]
  have : (UInt8.ofNat n).toNat % 8 = n := by simp; omega
  rw [this, Nat.shiftLeft_eq]
  rfl
theorem gv_b_shr {m : UInt8} {k' : IntKind} {n : Nat} (ho : o.op = .binOp .shr t x y t') (hx : a.eval x = vB m) (hy : a.eval y = .int k' (n : Int)) (hn : n < 8) : Gv P o a w (vB (m >>> (UInt8.ofNat n))) := by
  refine gv_shift ho (.inr rfl) hx hy ?_
  have h0 : ¬ ((n : Int) < 0) := by omega
  have h8 : min n 8 = n := by omega
  have hc : ((m.toNat : Int).fdiv (2 ^ n)) = ((m.toNat / 2 ^ n : Nat) : Int) := by
    rw [Int.fdiv_eq_ediv_of_nonneg _ (by exact_mod_cast Nat.zero_le (2 ^ n))]; norm_cast
  simp only [Op.shift, h0, if_false, Int.toNat_natCast, IntKind.bits, h8, hc, vB]
  rw [UInt8.toNat_shiftRight]
  have : (UInt8.ofNat n).toNat % 8 = n := by simp; omega
  rw [this, Nat.shiftRight_eq_div_pow]
  rfl
/-- Bits of ints that aren't below 0. -/
theorem gv_n_xor {m n : Nat} (ho : o.op = .binOp .xor t x y t') (hx : a.eval x = vI m) (hy : a.eval y = vI n) (h1 : m < 9223372036854775808) (h2 : n < 9223372036854775808) : Gv P o a w (vI (m ^^^ n)) := by
  refine gv_int ho hx hy ?_
  have h3 : m ^^^ n < 2 ^ 63 := Nat.xor_lt_two_pow (by omega) (by omega)
  show Result.ok (Value.int .i64 (IntKind.i64.wrap ((BitVec.ofInt 64 (m : Int) ^^^ BitVec.ofInt 64 (n : Int)).toNat : Int))) w = _
  rw [BitVec.toNat_xor, bv_of 64 m (by omega), bv_of 64 n (by omega), wrap_i64_id (by omega) (by omega)]; rfl
theorem gv_n_and {m n : Nat} (ho : o.op = .binOp .and t x y t') (hx : a.eval x = vI m) (hy : a.eval y = vI n) (h1 : m < 9223372036854775808) (h2 : n < 9223372036854775808) : Gv P o a w (vI (m &&& n)) := by
  refine gv_int ho hx hy ?_
  have h3 : m &&& n < 2 ^ 63 := Nat.and_lt_two_pow _ (by omega)
  show Result.ok (Value.int .i64 (IntKind.i64.wrap ((BitVec.ofInt 64 (m : Int) &&& BitVec.ofInt 64 (n : Int)).toNat : Int))) w = _
  rw [BitVec.toNat_and, bv_of 64 m (by omega), bv_of 64 n (by omega), wrap_i64_id (by omega) (by omega)]; rfl
theorem gv_n_or {m n : Nat} (ho : o.op = .binOp .or t x y t') (hx : a.eval x = vI m) (hy : a.eval y = vI n) (h1 : m < 9223372036854775808) (h2 : n < 9223372036854775808) : Gv P o a w (vI (m ||| n)) := by
  refine gv_int ho hx hy ?_
  have h3 : m ||| n < 2 ^ 63 := Nat.or_lt_two_pow (by omega) (by omega)
  show Result.ok (Value.int .i64 (IntKind.i64.wrap ((BitVec.ofInt 64 (m : Int) ||| BitVec.ofInt 64 (n : Int)).toNat : Int))) w = _
  rw [BitVec.toNat_or, bv_of 64 m (by omega), bv_of 64 n (by omega), wrap_i64_id (by omega) (by omega)]; rfl
theorem gv_n_shl {m n : Nat} {k' : IntKind} (ho : o.op = .binOp .shl t x y t') (hx : a.eval x = vI m) (hy : a.eval y = .int k' (n : Int)) (hn : n < 64) (h : m * 2 ^ n ≤ 9223372036854775807) : Gv P o a w (vI (m * 2 ^ n)) := by
  refine gv_shift ho (.inl rfl) hx hy ?_
  have h0 : ¬ ((n : Int) < 0) := by omega
  have h8 : min n 64 = n := by omega
  have hc : ((m : Int) * 2 ^ n) = ((m * 2 ^ n : Nat) : Int) := by simp
  simp only [Op.shift, h0, if_false, Int.toNat_natCast, IntKind.bits, h8, hc]
  rw [wrap_i64_id (by omega) (by omega)]; rfl
theorem gv_n_shr {m n : Nat} {k' : IntKind} (ho : o.op = .binOp .shr t x y t') (hx : a.eval x = vI m) (hy : a.eval y = .int k' (n : Int)) (hn : n < 64) : Gv P o a w (vI (m / 2 ^ n)) := by
  refine gv_shift ho (.inr rfl) hx hy ?_
  have h0 : ¬ ((n : Int) < 0) := by omega
  have h8 : min n 64 = n := by omega
  have hc : ((m : Int).fdiv (2 ^ n)) = ((m / 2 ^ n : Nat) : Int) := by
    rw [Int.fdiv_eq_ediv_of_nonneg _ (by exact_mod_cast Nat.zero_le (2 ^ n))]; norm_cast
  simp only [Op.shift, h0, if_false, Int.toNat_natCast, IntKind.bits, h8, hc]
  rfl
end bytes

/-! ### Conversions -/
section conv
variable {s d : TypeId} {x : Operand}
theorem gv_conv {k k' : IntKind} {n : Int} (ho : o.op = .convert s d x) (hs : P.underlying s = some (.int k)) (hd : P.underlying d = some (.int k')) (hx : a.eval x = .int k n) : Gv P o a w (.int k' (k'.wrap n)) := by
  unfold Gv execOp; rw [ho]; simp [hx, convert, run_und hs, run_und hd, Conv.intToInt]
/-- int(a byte). -/
theorem gv_conv_b_i {m : UInt8} (ho : o.op = .convert s d x) (hs : P.underlying s = some (.int .u8)) (hd : P.underlying d = some (.int .i64)) (hx : a.eval x = vB m) : Gv P o a w (vI m.toNat) := by
  have := gv_conv (w := w) ho hs hd hx
  rwa [wrap_i64_id (by omega) (by have := m.toNat_lt; omega)] at this
theorem gv_conv_i_b {n : Nat} (ho : o.op = .convert s d x) (hs : P.underlying s = some (.int .i64)) (hd : P.underlying d = some (.int .u8)) (hx : a.eval x = vI n) : Gv P o a w (vB (UInt8.ofNat n)) := by
  have := gv_conv (w := w) ho hs hd hx
  rw [u8_wrap] at this
  have e : (UInt8.ofNat n).toNat = n % 256 := by simp
  unfold vB
  rw [e]
  exact this
end conv

/-! ### Addresses -/
section addr
variable {t e : TypeId} {x i : Operand} {n sz : Nat} {b off : Nat} {q : Nat}
theorem gv_indexArr (ho : o.op = .indexAddr t x i) (ht : P.underlying t = some (.array n e)) (hz : (P.info? e).map (·.size) = some sz) (hx : a.eval x = .pointer (some ⟨b, off, none⟩)) (hi : a.eval i = vI q) (h : q < n) :
    Gv P o a w (.pointer (some ⟨b, off + q * sz, none⟩)) := by
  unfold Gv execOp; rw [ho]
  have h1 : (0 : Int) ≤ (q : Int) ∧ (q : Int) < (n : Int) := ⟨by omega, by omega⟩
  have h2 := Nat.not_le.2 h
  simp [h2, hx, hi, vI, Instr.indexAt, asIntOf, run_und ht, Instr.sureAddr, run_sizeOf hz, h1, add_lit]
theorem gv_indexSl {len c : Nat} (ho : o.op = .indexAddr t x i) (ht : P.underlying t = some (.slice e)) (hz : (P.info? e).map (·.size) = some sz) (hx : a.eval x = .slice (some ⟨b, off, none⟩) len c) (hi : a.eval i = vI q) (h : q < len) :
    Gv P o a w (.pointer (some ⟨b, off + q * sz, none⟩)) := by
  unfold Gv execOp; rw [ho]
  have h1 : (0 : Int) ≤ (q : Int) ∧ (q : Int) < (len : Int) := ⟨by omega, by omega⟩
  have h2 := Nat.not_le.2 h
  simp [h2, hx, hi, vI, Instr.indexAt, asIntOf, run_und ht, Instr.sureAddr, run_sizeOf hz, h1, add_lit]
theorem gv_field {s : TypeId} {fs : Array Field} {f : Field} {j r : Nat} (ho : o.op = .fieldAddr s x j) (hs : P.underlying s = some (.struct fs)) (hf : fs[j]? = some f) (hr : f.offset = r) (hz : (P.info? f.type).map (·.size) = some sz) (h0 : sz ≠ 0) (hx : a.eval x = .pointer (some ⟨b, off, none⟩)) :
    Gv P o a w (.pointer (some ⟨b, off + r, none⟩)) := by
  subst hr
  unfold Gv execOp; rw [ho]
  simp [hx, Instr.fieldAt, run_und hs, hf, Instr.sureAddr, fieldPlace, run_sizeOf hz, h0, add_lit]
end addr

/-! ### Loads -/
theorem run_isAgg_false {t : TypeId} {d : TypeDesc} (ht : P.underlying t = some d) (hd : (match d with | .struct _ | .array _ _ => true | _ => false) = false) (w : World) : (isAgg t).run P w = .ok false w := by
  simp only [isAgg, Sem.run_bind, run_und ht, Result.andThen_ok]
  split <;> simp_all
theorem run_isAgg_true {t : TypeId} {d : TypeDesc} (ht : P.underlying t = some d) (hd : (match d with | .struct _ | .array _ _ => true | _ => false) = true) (w : World) : (isAgg t).run P w = .ok true w := by
  simp only [isAgg, Sem.run_bind, run_und ht, Result.andThen_ok]
  split <;> simp_all
theorem gv_load {t : TypeId} {d : TypeDesc} {x : Operand} {b i : Nat} {v : Value} (ho : o.op = .load t x) (ht : P.underlying t = some d) (hd : (match d with | .struct _ | .array _ _ => true | _ => false) = false) (hx : a.eval x = .pointer (some ⟨b, i, none⟩)) (hc : w.cell? ⟨b, i, none⟩ = some v) : Gv P o a w v := by
  unfold Gv execOp; rw [ho]
  simp [hx, Instr.loadAt, Instr.sureAddr, loadVar, run_isAgg_false ht hd, load, Sem.run, hc]
theorem gv_loadAgg {t : TypeId} {d : TypeDesc} {x : Operand} {b i : Nat} {vs : List Value} (ho : o.op = .load t x) (ht : P.underlying t = some d) (hd : (match d with | .struct _ | .array _ _ => true | _ => false) = true) (hz : (P.info? t).map (·.size) = some vs.length) (hx : a.eval x = .pointer (some ⟨b, i, none⟩))
    (hc : ∀ j u, vs[j]? = some u → w.cell? ⟨b, i + j, none⟩ = some u) : Gv P o a w (.agg vs.toArray) := by
  unfold Gv execOp; rw [ho]
  have hl := run_loadCells_list (P := P) w ⟨b, i, none⟩ vs (fun j u hu => by rw [add_lit]; exact hc j u hu)
  simp [hx, Instr.loadAt, Instr.sureAddr, loadVar, run_isAgg_true ht hd, run_sizeOf hz, hl]

/-! ### Parts of values -/
theorem gv_indexAgg {t e : TypeId} {d : TypeDesc} {x i : Operand} {n q : Nat} {cs : Array Value} {v : Value} (ho : o.op = .index t x i) (ht : P.underlying t = some (.array n e)) (he : P.underlying e = some d) (hd : (match d with | .struct _ | .array _ _ => true | _ => false) = false) (hz : (P.info? e).map (·.size) = some 1)
    (hx : a.eval x = .agg cs) (hi : a.eval i = vI q) (h : q < n) (hv : cs[q]? = some v) : Gv P o a w v := by
  unfold Gv execOp; rw [ho]
  have h1 : (0 : Int) ≤ (q : Int) ∧ (q : Int) < (n : Int) := ⟨by omega, by omega⟩
  have h2 := Nat.not_le.2 h
  simp [h2, hx, hi, vI, Instr.index, asIntOf, run_und ht, h1, run_sizeOf hz, part, run_isAgg_false he hd, hv]
/-- The same, the index a byte. -/
theorem gv_indexAggB {t e : TypeId} {d : TypeDesc} {x i : Operand} {n : Nat} {q : UInt8} {cs : Array Value} {v : Value} (ho : o.op = .index t x i) (ht : P.underlying t = some (.array n e)) (he : P.underlying e = some d) (hd : (match d with | .struct _ | .array _ _ => true | _ => false) = false) (hz : (P.info? e).map (·.size) = some 1)
    (hx : a.eval x = .agg cs) (hi : a.eval i = vB q) (h : q.toNat < n) (hv : cs[q.toNat]? = some v) : Gv P o a w v := by
  unfold Gv execOp; rw [ho]
  have h1 : (0 : Int) ≤ (q.toNat : Int) ∧ (q.toNat : Int) < (n : Int) := ⟨by omega, by omega⟩
  have h2 := Nat.not_le.2 h
  simp [h2, hx, hi, vB, Instr.index, asIntOf, run_und ht, h1, run_sizeOf hz, part, run_isAgg_false he hd, hv]
/-- len of a slice, of a string. -/
theorem gv_len {t e : TypeId} {A : Option Addr} {n c : Nat} {x : Operand} (ho : o.op = .call { callee := .builtin .len, args := #[x], argTypes := #[t] }) (ht : P.underlying t = some (.slice e)) (hx : a.eval x = .slice A n c) : Gv P o a w (vI n) := by
  unfold Gv execOp; rw [ho]
  simp [hx, resolve, invoke, builtin, Builtin.len_, run_und ht, goInt, vI]
theorem gv_lenStr {t : TypeId} {s : ByteArray} {x : Operand} (ho : o.op = .call { callee := .builtin .len, args := #[x], argTypes := #[t] }) (ht : P.underlying t = some .string) (hx : a.eval x = .string s) : Gv P o a w (vI s.size) := by
  unfold Gv execOp; rw [ho]
  simp [hx, resolve, invoke, builtin, Builtin.len_, run_und ht, goInt, vI]
/-- A pointer against nil. -/
theorem eqGuard_ptr (op : BinOp) (t : TypeId) (x y : Operand) (p q : Option Addr) (w : World) : (eqGuard op t x y (.pointer p) (.pointer q)).run P w = .ok () w := by
  unfold eqGuard; split <;> rfl
theorem gv_eqlNil {t t' e : TypeId} {x y : Operand} {p : Option Addr} (ho : o.op = .binOp .eql t x y t') (ht : P.underlying t = some (.pointer e)) (hx : a.eval x = .pointer p) (hy : a.eval y = .pointer none) : Gv P o a w (.bool p.isNone) := by
  have he : (Op.equal t (.pointer p) (.pointer none)).run P w = .ok p.isNone w := by
    show (Op.equalIn (9999 + 1) t (.pointer p) (.pointer none)).run P w = _
    unfold Op.equalIn
    cases p <;> simp [run_und ht]
  unfold Gv execOp; rw [ho]
  simp only [hx, hy, binOp, Sem.run_bind, eqGuard_ptr, Result.andThen_ok, he, Sem.run_pure]
theorem gv_neqNil {t t' e : TypeId} {x y : Operand} {p : Option Addr} (ho : o.op = .binOp .neq t x y t') (ht : P.underlying t = some (.pointer e)) (hx : a.eval x = .pointer p) (hy : a.eval y = .pointer none) : Gv P o a w (.bool p.isSome) := by
  have he : (Op.equal t (.pointer p) (.pointer none)).run P w = .ok p.isNone w := by
    show (Op.equalIn (9999 + 1) t (.pointer p) (.pointer none)).run P w = _
    unfold Op.equalIn
    cases p <;> simp [run_und ht]
  unfold Gv execOp; rw [ho]
  simp only [hx, hy, binOp, Sem.run_bind, eqGuard_ptr, Result.andThen_ok, he, Sem.run_pure]
  cases p <;> rfl
end
end Go.Fw
