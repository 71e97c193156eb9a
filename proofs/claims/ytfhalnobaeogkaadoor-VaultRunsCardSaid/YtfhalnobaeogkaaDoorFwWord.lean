/- What is proved: operations on words of 32 and of 64 bits, and conversions between kinds of ints. -/
import Derived.Test.YtfhalnobaeogkaaDoorFwRef
set_option linter.unusedVariables false
set_option linter.unusedSimpArgs false
namespace Go.Fw
open Go Go.RowKit
section
variable {P : Program} {a : Act} {o : Oper} {w : World} {t t' : TypeId} {x y : Operand}

theorem gv_w_and {m n : UInt32} (ho : o.op = .binOp .and t x y t') (hx : a.eval x = vW m) (hy : a.eval y = vW n) : Gv P o a w (vW (m &&& n)) := by
  refine gv_int ho hx hy ?_
  have h1 := bv_of 32 m.toNat m.toNat_lt
  have h2 := bv_of 32 n.toNat n.toNat_lt
  have h3 : m.toNat &&& n.toNat < 2 ^ 32 := Nat.and_lt_two_pow _ n.toNat_lt
  show Result.ok (Value.int .u32 (IntKind.u32.wrap ((BitVec.ofInt 32 (m.toNat : Int) &&& BitVec.ofInt 32 (n.toNat : Int)).toNat : Int))) w = _
  rw [BitVec.toNat_and, h1, h2, u32_wrap, Nat.mod_eq_of_lt h3, vW, UInt32.toNat_and]
theorem gv_w_or {m n : UInt32} (ho : o.op = .binOp .or t x y t') (hx : a.eval x = vW m) (hy : a.eval y = vW n) : Gv P o a w (vW (m ||| n)) := by
  refine gv_int ho hx hy ?_
  have h1 := bv_of 32 m.toNat m.toNat_lt
  have h2 := bv_of 32 n.toNat n.toNat_lt
  have h3 : m.toNat ||| n.toNat < 2 ^ 32 := Nat.or_lt_two_pow m.toNat_lt n.toNat_lt
  show Result.ok (Value.int .u32 (IntKind.u32.wrap ((BitVec.ofInt 32 (m.toNat : Int) ||| BitVec.ofInt 32 (n.toNat : Int)).toNat : Int))) w = _
  rw [BitVec.toNat_or, h1, h2, u32_wrap, Nat.mod_eq_of_lt h3, vW, UInt32.toNat_or]
theorem gv_w_xor {m n : UInt32} (ho : o.op = .binOp .xor t x y t') (hx : a.eval x = vW m) (hy : a.eval y = vW n) : Gv P o a w (vW (m ^^^ n)) := by
  refine gv_int ho hx hy ?_
  have h1 := bv_of 32 m.toNat m.toNat_lt
  have h2 := bv_of 32 n.toNat n.toNat_lt
  have h3 : m.toNat ^^^ n.toNat < 2 ^ 32 := Nat.xor_lt_two_pow m.toNat_lt n.toNat_lt
  show Result.ok (Value.int .u32 (IntKind.u32.wrap ((BitVec.ofInt 32 (m.toNat : Int) ^^^ BitVec.ofInt 32 (n.toNat : Int)).toNat : Int))) w = _
  rw [BitVec.toNat_xor, h1, h2, u32_wrap, Nat.mod_eq_of_lt h3, vW, UInt32.toNat_xor]
theorem gv_w_not {m : UInt32} (ho : o.op = .unOp .xor t x) (hx : a.eval x = vW m) : Gv P o a w (vW (m ^^^ (0 - 1))) := by
  have h1 := bv_of 32 m.toNat m.toNat_lt
  have h2 : (BitVec.ofInt 32 (4294967295 : Int)).toNat = 4294967295 := by decide
  have h3 : 4294967295 ^^^ m.toNat < 2 ^ 32 := Nat.xor_lt_two_pow (by decide) m.toNat_lt
  have hr : (Op.unary .xor (vW m)).run P w = .ok (vW (m ^^^ (0 - 1))) w := by
    show Result.ok (Value.int .u32 (IntKind.u32.wrap ((BitVec.ofInt 32 (4294967295 : Int) ^^^ BitVec.ofInt 32 (m.toNat : Int)).toNat : Int))) w = _
    rw [BitVec.toNat_xor, h1, h2, u32_wrap, Nat.mod_eq_of_lt h3, vW, UInt32.toNat_xor, Nat.xor_comm]; rfl
  unfold Gv execOp
  rw [ho]
  simp [hx, hr]
theorem gv_w_add {m n : UInt32} (ho : o.op = .binOp .add t x y t') (hx : a.eval x = vW m) (hy : a.eval y = vW n) : Gv P o a w (vW (m + n)) := by
  refine gv_int ho hx hy ?_
  simp only [binOp, Op.intArith, ne_eq, not_true_eq_false, if_false, ← Int.natCast_add, u32_wrap, vW, UInt32.toNat_add]
  rfl
theorem gv_w_sub {m n : UInt32} (ho : o.op = .binOp .sub t x y t') (hx : a.eval x = vW m) (hy : a.eval y = vW n) : Gv P o a w (vW (m - n)) := by
  refine gv_int ho hx hy ?_
  have hm := m.toNat_lt
  have hn := n.toNat_lt
  have : IntKind.u32.wrap ((m.toNat : Int) - (n.toNat : Int)) = (((m - n).toNat : Nat) : Int) := by
    rw [UInt32.toNat_sub]
    simp only [IntKind.wrap, IntKind.bits, IntKind.signed]
    simp
    omega
  simp only [binOp, Op.intArith, ne_eq, not_true_eq_false, if_false, this, vW]
  rfl
theorem gv_w_mul {m n : UInt32} (ho : o.op = .binOp .mul t x y t') (hx : a.eval x = vW m) (hy : a.eval y = vW n) : Gv P o a w (vW (m * n)) := by
  refine gv_int ho hx hy ?_
  simp only [binOp, Op.intArith, ne_eq, not_true_eq_false, if_false, ← Int.natCast_mul, u32_wrap, vW, UInt32.toNat_mul]
  rfl
theorem gv_w_shl {m : UInt32} {k' : IntKind} {n : Nat} (ho : o.op = .binOp .shl t x y t') (hx : a.eval x = vW m) (hy : a.eval y = .int k' (n : Int)) (hn : n < 32) : Gv P o a w (vW (m <<< (UInt32.ofNat n))) := by
  refine gv_shift ho (.inl rfl) hx hy ?_
  have h0 : ¬ ((n : Int) < 0) := by omega
  have h8 : min n 32 = n := by omega
  have hc : ((m.toNat : Int) * 2 ^ n) = ((m.toNat * 2 ^ n : Nat) : Int) := by simp
  simp only [Op.shift, h0, if_false, Int.toNat_natCast, IntKind.bits, h8, hc, u32_wrap, vW]
  rw [UInt32.toNat_shiftLeft]
  have : (UInt32.ofNat n).toNat % 32 = n := by simp; omega
  rw [this, Nat.shiftLeft_eq]
  rfl
theorem gv_w_shr {m : UInt32} {k' : IntKind} {n : Nat} (ho : o.op = .binOp .shr t x y t') (hx : a.eval x = vW m) (hy : a.eval y = .int k' (n : Int)) (hn : n < 32) : Gv P o a w (vW (m >>> (UInt32.ofNat n))) := by
  refine gv_shift ho (.inr rfl) hx hy ?_
  have h0 : ¬ ((n : Int) < 0) := by omega
  have h8 : min n 32 = n := by omega
  have hc : ((m.toNat : Int).fdiv (2 ^ n)) = ((m.toNat / 2 ^ n : Nat) : Int) := by
    rw [Int.fdiv_eq_ediv_of_nonneg _ (by exact_mod_cast Nat.zero_le (2 ^ n))]; norm_cast
  simp only [Op.shift, h0, if_false, Int.toNat_natCast, IntKind.bits, h8, hc, vW]
  rw [UInt32.toNat_shiftRight]
  have : (UInt32.ofNat n).toNat % 32 = n := by simp; omega
  rw [this, Nat.shiftRight_eq_div_pow]
  rfl

theorem gv_d_and {m n : UInt64} (ho : o.op = .binOp .and t x y t') (hx : a.eval x = vD m) (hy : a.eval y = vD n) : Gv P o a w (vD (m &&& n)) := by
  refine gv_int ho hx hy ?_
  have h1 := bv_of 64 m.toNat m.toNat_lt
  have h2 := bv_of 64 n.toNat n.toNat_lt
  have h3 : m.toNat &&& n.toNat < 2 ^ 64 := Nat.and_lt_two_pow _ n.toNat_lt
  show Result.ok (Value.int .u64 (IntKind.u64.wrap ((BitVec.ofInt 64 (m.toNat : Int) &&& BitVec.ofInt 64 (n.toNat : Int)).toNat : Int))) w = _
  rw [BitVec.toNat_and, h1, h2, u64_wrap, Nat.mod_eq_of_lt h3, vD, UInt64.toNat_and]
theorem gv_d_or {m n : UInt64} (ho : o.op = .binOp .or t x y t') (hx : a.eval x = vD m) (hy : a.eval y = vD n) : Gv P o a w (vD (m ||| n)) := by
  refine gv_int ho hx hy ?_
  have h1 := bv_of 64 m.toNat m.toNat_lt
  have h2 := bv_of 64 n.toNat n.toNat_lt
  have h3 : m.toNat ||| n.toNat < 2 ^ 64 := Nat.or_lt_two_pow m.toNat_lt n.toNat_lt
  show Result.ok (Value.int .u64 (IntKind.u64.wrap ((BitVec.ofInt 64 (m.toNat : Int) ||| BitVec.ofInt 64 (n.toNat : Int)).toNat : Int))) w = _
  rw [BitVec.toNat_or, h1, h2, u64_wrap, Nat.mod_eq_of_lt h3, vD, UInt64.toNat_or]
theorem gv_d_xor {m n : UInt64} (ho : o.op = .binOp .xor t x y t') (hx : a.eval x = vD m) (hy : a.eval y = vD n) : Gv P o a w (vD (m ^^^ n)) := by
  refine gv_int ho hx hy ?_
  have h1 := bv_of 64 m.toNat m.toNat_lt
  have h2 := bv_of 64 n.toNat n.toNat_lt
  have h3 : m.toNat ^^^ n.toNat < 2 ^ 64 := Nat.xor_lt_two_pow m.toNat_lt n.toNat_lt
  show Result.ok (Value.int .u64 (IntKind.u64.wrap ((BitVec.ofInt 64 (m.toNat : Int) ^^^ BitVec.ofInt 64 (n.toNat : Int)).toNat : Int))) w = _
  rw [BitVec.toNat_xor, h1, h2, u64_wrap, Nat.mod_eq_of_lt h3, vD, UInt64.toNat_xor]
theorem gv_d_not {m : UInt64} (ho : o.op = .unOp .xor t x) (hx : a.eval x = vD m) : Gv P o a w (vD (m ^^^ (0 - 1))) := by
  have h1 := bv_of 64 m.toNat m.toNat_lt
  have h2 : (BitVec.ofInt 64 (18446744073709551615 : Int)).toNat = 18446744073709551615 := by decide
  have h3 : 18446744073709551615 ^^^ m.toNat < 2 ^ 64 := Nat.xor_lt_two_pow (by decide) m.toNat_lt
  have hr : (Op.unary .xor (vD m)).run P w = .ok (vD (m ^^^ (0 - 1))) w := by
    show Result.ok (Value.int .u64 (IntKind.u64.wrap ((BitVec.ofInt 64 (18446744073709551615 : Int) ^^^ BitVec.ofInt 64 (m.toNat : Int)).toNat : Int))) w = _
    rw [BitVec.toNat_xor, h1, h2, u64_wrap, Nat.mod_eq_of_lt h3, vD, UInt64.toNat_xor, Nat.xor_comm]; rfl
  unfold Gv execOp
  rw [ho]
  simp [hx, hr]
theorem gv_d_add {m n : UInt64} (ho : o.op = .binOp .add t x y t') (hx : a.eval x = vD m) (hy : a.eval y = vD n) : Gv P o a w (vD (m + n)) := by
  refine gv_int ho hx hy ?_
  simp only [binOp, Op.intArith, ne_eq, not_true_eq_false, if_false, ← Int.natCast_add, u64_wrap, vD, UInt64.toNat_add]
  rfl
theorem gv_d_sub {m n : UInt64} (ho : o.op = .binOp .sub t x y t') (hx : a.eval x = vD m) (hy : a.eval y = vD n) : Gv P o a w (vD (m - n)) := by
  refine gv_int ho hx hy ?_
  have hm := m.toNat_lt
  have hn := n.toNat_lt
  have : IntKind.u64.wrap ((m.toNat : Int) - (n.toNat : Int)) = (((m - n).toNat : Nat) : Int) := by
    rw [UInt64.toNat_sub]
    simp only [IntKind.wrap, IntKind.bits, IntKind.signed]
    simp
    omega
  simp only [binOp, Op.intArith, ne_eq, not_true_eq_false, if_false, this, vD]
  rfl
theorem gv_d_mul {m n : UInt64} (ho : o.op = .binOp .mul t x y t') (hx : a.eval x = vD m) (hy : a.eval y = vD n) : Gv P o a w (vD (m * n)) := by
  refine gv_int ho hx hy ?_
  simp only [binOp, Op.intArith, ne_eq, not_true_eq_false, if_false, ← Int.natCast_mul, u64_wrap, vD, UInt64.toNat_mul]
  rfl
theorem gv_d_shl {m : UInt64} {k' : IntKind} {n : Nat} (ho : o.op = .binOp .shl t x y t') (hx : a.eval x = vD m) (hy : a.eval y = .int k' (n : Int)) (hn : n < 64) : Gv P o a w (vD (m <<< (UInt64.ofNat n))) := by
  refine gv_shift ho (.inl rfl) hx hy ?_
  have h0 : ¬ ((n : Int) < 0) := by omega
  have h8 : min n 64 = n := by omega
  have hc : ((m.toNat : Int) * 2 ^ n) = ((m.toNat * 2 ^ n : Nat) : Int) := by simp
  simp only [Op.shift, h0, if_false, Int.toNat_natCast, IntKind.bits, h8, hc, u64_wrap, vD]
  rw [UInt64.toNat_shiftLeft]
  have : (UInt64.ofNat n).toNat % 64 = n := by simp; omega
  rw [this, Nat.shiftLeft_eq]
  rfl
theorem gv_d_shr {m : UInt64} {k' : IntKind} {n : Nat} (ho : o.op = .binOp .shr t x y t') (hx : a.eval x = vD m) (hy : a.eval y = .int k' (n : Int)) (hn : n < 64) : Gv P o a w (vD (m >>> (UInt64.ofNat n))) := by
  refine gv_shift ho (.inr rfl) hx hy ?_
  have h0 : ¬ ((n : Int) < 0) := by omega
  have h8 : min n 64 = n := by omega
  have hc : ((m.toNat : Int).fdiv (2 ^ n)) = ((m.toNat / 2 ^ n : Nat) : Int) := by
    rw [Int.fdiv_eq_ediv_of_nonneg _ (by exact_mod_cast Nat.zero_le (2 ^ n))]; norm_cast
  simp only [Op.shift, h0, if_false, Int.toNat_natCast, IntKind.bits, h8, hc, vD]
  rw [UInt64.toNat_shiftRight]
  have : (UInt64.ofNat n).toNat % 64 = n := by simp; omega
  rw [this, Nat.shiftRight_eq_div_pow]
  rfl
end
section
variable {P : Program} {a : Act} {o : Oper} {w : World} {s d : TypeId} {x : Operand}
theorem gv_conv_b_w {m : UInt8} (ho : o.op = .convert s d x) (hs : P.underlying s = some (.int .u8)) (hd : P.underlying d = some (.int .u32)) (hx : a.eval x = vB m) : Gv P o a w (vW m.toUInt32) := by
  have := gv_conv (w := w) ho hs hd hx
  rw [u32_wrap] at this
  have hm := m.toNat_lt
  have e : m.toUInt32.toNat = m.toNat % 4294967296 := by simp <;> omega
  unfold vW
  rw [e]
  exact this
theorem gv_conv_b_d {m : UInt8} (ho : o.op = .convert s d x) (hs : P.underlying s = some (.int .u8)) (hd : P.underlying d = some (.int .u64)) (hx : a.eval x = vB m) : Gv P o a w (vD m.toUInt64) := by
  have := gv_conv (w := w) ho hs hd hx
  rw [u64_wrap] at this
  have hm := m.toNat_lt
  have e : m.toUInt64.toNat = m.toNat % 18446744073709551616 := by simp <;> omega
  unfold vD
  rw [e]
  exact this
theorem gv_conv_w_b {m : UInt32} (ho : o.op = .convert s d x) (hs : P.underlying s = some (.int .u32)) (hd : P.underlying d = some (.int .u8)) (hx : a.eval x = vW m) : Gv P o a w (vB m.toUInt8) := by
  have := gv_conv (w := w) ho hs hd hx
  rw [u8_wrap] at this
  have hm := m.toNat_lt
  have e : m.toUInt8.toNat = m.toNat % 256 := by simp
  unfold vB
  rw [e]
  exact this
theorem gv_conv_w_d {m : UInt32} (ho : o.op = .convert s d x) (hs : P.underlying s = some (.int .u32)) (hd : P.underlying d = some (.int .u64)) (hx : a.eval x = vW m) : Gv P o a w (vD m.toUInt64) := by
  have := gv_conv (w := w) ho hs hd hx
  rw [u64_wrap] at this
  have hm := m.toNat_lt
  have e : m.toUInt64.toNat = m.toNat % 18446744073709551616 := by simp <;> omega
  unfold vD
  rw [e]
  exact this
theorem gv_conv_d_b {m : UInt64} (ho : o.op = .convert s d x) (hs : P.underlying s = some (.int .u64)) (hd : P.underlying d = some (.int .u8)) (hx : a.eval x = vD m) : Gv P o a w (vB m.toUInt8) := by
  have := gv_conv (w := w) ho hs hd hx
  rw [u8_wrap] at this
  have hm := m.toNat_lt
  have e : m.toUInt8.toNat = m.toNat % 256 := by simp
  unfold vB
  rw [e]
  exact this
theorem gv_conv_d_w {m : UInt64} (ho : o.op = .convert s d x) (hs : P.underlying s = some (.int .u64)) (hd : P.underlying d = some (.int .u32)) (hx : a.eval x = vD m) : Gv P o a w (vW m.toUInt32) := by
  have := gv_conv (w := w) ho hs hd hx
  rw [u32_wrap] at this
  have hm := m.toNat_lt
  have e : m.toUInt32.toNat = m.toNat % 4294967296 := by simp
  unfold vW
  rw [e]
  exact this
theorem gv_conv_i_w {n : Nat} (ho : o.op = .convert s d x) (hs : P.underlying s = some (.int .i64)) (hd : P.underlying d = some (.int .u32)) (hx : a.eval x = vI n) : Gv P o a w (vW (UInt32.ofNat n)) := by
  have := gv_conv (w := w) ho hs hd hx
  rw [u32_wrap] at this
  have e : (UInt32.ofNat n).toNat = n % 4294967296 := by simp
  unfold vW
  rw [e]
  exact this
theorem gv_conv_i_d {n : Nat} (ho : o.op = .convert s d x) (hs : P.underlying s = some (.int .i64)) (hd : P.underlying d = some (.int .u64)) (hx : a.eval x = vI n) : Gv P o a w (vD (UInt64.ofNat n)) := by
  have := gv_conv (w := w) ho hs hd hx
  rw [u64_wrap] at this
  have e : (UInt64.ofNat n).toNat = n % 18446744073709551616 := by simp
  unfold vD
  rw [e]
  exact this
theorem gv_conv_w_i {m : UInt32} (ho : o.op = .convert s d x) (hs : P.underlying s = some (.int .u32)) (hd : P.underlying d = some (.int .i64)) (hx : a.eval x = vW m) : Gv P o a w (vI m.toNat) := by
  have := gv_conv (w := w) ho hs hd hx
  rwa [wrap_i64_id (by omega) (by have := m.toNat_lt; omega)] at this
theorem gv_conv_d_i {m : UInt64} (h : m.toNat < 9223372036854775808) (ho : o.op = .convert s d x) (hs : P.underlying s = some (.int .u64)) (hd : P.underlying d = some (.int .i64)) (hx : a.eval x = vD m) : Gv P o a w (vI m.toNat) := by
  have := gv_conv (w := w) ho hs hd hx
  rwa [wrap_i64_id (by omega) (by omega)] at this
end
end Go.Fw
