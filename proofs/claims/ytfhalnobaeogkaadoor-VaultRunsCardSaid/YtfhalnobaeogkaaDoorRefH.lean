/- What is proved: the contracts of the parts of the reference hash. -/
import Derived.Test.YtfhalnobaeogkaaDoorProg
import Derived.Test.YtfhalnobaeogkaaDoorFwSep
import Derived.KernelRfl
import Derived.Test.YtfhalnobaeogkaaDoorFwSto
import Derived.Test.YtfhalnobaeogkaaDoorFwVlt
import Derived.Test.YtfhalnobaeogkaaDoorFwApp
import Derived.Test.YtfhalnobaeogkaaDoorFwWord
import Derived.Test.YtfhalnobaeogkaaDoorFwPkt
import Derived.Test.YtfhalnobaeogkaaDoorFwTok
import Derived.Test.YtfhalnobaeogkaaDoorDig
import Derived.Test.YtfhalnobaeogkaaDoorSum
import Derived.Test.YtfhalnobaeogkaaDoorWire
import Derived.Test.YtfhalnobaeogkaaDoorPktW
import Derived.Test.YtfhalnobaeogkaaDoorPktR
import Derived.Test.YtfhalnobaeogkaaDoorWireA
import Derived.Test.YtfhalnobaeogkaaDoorDisk
import Derived.Test.YtfhalnobaeogkaaDoorHead
import Derived.Test.YtfhalnobaeogkaaDoorHalf
import Derived.Test.YtfhalnobaeogkaaDoorOpen
import Derived.Test.YtfhalnobaeogkaaDoorSave
import Derived.Test.YtfhalnobaeogkaaDoorVPure
set_option linter.unusedVariables false
set_option linter.unusedSimpArgs false
namespace Go.Proofs.YtfhalnobaeogkaaDoor
open Go Go.RowKit Go.Fw

theorem Tryd.sz64 : (Tryd.prog.info? 64).map (·.size) = some 3 := by kernel_rfl
theorem Tryd.sz148 : (Tryd.prog.info? 148).map (·.size) = some 8 := by kernel_rfl
theorem Tryd.sz150 : (Tryd.prog.info? 150).map (·.size) = some 80 := by kernel_rfl
theorem Tryd.zv64 : (Tryd.prog.info? 64).map (·.zero) = some (some (Value.agg ((List.replicate 3 (0 : Nat)).map vI).toArray)) := by kernel_rfl
theorem Tryd.zv147 : (Tryd.prog.info? 147).map (·.zero) = some (some (Value.agg ((List.replicate 12 (0 : Nat)).map vI).toArray)) := by kernel_rfl
theorem Tryd.zv148 : (Tryd.prog.info? 148).map (·.zero) = some (some (Value.agg ((List.replicate 8 (0 : UInt64)).map vD).toArray)) := by kernel_rfl
theorem Tryd.zv150 : (Tryd.prog.info? 150).map (·.zero) = some (some (Value.agg ((List.replicate 80 (0 : UInt64)).map vD).toArray)) := by kernel_rfl
theorem Tryd.ok93 : CallOk Tryd.prog 93 := ⟨_, Tryd.func93, by kernel_rfl, by kernel_rfl⟩


/-- The low half of a word. -/
def Lo (A : UInt64) (a : UInt32) : Prop := A.toNat % 4294967296 = a.toNat
theorem Lo.emb (a : UInt32) : Lo a.toUInt64 a := by
  have := a.toNat_lt
  rw [Lo, UInt32.toNat_toUInt64]; omega
theorem Lo.add {A B : UInt64} {a b : UInt32} (h : Lo A a) (h' : Lo B b) : Lo (A + B) (a + b) := by
  unfold Lo at *
  rw [UInt64.toNat_add, UInt32.toNat_add]
  omega
theorem Lo.mask {A : UInt64} {a : UInt32} (h : Lo A a) : A &&& 4294967295 = a.toUInt64 := by
  apply UInt64.toNat_inj.1
  rw [UInt64.toNat_and, UInt32.toNat_toUInt64, show (4294967295 : UInt64).toNat = 2 ^ 32 - 1 from rfl, Nat.and_two_pow_sub_one_eq_mod]
  exact h
theorem shr64 (x : UInt32) (c : Nat) (hc : c < 32) : x.toUInt64 >>> UInt64.ofNat c = (x >>> UInt32.ofNat c).toUInt64 := by
  apply UInt64.toNat_inj.1
  rw [UInt64.toNat_shiftRight, UInt32.toNat_toUInt64, UInt32.toNat_toUInt64, UInt32.toNat_shiftRight, UInt32.toNat_ofNat', UInt64.toNat_ofNat']
  congr 1
  omega
theorem rot64 (x : UInt32) (n : Nat) (h0 : 0 < n) (hn : n < 32) : (x.toUInt64 >>> UInt64.ofNat n + x.toUInt64 <<< UInt64.ofNat (32 - n)) &&& 4294967295 = (rotl x (32 - n)).toUInt64 := by
  have hx := x.toNat_lt
  have hA : 0 < 2 ^ n := Nat.two_pow_pos n
  have hB : 0 < 2 ^ (32 - n) := Nat.two_pow_pos (32 - n)
  have hAB : 2 ^ n * 2 ^ (32 - n) = 4294967296 := by rw [← Nat.pow_add, show n + (32 - n) = 32 by omega]
  have hBl : 2 ^ (32 - n) ≤ 2147483648 := Nat.pow_le_pow_right (by decide) (show 32 - n ≤ 31 by omega)
  have e1 : (x.toUInt64 >>> UInt64.ofNat n).toNat = x.toNat / 2 ^ n := by
    rw [UInt64.toNat_shiftRight, UInt32.toNat_toUInt64, UInt64.toNat_ofNat', Nat.shiftRight_eq_div_pow]
    congr 2; omega
  have e2 : (x.toUInt64 <<< UInt64.ofNat (32 - n)).toNat = x.toNat * 2 ^ (32 - n) := by
    have : x.toNat * 2 ^ (32 - n) ≤ 4294967295 * 2147483648 := Nat.mul_le_mul (by omega) hBl
    rw [UInt64.toNat_shiftLeft, UInt32.toNat_toUInt64, UInt64.toNat_ofNat', show (32 - n) % 2 ^ 64 % 64 = 32 - n by omega, Nat.shiftLeft_eq, Nat.mod_eq_of_lt (by omega)]
  have hq : x.toNat / 2 ^ n < 2 ^ (32 - n) := by
    rw [Nat.div_lt_iff_lt_mul hA, Nat.mul_comm, hAB]; omega
  have hr : x.toNat % 2 ^ n < 2 ^ n := Nat.mod_lt _ hA
  have hxe : x.toNat = 2 ^ n * (x.toNat / 2 ^ n) + x.toNat % 2 ^ n := (Nat.div_add_mod _ _).symm
  generalize hQ : x.toNat / 2 ^ n = q at *
  generalize hR : x.toNat % 2 ^ n = r at *
  generalize hBg : 2 ^ (32 - n) = B at *
  generalize hAg : 2 ^ n = A at *
  have hxB : x.toNat * B = 4294967296 * q + r * B := by
    rw [hxe, Nat.add_mul, Nat.mul_right_comm, hAB]
  have hrB : r * B + q < 4294967296 := by
    have h1 : (r + 1) * B ≤ A * B := Nat.mul_le_mul_right B hr
    rw [Nat.add_mul, hAB] at h1
    omega
  apply Lo.mask
  unfold Lo
  rw [UInt64.toNat_add, e1, e2, hxB]
  have e3 : (x <<< UInt32.ofNat (32 - n)).toNat = r * B := by
    rw [UInt32.toNat_shiftLeft, UInt32.toNat_ofNat', show (32 - n) % 2 ^ 32 % 32 = 32 - n by omega, Nat.shiftLeft_eq, hBg, hxB]
    omega
  have e4 : (x >>> UInt32.ofNat (32 - (32 - n))).toNat = q := by
    rw [UInt32.toNat_shiftRight, UInt32.toNat_ofNat', show (32 - (32 - n)) % 2 ^ 32 % 32 = n by omega, Nat.shiftRight_eq_div_pow, hAg, hQ]
  rw [rotl, UInt32.toNat_or, e3, e4, ← hBg, ← Nat.shiftLeft_eq, ← Nat.shiftLeft_add_eq_or_of_lt (by rw [hBg]; exact hq), Nat.shiftLeft_eq, hBg]
  omega
theorem not64 (x : UInt32) : (4294967295 : UInt64) ^^^ x.toUInt64 = (x ^^^ (0 - 1)).toUInt64 := by
  rw [UInt32.toUInt64_xor, show (0 - 1 : UInt32).toUInt64 = 4294967295 from by decide, UInt64.xor_comm]
theorem hi64 (x : UInt64) : x >>> UInt64.ofNat 32 = (hi32 x).toUInt64 := by
  apply UInt64.toNat_inj.1
  have := x.toNat_lt
  rw [hi32, UInt32.toNat_toUInt64, UInt64.toNat_toUInt32, UInt64.toNat_shiftRight, show (UInt64.ofNat 32).toNat % 64 = 32 from rfl, Nat.shiftRight_eq_div_pow]
  omega
theorem ld_step {y : UInt32} {b : UInt8} (h : y.toNat < 16777216) : y.toUInt64 * 256 + b.toUInt64 = (y <<< UInt32.ofNat 8 ||| b.toUInt32).toUInt64 := by
  apply UInt64.toNat_inj.1
  have hb := b.toNat_lt
  rw [UInt32.toNat_toUInt64, sh8 _ _ h, UInt64.toNat_add, UInt64.toNat_mul, UInt32.toNat_toUInt64, UInt8.toNat_toUInt64]
  show (y.toNat * 256 % 2 ^ 64 + b.toNat) % 2 ^ 64 = _
  omega
theorem byte64 (x : UInt32) (s : Nat) (hs : s < 32) : (x.toUInt64 >>> UInt64.ofNat s).toUInt8 = (x >>> UInt32.ofNat s).toUInt8 := by
  rw [shr64 x s hs]
  apply UInt8.toNat_inj.1
  rw [UInt64.toNat_toUInt8, UInt32.toNat_toUInt64, UInt32.toNat_toUInt8]

theorem maj32 (a b c : UInt32) : a &&& b ||| b &&& c ||| a &&& c = a &&& b ^^^ a &&& c ^^^ b &&& c := by
  apply UInt32.toBitVec_inj.1
  simp only [UInt32.toBitVec_or, UInt32.toBitVec_and, UInt32.toBitVec_xor]
  apply BitVec.eq_of_getLsbD_eq
  intro i hi
  simp only [BitVec.getLsbD_or, BitVec.getLsbD_and, BitVec.getLsbD_xor]
  cases a.toBitVec.getLsbD i <;> cases b.toBitVec.getLsbD i <;> cases c.toBitVec.getLsbD i <;> rfl
theorem ch32 (e f g : UInt32) : e &&& f ||| (e ^^^ (0 - 1)) &&& g = e &&& f ^^^ (e ^^^ (0 - 1)) &&& g := by
  apply UInt32.toBitVec_inj.1
  simp only [UInt32.toBitVec_or, UInt32.toBitVec_and, UInt32.toBitVec_xor]
  apply BitVec.eq_of_getLsbD_eq
  intro i hi
  simp only [BitVec.getLsbD_or, BitVec.getLsbD_and, BitVec.getLsbD_xor]
  have hm : (0 - 1 : UInt32).toBitVec.getLsbD i = true := by
    have : (0 - 1 : UInt32).toBitVec = BitVec.allOnes 32 := by decide
    rw [this, BitVec.getLsbD_allOnes]
    simpa using hi
  rw [hm]
  cases e.toBitVec.getLsbD i <;> cases f.toBitVec.getLsbD i <;> cases g.toBitVec.getLsbD i <;> rfl
def v64 (x : UInt32) : Value := vD x.toUInt64
theorem at64 {l : List UInt32} {i : Nat} (h : i < l.length) : (l.map v64)[i]? = some (vD (l.getD i 0).toUInt64) := by
  rw [List.getElem?_map, List.getD_eq_getElem?_getD, List.getElem?_eq_getElem h]; rfl
theorem one64v (l : List UInt32) : ∀ u ∈ l.map v64, u.oneCell' = true := by
  intro u hu
  obtain ⟨x, _, rfl⟩ := List.mem_map.1 hu
  rfl
theorem set64 {l : List UInt32} {i : Nat} {x : UInt32} : (l.map v64).set i (vD x.toUInt64) = (l.set i x).map v64 := (List.map_set ..).symm
/-- Three turns. -/
def mixF (x : UInt32) (a b c : Nat) (s : Bool) : UInt32 := rotl x (32 - a) ^^^ rotl x (32 - b) ^^^ (if s then x >>> UInt32.ofNat c else rotl x (32 - c))
def CH (v : V8) : UInt32 := v.f &&& v.g ^^^ (v.f ^^^ (0 - 1)) &&& v.k
def MJ (v : V8) : UInt32 := v.a &&& v.c ^^^ v.a &&& v.d ^^^ v.c &&& v.d
theorem ch64 (v : V8) : v.f.toUInt64 &&& v.g.toUInt64 ||| (4294967295 ^^^ v.f.toUInt64) &&& v.k.toUInt64 = (CH v).toUInt64 := by
  rw [not64, ← UInt32.toUInt64_and, ← UInt32.toUInt64_and, ← UInt32.toUInt64_or, ch32, CH]
theorem mj64 (v : V8) : v.a.toUInt64 &&& v.c.toUInt64 ||| v.c.toUInt64 &&& v.d.toUInt64 ||| v.a.toUInt64 &&& v.d.toUInt64 = (MJ v).toUInt64 := by
  rw [← UInt32.toUInt64_and, ← UInt32.toUInt64_and, ← UInt32.toUInt64_and, ← UInt32.toUInt64_or, ← UInt32.toUInt64_or, maj32, MJ]
theorem t64 (v : V8) (kk w : UInt32) : (v.l.toUInt64 + (mixF v.f 6 11 25 false).toUInt64 + (CH v).toUInt64 + kk.toUInt64 + w.toUInt64) &&& 4294967295 = (tF v kk w).toUInt64 :=
  Lo.mask (((((Lo.emb _).add (Lo.emb _)).add (Lo.emb _)).add (Lo.emb _)).add (Lo.emb _))
theorem tu64 (v : V8) (kk w : UInt32) : ((tF v kk w).toUInt64 + ((mixF v.a 2 13 22 false).toUInt64 + (MJ v).toUInt64)) &&& 4294967295 = (tF v kk w + uF v).toUInt64 :=
  Lo.mask ((Lo.emb _).add ((Lo.emb _).add (Lo.emb _)))
theorem et64 (e t : UInt32) : (e.toUInt64 + t.toUInt64) &&& 4294967295 = (e + t).toUInt64 := Lo.mask ((Lo.emb _).add (Lo.emb _))
theorem w64 (m : List UInt32) (i : Nat) : ((m.getD i 0).toUInt64 + (m.getD (i + 9) 0).toUInt64 + (mixF (m.getD (i + 1) 0) 7 18 3 true).toUInt64 + (mixF (m.getD (i + 14) 0) 17 19 10 true).toUInt64) &&& 4294967295 = (m.getD i 0 + m.getD (i + 9) 0 + sg0 (m.getD (i + 1) 0) + sg1 (m.getD (i + 14) 0)).toUInt64 :=
  Lo.mask ((((Lo.emb _).add (Lo.emb _)).add (Lo.emb _)).add (Lo.emb _))
theorem fill8d (v : V8) : Instr.fill (fun i => some (i * 1, 1)) ((List.replicate 8 (0 : UInt64)).map vD).toArray [(0, vD v.a.toUInt64), (1, vD v.c.toUInt64), (2, vD v.d.toUInt64), (3, vD v.e.toUInt64), (4, vD v.f.toUInt64), (5, vD v.g.toUInt64), (6, vD v.k.toUInt64), (7, vD v.l.toUInt64)] = some ((toL v).map v64).toArray := by kernel_rfl
/-- A word that is being read has room. -/
theorem w4_bd (p : List UInt8) : ∀ i, i ≤ 64 → ((w4 p i).getD (i / 4) 0).toNat < 256 ^ (i % 4) ∧ ∀ q, i / 4 < q → ((w4 p i).getD q 0).toNat = 0
  | 0, _ => ⟨by show ((List.replicate 64 (0 : UInt32)).getD 0 0).toNat < 1; decide, fun q _ => by rw [w4, List.getD_eq_getElem?_getD, List.getElem?_replicate]; split <;> rfl⟩
  | i + 1, h => by
    obtain ⟨h1, h2⟩ := w4_bd p i (by omega)
    have hl := w4_len p i
    have hp : 256 ^ (i % 4) ≤ 256 ^ 3 := Nat.pow_le_pow_right (by decide) (by omega)
    have hb := (p.getD i 0).toNat_lt
    have hs := sh8 ((w4 p i).getD (i / 4) 0) (p.getD i 0) (by omega)
    have get : ∀ q, (w4 p (i + 1)).getD q 0 = if q = i / 4 then (w4 p i).getD (i / 4) 0 <<< UInt32.ofNat 8 ||| (p.getD i 0).toUInt32 else (w4 p i).getD q 0 := fun q => by
      rw [w4, List.getD_eq_getElem?_getD, List.getElem?_set]
      by_cases hq : i / 4 = q
      · rw [if_pos hq, if_pos (by omega), if_pos hq.symm]; rfl
      · rw [if_neg hq, if_neg (fun e => hq e.symm), List.getD_eq_getElem?_getD]
    refine ⟨?_, fun q hq => ?_⟩
    · rw [get]
      by_cases hc : (i + 1) / 4 = i / 4
      · rw [if_pos hc, hs, show (i + 1) % 4 = i % 4 + 1 by omega, Nat.pow_succ]
        omega
      · rw [if_neg hc, h2 _ (by omega)]
        exact Nat.pow_pos (by decide)
    · rw [get, if_neg (by omega)]
      exact h2 q (by omega)
theorem w4_room {p : List UInt8} {i : Nat} (h : i < 64) : ((w4 p i).getD (i / 4) 0).toNat < 16777216 := by
  have h1 := (w4_bd p i (by omega)).1
  have hp : 256 ^ (i % 4) ≤ 256 ^ 3 := Nat.pow_le_pow_right (by decide) (by omega)
  omega
/-! The text with its length. -/
def tl (n q : Nat) : List UInt8 := List.replicate (8 - q) 0 ++ (lenB n 8).drop (8 - q)
def TX (bl : List UInt8) (q : Nat) : List UInt8 := c1 bl (pz bl.length) ++ tl bl.length q
theorem tl_len (n q : Nat) (h : q ≤ 8) : (tl n q).length = 8 := by rw [tl, List.length_append, List.length_replicate, List.length_drop, lenB_len]; omega
theorem TX_len (bl : List UInt8) (q : Nat) (h : q ≤ 8) : (TX bl q).length = (c1 bl (pz bl.length)).length + 8 := by rw [TX, List.length_append, tl_len _ _ h]
theorem TX_zero (bl : List UInt8) : c1 bl (pz bl.length) ++ List.replicate 8 0 = TX bl 0 := by
  rw [TX, tl, List.drop_of_length_le (by rw [lenB_len]; exact Nat.le_refl _), List.append_nil]
theorem TX_pad (bl : List UInt8) : TX bl 8 = padF bl := rfl
theorem tl_set (n : Nat) : ∀ q, q < 8 → (tl n q).set (7 - q) ((UInt64.ofNat n * 8) >>> UInt64.ofNat (8 * q)).toUInt8 = tl n (q + 1)
  | 0, _ => rfl
  | 1, _ => rfl
  | 2, _ => rfl
  | 3, _ => rfl
  | 4, _ => rfl
  | 5, _ => rfl
  | 6, _ => rfl
  | 7, _ => rfl
  | q + 8, h => by omega
theorem TX_set (bl : List UInt8) (q : Nat) (h : q < 8) : (TX bl q).set ((TX bl q).length - 1 - q) ((UInt64.ofNat bl.length * 8) >>> UInt64.ofNat (8 * q)).toUInt8 = TX bl (q + 1) := by
  have hl := TX_len bl q (by omega)
  rw [hl, TX, List.set_append, if_neg (by omega), show (c1 bl (pz bl.length)).length + 8 - 1 - q - (c1 bl (pz bl.length)).length = 7 - q by omega, tl_set _ _ h, TX]
theorem own_set {l : List UInt8} {op : List Value} {i : Nat} {x : UInt8} (h : i < l.length) : (l.map vB ++ op).set i (vB x) = (l.set i x).map vB ++ op := by
  rw [List.set_append, if_pos (by rw [List.length_map]; exact h), List.map_set]
/-! What comes out. -/
def outA (h : List UInt32) : Nat → List UInt8
  | 0 => []
  | i + 1 => outA h i ++ [(h.getD (i / 4) 0 >>> UInt32.ofNat (24 - 8 * (i % 4))).toUInt8]
theorem outA_len (h : List UInt32) : ∀ i, (outA h i).length = i
  | 0 => rfl
  | i + 1 => by rw [outA, List.length_append, outA_len h i]; rfl
theorem outS_A (h : List UInt32) : ∀ i, i ≤ 32 → outS h i = outA h i ++ List.replicate (32 - i) 0
  | 0, _ => rfl
  | i + 1, hi => by
    rw [outS, outS_A h i (by omega), List.set_append, if_neg (by rw [outA_len]; omega), outA_len, Nat.sub_self, show 32 - i = (32 - (i + 1)) + 1 by omega, List.replicate_succ, List.set_cons_zero, outA, List.append_assoc]
    rfl
theorem outA_S (h : List UInt32) : outA h 32 = outS h 32 := by
  rw [outS_A h 32 (Nat.le_refl _)]; simp
/-! The first words. -/
def hq : Nat → List UInt64
  | 0 => startsL
  | i + 1 => (hq i).set i ((hq i).getD i 0 >>> UInt64.ofNat 32)
theorem hq_len : ∀ i, (hq i).length = 8
  | 0 => rfl
  | i + 1 => by rw [hq, List.length_set, hq_len i]
theorem hq8 : hq 8 = (h0 8).map UInt32.toUInt64 := by decide +kernel
theorem hq8v : (hq 8).map vD = (h0 8).map v64 := by rw [hq8, List.map_map]; rfl
theorem st_len : stepsL.length = 80 := rfl
def T12 : List Nat := [7, 18, 3, 17, 19, 10, 6, 11, 25, 2, 13, 22]
def T12b : List Nat := [1, 8, 7, 19, 61, 6, 14, 18, 41, 28, 34, 39]
theorem build_i3 (a b c : Nat) (w : World) : (Instr.build 64 #[(0, vI a), (1, vI b), (2, vI c)]).run Tryd.prog w = .ok (.agg [vI a, vI b, vI c].toArray) w :=
  run_buildArr (pl := [(0, vI a), (1, vI b), (2, vI c)]) Tryd.underlying64 Tryd.sz3 Tryd.zv64 rfl (by kernel_rfl)
theorem build_t12 (w : World) : (Instr.build 147 #[(0, .agg [vI 7, vI 18, vI 3].toArray), (1, .agg [vI 17, vI 19, vI 10].toArray), (2, .agg [vI 6, vI 11, vI 25].toArray), (3, .agg [vI 2, vI 13, vI 22].toArray)]).run Tryd.prog w = .ok (.agg (T12.map vI).toArray) w :=
  run_buildArr (pl := [(0, .agg [vI 7, vI 18, vI 3].toArray), (1, .agg [vI 17, vI 19, vI 10].toArray), (2, .agg [vI 6, vI 11, vI 25].toArray), (3, .agg [vI 2, vI 13, vI 22].toArray)]) Tryd.underlying147 Tryd.sz64 Tryd.zv147 rfl (by kernel_rfl)
theorem build_t12b (w : World) : (Instr.build 147 #[(0, .agg [vI 1, vI 8, vI 7].toArray), (1, .agg [vI 19, vI 61, vI 6].toArray), (2, .agg [vI 14, vI 18, vI 41].toArray), (3, .agg [vI 28, vI 34, vI 39].toArray)]).run Tryd.prog w = .ok (.agg (T12b.map vI).toArray) w :=
  run_buildArr (pl := [(0, .agg [vI 1, vI 8, vI 7].toArray), (1, .agg [vI 19, vI 61, vI 6].toArray), (2, .agg [vI 14, vI 18, vI 41].toArray), (3, .agg [vI 28, vI 34, vI 39].toArray)]) Tryd.underlying147 Tryd.sz64 Tryd.zv147 rfl (by kernel_rfl)
theorem one_I (l : List Nat) : ∀ u ∈ l.map vI, u.oneCell' = true := by
  intro u hu
  obtain ⟨x, _, rfl⟩ := List.mem_map.1 hu
  rfl
theorem one_D (l : List UInt64) : ∀ u ∈ l.map vD, u.oneCell' = true := by
  intro u hu
  obtain ⟨x, _, rfl⟩ := List.mem_map.1 hu
  rfl



theorem rturn_ok {x : UInt32} {n : Nat} {w0 : World} (h0 : 0 < n) (hn : n < 32) :
    Calls Tryd.prog 93 #[vD x.toUInt64, vI n, vI 32] w0 fun e w' => e = .returned (vD (rotl x (32 - n)).toUInt64) ∧ Ext w0 w' := by
  refine calls_start 26 Tryd.func93 rfl Tryd.ntmps93 rfl fun a hF => ?_
  have hS := St.refl w0
  refine wp_seq_k fun Kq1 hKq1 => ?_
  -- region 0 (ref.go:39)
  refine wp_region_lit ?_
  refine wpList_stp (stp_gv hF (wanted_none rfl) rfl rfl (gv_assign rfl (ev_const _ _)) fun a hF => ?_)
  refine wpList_nil ?_
  refine then_normal (hKq1 _ _ ?_)
  refine wp_seq_k fun Kq2 hKq2 => ?_
  refine wp_seq_k fun Kq3 hKq3 => ?_
  -- region 1 (ref.go:40)
  refine wp_region_lit ?_
  refine wpList_stp (stp_gv hF (wanted_none rfl) rfl rfl (gv_move rfl (hF.t rfl)) fun a hF => ?_)
  refine wpList_stp (stp_gv hF (wanted_none rfl) rfl rfl (gv_eqlF rfl (hF.t rfl) (ev_const _ _) (by decide)) fun a hF => ?_)
  refine wpList_nil ?_
  refine then_normal (hKq3 _ _ ?_)
  refine wp_cond_false (hF.t rfl) ?_
  refine wp_skip ?_
  refine then_normal (hKq2 _ _ ?_)
  refine wp_seq_k fun Kq4 hKq4 => ?_
  -- region 3 (ref.go:43)
  refine Fw.wp_region_draw (by kernel_rfl) fun w hx => ?_
  replace hS := hS.ext hx
  clear hx
  refine run_head0 (n := 10) _ hF (by kernel_rfl) rfl ?_
  refine dw_gv hF rfl (wanted_none rfl) rfl rfl (fun w hx => gv_move rfl (hF.t rfl)) fun a hF => ?_
  refine dw_gv hF rfl (wanted_none rfl) rfl rfl (fun w hx => gv_move rfl (hF.t rfl)) fun a hF => ?_
  refine dw_gv hF rfl (wanted_none rfl) rfl rfl (fun w hx => gv_d_shr rfl (hF.t rfl) (hF.t rfl) (by omega)) fun a hF => ?_
  refine dw_gv hF rfl (wanted_none rfl) rfl rfl (fun w hx => gv_move rfl (hF.t rfl)) fun a hF => ?_
  refine dw_gv hF rfl (wanted_none rfl) rfl rfl (fun w hx => gv_move rfl (hF.t rfl)) fun a hF => ?_
  refine dw_gv hF rfl (wanted_none rfl) rfl rfl (fun w hx => gv_nsub (m := 32) rfl rfl (hF.t rfl) (by omega) (by omega)) fun a hF => ?_
  refine dw_gv hF rfl (wanted_none rfl) rfl rfl (fun w hx => gv_d_shl rfl (hF.t rfl) (hF.t rfl) (by omega)) fun a hF => ?_
  refine dw_gv hF rfl (wanted_none rfl) rfl rfl (fun w hx => gv_d_add rfl (hF.t rfl) (hF.t rfl)) fun a hF => ?_
  refine dw_gv hF rfl (wanted_none rfl) rfl rfl (fun w hx => gv_d_and (n := 4294967295) rfl (hF.t rfl) rfl) fun a hF => ?_
  rw [rot64 x n h0 hn] at hF
  refine dw_gv hF rfl (wanted_none rfl) rfl rfl (fun w hx => gv_assign rfl (hF.t rfl)) fun a hF => ?_
  refine dw_nil fun a w hA hx => ?_
  replace hF := hA _ hF
  replace hS := hS.ext hx
  clear hA hx
  refine run_done (by decide) ?_
  refine then_normal (hKq4 _ _ ?_)
  refine wp_ret ?_
  refine ret1 (fn := Tryd.f93) (t := 6) hF rfl rfl ?_
  exact ⟨rfl, hS.toExt nw_nil⟩

theorem rmix_t {x : UInt32} {n1 n2 n3 : Nat} {w0 : World} (ha : 0 < n1 ∧ n1 < 32) (hb : 0 < n2 ∧ n2 < 32) (hc : 0 < n3 ∧ n3 < 32) :
    Calls Tryd.prog 86 #[vD x.toUInt64, .agg [vI n1, vI n2, vI n3].toArray, .bool true, vI 32] w0 fun e w' => e = .returned (vD (mixF x n1 n2 n3 true).toUInt64) ∧ Ext w0 w' := by
  refine calls_start 35 Tryd.func86 rfl Tryd.ntmps86 rfl fun a hF => ?_
  have hS := St.refl w0
  refine wp_seq_k fun Kq1 hKq1 => ?_
  -- region 0 (ref.go:47)
  refine wp_region_lit ?_
  refine wpList_stp (stp_box (cs := [vI n1, vI n2, vI n3]) hF (wanted_none rfl) rfl rfl rfl (hF.t rfl) rfl hS fun tb a w hF hS => ?_)
  refine wpList_stp (stp_gv hF (wanted_none rfl) rfl rfl (gv_assign rfl (ev_const _ _)) fun a hF => ?_)
  refine wpList_nil ?_
  refine then_normal (hKq1 _ _ ?_)
  refine wp_seq_k fun Kq2 hKq2 => ?_
  -- region 1 (ref.go:48)
  refine Fw.wp_region_draw (by kernel_rfl) fun w hx => ?_
  replace hS := hS.ext hx
  clear hx
  refine run_head0 (n := 12) _ hF (by kernel_rfl) rfl ?_
  refine dw_gv hF rfl (wanted_none rfl) rfl rfl (fun w hx => gv_move rfl (hF.t rfl)) fun a hF => ?_
  refine dw_gv hF rfl (wanted_none rfl) rfl rfl (fun w hx => gv_indexArr (q := 0) rfl Tryd.underlying64 Tryd.sz3 (hF.t rfl) rfl (by omega)) fun a hF => ?_
  refine dw_gv hF rfl (wanted_none rfl) rfl rfl (fun w hx => gv_load rfl Tryd.underlying3 rfl (hF.t rfl) (cell_ix (j := 0) ((hS.ext hx).cell (k := 0) rfl (rfl)) (by omega))) fun a hF => ?_
  refine dw_gv hF rfl (wanted_none rfl) rfl rfl (fun w hx => gv_move rfl (hF.t rfl)) fun a hF => ?_
  refine dw_call hF rfl (wanted_none rfl) rfl rfl Tryd.ok93 rfl (Evs.cons (hF.t rfl) (Evs.cons (hF.t rfl) (Evs.cons (hF.t rfl) Evs.nil))) (fun w hx => rturn_ok ha.1 ha.2) fun a hF => ?_
  refine dw_gv hF rfl (wanted_none rfl) rfl rfl (fun w hx => gv_move rfl (hF.t rfl)) fun a hF => ?_
  refine dw_gv hF rfl (wanted_none rfl) rfl rfl (fun w hx => gv_indexArr (q := 1) rfl Tryd.underlying64 Tryd.sz3 (hF.t rfl) rfl (by omega)) fun a hF => ?_
  refine dw_gv hF rfl (wanted_none rfl) rfl rfl (fun w hx => gv_load rfl Tryd.underlying3 rfl (hF.t rfl) (cell_ix (j := 1) ((hS.ext hx).cell (k := 0) rfl (rfl)) (by omega))) fun a hF => ?_
  refine dw_gv hF rfl (wanted_none rfl) rfl rfl (fun w hx => gv_move rfl (hF.t rfl)) fun a hF => ?_
  refine dw_call hF rfl (wanted_none rfl) rfl rfl Tryd.ok93 rfl (Evs.cons (hF.t rfl) (Evs.cons (hF.t rfl) (Evs.cons (hF.t rfl) Evs.nil))) (fun w hx => rturn_ok hb.1 hb.2) fun a hF => ?_
  refine dw_gv hF rfl (wanted_none rfl) rfl rfl (fun w hx => gv_d_xor rfl (hF.t rfl) (hF.t rfl)) fun a hF => ?_
  refine dw_gv hF rfl (wanted_none rfl) rfl rfl (fun w hx => gv_assign rfl (hF.t rfl)) fun a hF => ?_
  refine dw_nil fun a w hA hx => ?_
  replace hF := hA _ hF
  replace hS := hS.ext hx
  clear hA hx
  refine run_done (by decide) ?_
  refine then_normal (hKq2 _ _ ?_)
  refine wp_seq_k fun Kq3 hKq3 => ?_
  refine wp_seq_k fun Kq4 hKq4 => ?_
  -- region 2 (ref.go:49)
  refine wp_region_lit ?_
  refine wpList_stp (stp_gv hF (wanted_none rfl) rfl rfl (gv_move rfl (hF.t rfl)) fun a hF => ?_)
  refine wpList_nil ?_
  refine then_normal (hKq4 _ _ ?_)
  refine wp_cond_true (hF.t rfl) ?_
  refine wp_seq_k fun Kq5 hKq5 => ?_
  -- region 3 (ref.go:50)
  refine wp_region_lit ?_
  refine wpList_stp (stp_gv hF (wanted_none rfl) rfl rfl (gv_move rfl (hF.t rfl)) fun a hF => ?_)
  refine wpList_stp (stp_gv hF (wanted_none rfl) rfl rfl (gv_move rfl (hF.t rfl)) fun a hF => ?_)
  refine wpList_stp (stp_gv hF (wanted_none rfl) rfl rfl (gv_indexArr (q := 2) rfl Tryd.underlying64 Tryd.sz3 (hF.t rfl) rfl (by omega)) fun a hF => ?_)
  refine wpList_stp (stp_gv hF (wanted_none rfl) rfl rfl (gv_load rfl Tryd.underlying3 rfl (hF.t rfl) (cell_ix (j := 2) (hS.cell (k := 0) rfl (rfl)) (by omega))) fun a hF => ?_)
  refine wpList_stp (stp_gv hF (wanted_none rfl) rfl rfl (gv_d_shr rfl (hF.t rfl) (hF.t rfl) (by omega)) fun a hF => ?_)
  refine wpList_stp (stp_gv hF (wanted_none rfl) rfl rfl (gv_d_xor rfl (hF.t rfl) (hF.t rfl)) fun a hF => ?_)
  refine wpList_stp (stp_gv hF (wanted_none rfl) rfl rfl (gv_assign rfl (hF.t rfl)) fun a hF => ?_)
  refine wpList_nil ?_
  refine then_normal (hKq5 _ _ ?_)
  refine wp_ret ?_
  refine then_ret ?_
  refine ret1 (fn := Tryd.f86) (t := 8) hF rfl rfl ?_
  refine ⟨?_, hS.toExt (nw_cons rfl nw_nil)⟩
  rw [mixF, UInt32.toUInt64_xor, UInt32.toUInt64_xor]
  rw [if_pos rfl, ← shr64 x n3 hc.2]

theorem rmix_f {x : UInt32} {n1 n2 n3 : Nat} {w0 : World} (ha : 0 < n1 ∧ n1 < 32) (hb : 0 < n2 ∧ n2 < 32) (hc : 0 < n3 ∧ n3 < 32) :
    Calls Tryd.prog 86 #[vD x.toUInt64, .agg [vI n1, vI n2, vI n3].toArray, .bool false, vI 32] w0 fun e w' => e = .returned (vD (mixF x n1 n2 n3 false).toUInt64) ∧ Ext w0 w' := by
  refine calls_start 35 Tryd.func86 rfl Tryd.ntmps86 rfl fun a hF => ?_
  have hS := St.refl w0
  refine wp_seq_k fun Kq1 hKq1 => ?_
  -- region 0 (ref.go:47)
  refine wp_region_lit ?_
  refine wpList_stp (stp_box (cs := [vI n1, vI n2, vI n3]) hF (wanted_none rfl) rfl rfl rfl (hF.t rfl) rfl hS fun tb a w hF hS => ?_)
  refine wpList_stp (stp_gv hF (wanted_none rfl) rfl rfl (gv_assign rfl (ev_const _ _)) fun a hF => ?_)
  refine wpList_nil ?_
  refine then_normal (hKq1 _ _ ?_)
  refine wp_seq_k fun Kq2 hKq2 => ?_
  -- region 1 (ref.go:48)
  refine Fw.wp_region_draw (by kernel_rfl) fun w hx => ?_
  replace hS := hS.ext hx
  clear hx
  refine run_head0 (n := 12) _ hF (by kernel_rfl) rfl ?_
  refine dw_gv hF rfl (wanted_none rfl) rfl rfl (fun w hx => gv_move rfl (hF.t rfl)) fun a hF => ?_
  refine dw_gv hF rfl (wanted_none rfl) rfl rfl (fun w hx => gv_indexArr (q := 0) rfl Tryd.underlying64 Tryd.sz3 (hF.t rfl) rfl (by omega)) fun a hF => ?_
  refine dw_gv hF rfl (wanted_none rfl) rfl rfl (fun w hx => gv_load rfl Tryd.underlying3 rfl (hF.t rfl) (cell_ix (j := 0) ((hS.ext hx).cell (k := 0) rfl (rfl)) (by omega))) fun a hF => ?_
  refine dw_gv hF rfl (wanted_none rfl) rfl rfl (fun w hx => gv_move rfl (hF.t rfl)) fun a hF => ?_
  refine dw_call hF rfl (wanted_none rfl) rfl rfl Tryd.ok93 rfl (Evs.cons (hF.t rfl) (Evs.cons (hF.t rfl) (Evs.cons (hF.t rfl) Evs.nil))) (fun w hx => rturn_ok ha.1 ha.2) fun a hF => ?_
  refine dw_gv hF rfl (wanted_none rfl) rfl rfl (fun w hx => gv_move rfl (hF.t rfl)) fun a hF => ?_
  refine dw_gv hF rfl (wanted_none rfl) rfl rfl (fun w hx => gv_indexArr (q := 1) rfl Tryd.underlying64 Tryd.sz3 (hF.t rfl) rfl (by omega)) fun a hF => ?_
  refine dw_gv hF rfl (wanted_none rfl) rfl rfl (fun w hx => gv_load rfl Tryd.underlying3 rfl (hF.t rfl) (cell_ix (j := 1) ((hS.ext hx).cell (k := 0) rfl (rfl)) (by omega))) fun a hF => ?_
  refine dw_gv hF rfl (wanted_none rfl) rfl rfl (fun w hx => gv_move rfl (hF.t rfl)) fun a hF => ?_
  refine dw_call hF rfl (wanted_none rfl) rfl rfl Tryd.ok93 rfl (Evs.cons (hF.t rfl) (Evs.cons (hF.t rfl) (Evs.cons (hF.t rfl) Evs.nil))) (fun w hx => rturn_ok hb.1 hb.2) fun a hF => ?_
  refine dw_gv hF rfl (wanted_none rfl) rfl rfl (fun w hx => gv_d_xor rfl (hF.t rfl) (hF.t rfl)) fun a hF => ?_
  refine dw_gv hF rfl (wanted_none rfl) rfl rfl (fun w hx => gv_assign rfl (hF.t rfl)) fun a hF => ?_
  refine dw_nil fun a w hA hx => ?_
  replace hF := hA _ hF
  replace hS := hS.ext hx
  clear hA hx
  refine run_done (by decide) ?_
  refine then_normal (hKq2 _ _ ?_)
  refine wp_seq_k fun Kq3 hKq3 => ?_
  refine wp_seq_k fun Kq4 hKq4 => ?_
  -- region 2 (ref.go:49)
  refine wp_region_lit ?_
  refine wpList_stp (stp_gv hF (wanted_none rfl) rfl rfl (gv_move rfl (hF.t rfl)) fun a hF => ?_)
  refine wpList_nil ?_
  refine then_normal (hKq4 _ _ ?_)
  refine wp_cond_false (hF.t rfl) ?_
  refine wp_skip ?_
  refine then_normal (hKq3 _ _ ?_)
  refine wp_seq_k fun Kq5 hKq5 => ?_
  -- region 4 (ref.go:52)
  refine wp_region_lit ?_
  refine wpList_stp (stp_gv hF (wanted_none rfl) rfl rfl (gv_move rfl (hF.t rfl)) fun a hF => ?_)
  refine wpList_stp (stp_gv hF (wanted_none rfl) rfl rfl (gv_move rfl (hF.t rfl)) fun a hF => ?_)
  refine wpList_stp (stp_gv hF (wanted_none rfl) rfl rfl (gv_indexArr (q := 2) rfl Tryd.underlying64 Tryd.sz3 (hF.t rfl) rfl (by omega)) fun a hF => ?_)
  refine wpList_stp (stp_gv hF (wanted_none rfl) rfl rfl (gv_load rfl Tryd.underlying3 rfl (hF.t rfl) (cell_ix (j := 2) (hS.cell (k := 0) rfl (rfl)) (by omega))) fun a hF => ?_)
  refine wpList_stp (stp_gv hF (wanted_none rfl) rfl rfl (gv_move rfl (hF.t rfl)) fun a hF => ?_)
  refine wpList_stp (stp_call hF (wanted_none rfl) rfl rfl Tryd.ok93 rfl (Evs.cons (hF.t rfl) (Evs.cons (hF.t rfl) (Evs.cons (hF.t rfl) Evs.nil))) (rturn_ok hc.1 hc.2) fun e w h => ?_)
  obtain ⟨rfl, hx⟩ := h
  refine ⟨_, rfl, fun a hF => ?_⟩
  replace hS := hS.ext hx
  clear hx
  refine wpList_stp (stp_gv hF (wanted_none rfl) rfl rfl (gv_d_xor rfl (hF.t rfl) (hF.t rfl)) fun a hF => ?_)
  refine wpList_stp (stp_gv hF (wanted_none rfl) rfl rfl (gv_assign rfl (hF.t rfl)) fun a hF => ?_)
  refine wpList_nil ?_
  refine then_normal (hKq5 _ _ ?_)
  refine wp_ret ?_
  refine ret1 (fn := Tryd.f86) (t := 8) hF rfl rfl ?_
  refine ⟨?_, hS.toExt (nw_cons rfl nw_nil)⟩
  rw [mixF, UInt32.toUInt64_xor, UInt32.toUInt64_xor]
  rw [if_neg Bool.false_ne_true]

theorem squares_ok {w0 : World} :
    Calls Tryd.prog 84 #[] w0 fun e w' => e = .returned (.agg (startsL.map vD).toArray) ∧ Ext w0 w' := by
  refine calls_start 2 Tryd.func84 rfl Tryd.ntmps84 rfl fun a hF => ?_
  have hS := St.refl w0
  refine wp_seq_k fun Kq1 hKq1 => ?_
  -- region 0 (ref.go:31)
  refine wp_region_lit ?_
  refine wpList_stp (stp_alloc hF (wanted_none rfl) rfl rfl rfl Tryd.zv148 rfl hS fun o a w hF hS => ?_)
  refine wpList_nil ?_
  refine then_normal (hKq1 _ _ ?_)
  refine wp_seq_k fun Kq2 hKq2 => ?_
  -- region 1 (ref.go:32)
  refine wp_region_lit ?_
  refine wpList_stp (stp_gv hF (wanted_none rfl) rfl rfl (gv_build (pl := (List.range 8).zip (startsL.map vD)) rfl (by kernel_rfl) (run_buildArr (cs := (startsL.map vD).toArray) Tryd.underlying148 Tryd.sz76 Tryd.zv148 rfl (by kernel_rfl))) fun a hF => ?_)
  refine wpList_stp (stp_storeAll hF (wanted_none rfl) rfl rfl (Tryd.sz148.trans (congrArg some (rfl))) (hF.t rfl) (hF.t rfl) (one_D _) hS (k := 0) rfl (rfl) fun w hS => ?_)
  refine wpList_nil ?_
  refine then_normal (hKq2 _ _ ?_)
  refine wp_ret ?_
  refine retCell (fn := Tryd.f84) hF rfl Tryd.underlying148 rfl (Tryd.sz148.trans (congrArg some rfl)) rfl hS (k := 0) rfl ⟨rfl, hS.toExt (nw_cons rfl nw_nil)⟩

theorem roots_ok {w0 : World} :
    Calls Tryd.prog 85 #[] w0 fun e w' => e = .returned (.agg (stepsL.map vD).toArray) ∧ Ext w0 w' := by
  refine calls_start 2 Tryd.func85 rfl Tryd.ntmps85 rfl fun a hF => ?_
  have hS := St.refl w0
  refine wp_seq_k fun Kq1 hKq1 => ?_
  -- region 0 (ref.go:5)
  refine wp_region_lit ?_
  refine wpList_stp (stp_alloc hF (wanted_none rfl) rfl rfl rfl Tryd.zv150 rfl hS fun o a w hF hS => ?_)
  refine wpList_nil ?_
  refine then_normal (hKq1 _ _ ?_)
  refine wp_seq_k fun Kq2 hKq2 => ?_
  -- region 1 (ref.go:6)
  refine wp_region_lit ?_
  refine wpList_stp (stp_gv hF (wanted_none rfl) rfl rfl (gv_build (pl := (List.range 80).zip (stepsL.map vD)) rfl (by kernel_rfl) (run_buildArr (cs := (stepsL.map vD).toArray) Tryd.underlying150 Tryd.sz76 Tryd.zv150 rfl (by kernel_rfl))) fun a hF => ?_)
  refine wpList_stp (stp_storeAll hF (wanted_none rfl) rfl rfl (Tryd.sz150.trans (congrArg some (rfl))) (hF.t rfl) (hF.t rfl) (one_D _) hS (k := 0) rfl (rfl) fun w hS => ?_)
  refine wpList_nil ?_
  refine then_normal (hKq2 _ _ ?_)
  refine wp_ret ?_
  refine retCell (fn := Tryd.f85) hF rfl Tryd.underlying150 rfl (Tryd.sz150.trans (congrArg some rfl)) rfl hS (k := 0) rfl ⟨rfl, hS.toExt (nw_cons rfl nw_nil)⟩


end Go.Proofs.YtfhalnobaeogkaaDoor
