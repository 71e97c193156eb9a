/- What is proved: the model's append, for any operand whose cells are known. And what follows from it: the model's append of zeros; what an append puts behind. -/
import Derived.Test.YtdfkjafndhfljaaGreatDoorZ1
import Derived.Laws.Append
set_option linter.unusedVariables false
set_option linter.unusedSimpArgs false
namespace Go.Ev
open Go Go.Fw

section
variable {P : Program} {w : World}
def isIntD : TypeDesc → Bool
  | .int _ => true
  | _ => false
set_option maxHeartbeats 4000000 in
/-- There is room. -/
theorem run_app_room {t t1 e n c k sz : Nat} {ty : TypeId} {d1 : TypeDesc} {T : Array TypeId} {A cs : Array Value} {b : Addr} {x : Value} {w' : World} (ht : P.underlying t = some (.slice e)) (hs : (P.info? e).map (·.size) = some sz) (hT : T[0]? = some t) (hT1 : T[1]? = some t1) (ht1 : P.underlying t1 = some d1) (hd : isIntD d1 = false)
    (hA : A[0]? = some (.slice (some b) n c)) (hA1 : A[1]? = some x) (hk : (Builtin.lenOf x).run P w = .ok k w) (hcs : (Builtin.firstCells sz k x).run P w = .ok cs w) (hroom : n + k ≤ c) (hst : (storeCells (b.add (n * sz)) cs.toList).run P w = .ok () w') :
    (Builtin.append_ T ty A).run P w = .ok (.slice (some b) (n + k) c) w' := by
  cases d1 <;> first | (cases hd; done) | simp [Builtin.append_, hT, hT1, hA, hA1, run_und ht, run_und ht1, Fw.run_sizeOf hs, hk, hcs, hroom, hst]
set_option maxHeartbeats 4000000 in
/-- There is none. -/
theorem run_app_grow {t t1 e n c k : Nat} {i : TypeInfo} {z : Value} {ty : TypeId} {d1 : TypeDesc} {T : Array TypeId} {A olds news : Array Value} {b : Option Addr} {x : Value} (ht : P.underlying t = some (.slice e)) (hi : P.info? e = some i) (hz : i.zero = some z) (hT : T[0]? = some t) (hT1 : T[1]? = some t1) (ht1 : P.underlying t1 = some d1) (hd : isIntD d1 = false)
    (hA : A[0]? = some (.slice b n c)) (hA1 : A[1]? = some x) (hk : (Builtin.lenOf x).run P w = .ok k w) (ho : (Builtin.firstCells i.size n (.slice b n c)).run P w.drew = .ok olds w.drew) (hcs : (Builtin.firstCells i.size k x).run P w.drew = .ok news w.drew) (hroom : c < n + k) (h63 : n + k ≤ 9223372036854775807) (hfit : Builtin.nextslicecap (n + k) c * i.bytes ≤ 281474976710656) :
    (Builtin.append_ T ty A).run P w = .ok (.slice (some ⟨w.heap.size, 0, none⟩) (n + k) (grownCap w (n + k) c e)) (w.drew.alloc (.cells (olds ++ news ++ Builtin.zeroCells z.cells (grownCap w (n + k) c e - (n + k))) e)) := by
  have hn : ¬ (n + k ≤ c) := by omega
  have h63' : ¬ (9223372036854775807 < ((n : Int) + (k : Int))) := by omega
  have h48' : ¬ (281474976710656 < Builtin.nextslicecap (n + k) c * i.bytes) := by omega
  cases d1 <;> first | (cases hd; done) | (simp [Builtin.append_, hT, hT1, hA, hA1, run_und ht, run_und ht1, sizeOf, typeInfo, zeroValue, hi, hz, hk, hn, h63', h48', Question.forced, hcs, ho, newRow, grownCap])
set_option maxHeartbeats 4000000 in
/-- Nothing is appended. -/
theorem run_app_zero {t t1 e n c z : Nat} {ty : TypeId} {d1 : TypeDesc} {T : Array TypeId} {A : Array Value} {B : Option Addr} {u : Value} (ht : P.underlying t = some (.slice e)) (hs : (P.info? e).map (·.size) = some z) (hT : T[0]? = some t) (hT1 : T[1]? = some t1) (ht1 : P.underlying t1 = some d1) (hd : isIntD d1 = false)
    (hA : A[0]? = some (.slice B n c)) (hA1 : A[1]? = some u) (h1 : (Builtin.lenOf u).run P w = .ok 0 w) (h2 : (Builtin.firstCells z 0 u).run P w = .ok #[] w) (hn : n ≤ c) : (Builtin.append_ T ty A).run P w = .ok (.slice B n c) w := by
  have h3 : ∀ b : Addr, (storeCells b []).run P w = .ok () w := fun b => rfl
  cases d1 <;> first | (cases hd; done) | (cases B <;> simp [Builtin.append_, hT, hT1, hA, hA1, run_und ht, run_und ht1, Fw.run_sizeOf hs, h1, h2, hn, h3])
end
end Go.Ev
set_option linter.unusedVariables false
set_option linter.unusedSimpArgs false
namespace Go.Ev
open Go Go.Fw

section
variable {P : Program} {w : World}
/-- Zeros behind a slice: the cells. -/
theorem zeroCells_none {z : Array Value} {k sz : Nat} (hz : z.size = sz) (h : k * sz = 0) : Builtin.zeroCells z k = #[] := by
  have : (Builtin.zeroCells z k).size = 0 := by simp [Builtin.zeroCells, hz, h]
  exact Array.eq_empty_of_size_eq_zero this
theorem wrap_nat {k : Nat} (h : k ≤ 140737488355328) : IntKind.i64.wrap (k : Int) = (k : Int) := by
  simp only [IntKind.wrap, IntKind.bits, IntKind.signed]
  have : ((BitVec.ofInt 64 (k : Int)).toInt : Int) = k := by
    rw [BitVec.toInt_ofInt]
    simp only [Int.bmod]
    omega
  first | simpa using this | (simp; omega)
set_option maxHeartbeats 4000000 in
set_option maxRecDepth 4000 in
theorem run_appz_room {t t1 e n c k : Nat} {kk k2 : IntKind} {i : TypeInfo} {z : Value} {ty : TypeId} {T : Array TypeId} {A : Array Value} {b : Addr} {w' : World} (ht : P.underlying t = some (.slice e)) (hi : P.info? e = some i) (hz : i.zero = some z) (hzs : z.cells.size = i.size) (hT : T[0]? = some t) (hT1 : T[1]? = some t1) (ht1 : P.underlying t1 = some (.int kk))
    (hA : A[0]? = some (.slice (some b) n c)) (hA1 : A[1]? = some (.int k2 (k : Int))) (hk : k ≤ 140737488355328) (hb : i.bytes * k ≤ 140737488355328) (hroom : n + k ≤ c) (hst : (storeCells (b.add (n * i.size)) (Builtin.zeroCells z.cells k).toList).run P w = .ok () w') :
    (Builtin.append_ T ty A).run P w = .ok (.slice (some b) (n + k) c) w' := by
  have hw := wrap_nat hk
  have h0 : ¬ ((k : Int) < 0) := by omega
  have hbb : ¬ ((281474976710656 : Int) < (k : Int) * (i.bytes : Int)) := by
    have : ((i.bytes * k : Nat) : Int) ≤ 140737488355328 := by omega
    rw [Int.natCast_mul, Int.mul_comm] at this
    omega
  by_cases h : k * i.size = 0
  · rw [zeroCells_none hzs h] at hst
    simp [Builtin.append_, hT, hT1, hA, hA1, run_und ht, run_und ht1, sizeOf, typeInfo, zeroValue, hi, hz, asInt, asIntOf, hw, h0, hbb, h, hroom, hst]
  · simp [Builtin.append_, hT, hT1, hA, hA1, run_und ht, run_und ht1, sizeOf, typeInfo, zeroValue, hi, hz, asInt, asIntOf, hw, h0, hbb, h, hroom, hst]
set_option maxHeartbeats 4000000 in
set_option maxRecDepth 4000 in
theorem run_appz_grow {t t1 e n c k : Nat} {kk k2 : IntKind} {i : TypeInfo} {z : Value} {ty : TypeId} {T : Array TypeId} {A olds : Array Value} {b : Option Addr} (ht : P.underlying t = some (.slice e)) (hi : P.info? e = some i) (hz : i.zero = some z) (hzs : z.cells.size = i.size) (hT : T[0]? = some t) (hT1 : T[1]? = some t1) (ht1 : P.underlying t1 = some (.int kk))
    (hA : A[0]? = some (.slice b n c)) (hA1 : A[1]? = some (.int k2 (k : Int))) (hk : k ≤ 140737488355328) (hb : i.bytes * k ≤ 140737488355328) (ho : (Builtin.firstCells i.size n (.slice b n c)).run P w.drew = .ok olds w.drew) (hroom : c < n + k) (h63 : n + k ≤ 9223372036854775807) (hfit : Builtin.nextslicecap (n + k) c * i.bytes ≤ 281474976710656) :
    (Builtin.append_ T ty A).run P w = .ok (.slice (some ⟨w.heap.size, 0, none⟩) (n + k) (grownCap w (n + k) c e)) (w.drew.alloc (.cells (olds ++ Builtin.zeroCells z.cells k ++ Builtin.zeroCells z.cells (grownCap w (n + k) c e - (n + k))) e)) := by
  have hw := wrap_nat hk
  have h0 : ¬ ((k : Int) < 0) := by omega
  have hbb : ¬ ((281474976710656 : Int) < (k : Int) * (i.bytes : Int)) := by
    have : ((i.bytes * k : Nat) : Int) ≤ 140737488355328 := by omega
    rw [Int.natCast_mul, Int.mul_comm] at this
    omega
  have hn : ¬ (n + k ≤ c) := by omega
  have h63' : ¬ (9223372036854775807 < ((n : Int) + (k : Int))) := by omega
  have h48' : ¬ (281474976710656 < Builtin.nextslicecap (n + k) c * i.bytes) := by omega
  by_cases h : k * i.size = 0
  · rw [zeroCells_none hzs h]
    simp [Builtin.append_, hT, hT1, hA, hA1, run_und ht, run_und ht1, sizeOf, typeInfo, zeroValue, hi, hz, asInt, asIntOf, hw, h0, hbb, h, hn, h63', h48', Question.forced, ho, newRow, grownCap]
  · simp [Builtin.append_, hT, hT1, hA, hA1, run_und ht, run_und ht1, sizeOf, typeInfo, zeroValue, hi, hz, asInt, asIntOf, hw, h0, hbb, h, hn, h63', h48', Question.forced, ho, newRow, grownCap]
set_option maxHeartbeats 4000000 in
set_option maxRecDepth 4000 in
theorem run_appz_zero {t t1 e n c z : Nat} {kk k2 : IntKind} {i : TypeInfo} {ty : TypeId} {T : Array TypeId} {A : Array Value} {B : Option Addr} (ht : P.underlying t = some (.slice e)) (hi : P.info? e = some i) (hT : T[0]? = some t) (hT1 : T[1]? = some t1) (ht1 : P.underlying t1 = some (.int kk))
    (hA : A[0]? = some (.slice B n c)) (hA1 : A[1]? = some (.int k2 ((0 : Nat) : Int))) (hn : n ≤ c) : (Builtin.append_ T ty A).run P w = .ok (.slice B n c) w := by
  have hw : IntKind.i64.wrap 0 = 0 := by decide
  have h3 : ∀ b : Addr, (storeCells b []).run P w = .ok () w := fun b => rfl
  cases B <;> simp [Builtin.append_, hT, hT1, hA, hA1, run_und ht, run_und ht1, sizeOf, typeInfo, hi, asInt, asIntOf, hw, hn, h3]
/-- What an append puts behind: so many elements, these cells. -/
structure Src (P : Program) (w : World) (T : Array TypeId) (ty : TypeId) (A : Array Value) (e : TypeId) (ti : TypeInfo) (zv : Value) (k : Nat) (cs : Array Value) : Prop where
  room : ∀ (b : Addr) (n c : Nat) (w' : World), A[0]? = some (.slice (some b) n c) → n + k ≤ c → (storeCells (b.add (n * ti.size)) cs.toList).run P w = .ok () w' → (Builtin.append_ T ty A).run P w = .ok (.slice (some b) (n + k) c) w'
  grow : ∀ (b : Option Addr) (n c : Nat) (olds : Array Value), A[0]? = some (.slice b n c) → (Builtin.firstCells ti.size n (.slice b n c)).run P w.drew = .ok olds w.drew → c < n + k → n + k ≤ 9223372036854775807 → Builtin.nextslicecap (n + k) c * ti.bytes ≤ 281474976710656 →
    (Builtin.append_ T ty A).run P w = .ok (.slice (some ⟨w.heap.size, 0, none⟩) (n + k) (grownCap w (n + k) c e)) (w.drew.alloc (.cells (olds ++ cs ++ Builtin.zeroCells zv.cells (grownCap w (n + k) c e - (n + k))) e))
end
end Go.Ev
