/- What is proved: the plain law of a vault beside its reference: a half's bytes block by block; what a save leaves. -/
import Derived.Test.YtfhalnobaeogkaaDoorProg
import Derived.Test.YtfhalnobaeogkaaDoorFwSep
import Derived.KernelRfl
import Derived.Test.YtfhalnobaeogkaaDoorFwSto
import Derived.Test.YtfhalnobaeogkaaDoorFwVlt
import Derived.Test.YtfhalnobaeogkaaDoorFwApp
import Derived.Test.YtfhalnobaeogkaaDoorFwWord
import Derived.Test.YtfhalnobaeogkaaDoorFwPkt
import Derived.Test.YtfhalnobaeogkaaDoorFwTok
import Derived.Test.YtfhalnobaeogkaaDoorDig
import Derived.Test.YtfhalnobaeogkaaDoorSum
import Derived.Test.YtfhalnobaeogkaaDoorWire
import Derived.Test.YtfhalnobaeogkaaDoorPktW
import Derived.Test.YtfhalnobaeogkaaDoorPktR
import Derived.Test.YtfhalnobaeogkaaDoorWireA
import Derived.Test.YtfhalnobaeogkaaDoorDisk
import Derived.Test.YtfhalnobaeogkaaDoorFwZer
import Derived.Test.YtfhalnobaeogkaaDoorFwSeq
import Derived.Test.YtfhalnobaeogkaaDoorWireA
import Derived.Test.YtfhalnobaeogkaaDoorHead
import Derived.Test.YtfhalnobaeogkaaDoorHalf
import Derived.Test.YtfhalnobaeogkaaDoorOpen
import Derived.Test.YtfhalnobaeogkaaDoorSave
import Derived.Test.YtfhalnobaeogkaaDoorVPure
import Derived.Test.YtfhalnobaeogkaaDoorRefH
import Derived.Test.YtfhalnobaeogkaaDoorRefSum
import Derived.Test.YtfhalnobaeogkaaDoorRefCur
import Derived.Test.YtfhalnobaeogkaaDoorRefBy
import Derived.Test.YtfhalnobaeogkaaDoorRefIm
import Derived.Test.YtfhalnobaeogkaaDoorRefHf
import Derived.Test.YtfhalnobaeogkaaDoorRefNw
import Derived.Test.YtfhalnobaeogkaaDoorRefLaw
import Derived.Test.YtfhalnobaeogkaaDoorLawVN
import Derived.Test.YtfhalnobaeogkaaDoorLawVF
import Derived.Test.YtfhalnobaeogkaaDoorFwFun
import Derived.Test.YtfhalnobaeogkaaDoorVCrash
set_option linter.unusedVariables false
set_option linter.unusedSimpArgs false
namespace Go.Proofs.YtfhalnobaeogkaaDoor
open Go Go.RowKit Go.Fw




theorem stTake {w0 w : World} {H : List Ent} (h : St w0 w H) (k : Nat) (hn : ∀ e ∈ H.drop k, e.nw = true) : St w0 w (H.take k) := by
  have hm : ∀ e ∈ H.take k, e ∈ H := fun e he => List.mem_of_mem_take he
  refine ⟨h.os, h.tape, h.output, h.size, fun b hb hne => h.old b hb fun e he hf => ?_, fun e he => h.has e (hm e he), fun e he => h.new e (hm e he), fun i j ei ej b hi hj h1 h2 => ?_⟩
  · rcases List.mem_append.1 ((List.take_append_drop k H).symm ▸ he) with h1 | h1
    · exact hne e h1 hf
    · rw [hn e h1] at hf; cases hf
  · rw [List.getElem?_take] at hi hj
    split at hi
    · split at hj
      · exact h.once i j ei ej b hi hj h1 h2
      · cases hj
    · cases hi
theorem rec3r : Rec3 Tryd.prog 75 9 4 := ⟨by kernel_rfl, by kernel_rfl, by kernel_rfl, Tryd.underlying9, Tryd.underlying4, by kernel_rfl⟩

theorem fuel_okk {D : Dk} {n : Nat} {i j : Int} (h : DkOk n D) (hi : i ≤ 9223372036854775807) : DkOk n (fuelF D i j) := by
  obtain ⟨h1, h2, h3, h4, h5, h6⟩ := h
  exact ⟨h1, h2, h3, by show -1 ≤ max i (-1); omega, by show max i (-1) ≤ _; omega, by show (max 0 (min j 64)).toNat ≤ 64; omega⟩

/-! ### A half's bytes, block by block -/
theorem img_fits {g : UInt64} {b : List UInt8} {n : Nat} (hn : 4 ≤ n) : 64 * (n / 2) < (imgF g b).length ↔ (n / 2 - 1) * 64 < b.length := by
  rw [imgF_len, padI]; omega
theorem img_cnt (g : UInt64) (b : List UInt8) : (imgF g b).length / 64 = cntF b + 1 := by
  rw [imgF_len, padI, cntF]; omega
theorem img_head (g : UInt64) (b : List UInt8) : (imgF g b).take 64 = headF g b := by
  rw [imgF, List.append_assoc, List.take_left' (headF_len g b)]
theorem img_chunk {g : UInt64} {b : List UInt8} {j : Nat} (h : j < cntF b) : ((imgF g b).take (64 * (j + 1) + 64)).drop (64 * (j + 1)) = chunkF b j := by
  have hj : 64 * j < b.length := by unfold cntF at h; omega
  rw [List.drop_take, show 64 * (j + 1) + 64 - 64 * (j + 1) = 64 by omega, imgF, List.append_assoc, List.drop_append, headF_len, List.drop_of_length_le (by rw [headF_len]; omega), List.nil_append, show 64 * (j + 1) - 64 = 64 * j by omega]
  rw [List.drop_append_of_le_length (by omega), List.take_append, chunkF]
  congr 1
  rw [List.length_drop, List.take_replicate, List.drop_replicate]
  congr 1
  unfold padI
  omega
/-- So many blocks, written while it goes well. -/
def shC (n base : Nat) (b : List UInt8) (D : Dk) : Nat → Nat × Dk
  | 0 => (0, D)
  | q + 1 => if (shC n base b D q).1 = 0 then wrF (shC n base b D q).2 n ((base + q : Nat) : Int) (chunkF b q) else shC n base b D q
theorem shC_go {n base : Nat} {b : List UInt8} {D : Dk} {q : Nat} (h : (shC n base b D q).1 = 0) : shC n base b D (q + 1) = wrF (shC n base b D q).2 n ((base + q : Nat) : Int) (chunkF b q) := by rw [shC, if_pos h]
theorem shC_stay {n base : Nat} {b : List UInt8} {D : Dk} {q : Nat} (h : ¬ (shC n base b D q).1 = 0) : shC n base b D (q + 1) = shC n base b D q := by rw [shC, if_neg h]
theorem shC_save (n base : Nat) (b : List UInt8) (D : Dk) : ∀ q f, saveL n base b (f + q) 0 D = if (shC n base b D q).1 = 0 then saveL n base b f q (shC n base b D q).2 else shC n base b D q
  | 0, f => by rw [if_pos (by rfl)]; rfl
  | q + 1, f => by
    rw [show f + (q + 1) = f + 1 + q by omega, shC_save n base b D q (f + 1)]
    by_cases h : (shC n base b D q).1 = 0
    · rw [if_pos h, saveL, shC_go h]
    · rw [if_neg h, shC_stay h, if_neg h]
theorem shC_all (n base : Nat) (b : List UInt8) (D : Dk) (q : Nat) : saveL n base b q 0 D = shC n base b D q := by
  have := shC_save n base b D q 0
  rw [Nat.zero_add] at this
  rw [this]
  split
  · rename_i h
    show (0, (shC n base b D q).2) = _
    rw [← h]
  · rfl
theorem wr_code {D : Dk} {n i : Nat} {x : List UInt8} (hi : i < n) : (wrF D n (i : Int) x).1 = 0 ∨ (wrF D n (i : Int) x).1 = 20 := by
  unfold wrF
  rw [if_neg (by omega)]
  split
  · exact .inr rfl
  · split
    · exact .inr rfl
    · exact .inl rfl
theorem shC_ok {n base : Nat} {b : List UInt8} {D : Dk} (hK : DkOk n D) : ∀ q, DkOk n (shC n base b D q).2
  | 0 => hK
  | q + 1 => by
    by_cases h : (shC n base b D q).1 = 0
    · rw [shC_go h]; exact wrF_ok (shC_ok hK q) (chunkF_len _ _)
    · rw [shC_stay h]; exact shC_ok hK q
theorem shC_code {n base : Nat} {b : List UInt8} {D : Dk} : ∀ q, base + q ≤ n → (shC n base b D q).1 = 0 ∨ (shC n base b D q).1 = 20
  | 0, _ => .inl rfl
  | q + 1, hq => by
    by_cases h : (shC n base b D q).1 = 0
    · rw [shC_go h]; exact wr_code (by omega)
    · rw [shC_stay h]; exact shC_code q (by omega)
theorem openF_f {l : List UInt8} {n : Nat} (h : (openF l n).f = false) : openF l n = ⟨0, 1, rc0, false⟩ := by
  by_cases h0 : (halfF l n 0).2.2 = true
  · have e0 : openStep l n 0 ⟨0, 1, rc0, false⟩ = ⟨(halfF l n 0).2.1, 0, (halfF l n 0).1, true⟩ := if_pos ⟨h0, .inl (by decide)⟩
    rw [open_two, e0, openStep] at h
    split at h <;> cases h
  · have h0' : (halfF l n 0).2.2 = false := by simpa using h0
    have e0 : openStep l n 0 ⟨0, 1, rc0, false⟩ = ⟨0, 1, rc0, false⟩ := if_neg (by rw [h0']; exact fun h => Bool.false_ne_true h.1)
    by_cases h1 : (halfF l n 1).2.2 = true
    · have e1 : openStep l n 1 ⟨0, 1, rc0, false⟩ = ⟨(halfF l n 1).2.1, 1, (halfF l n 1).1, true⟩ := if_pos ⟨h1, .inl (by decide)⟩
      rw [open_two, e0, e1] at h
      cases h
    · exact open_none h0' (by simpa using h1)
/-! ### What a save leaves -/
theorem save_full {V : Vt} {D : Dk} {n : Nat} {a c : List UInt8} {p : Bool} (hn : 4 ≤ n) (h : (64 * (n / 2) < (imgF (V.g + 1) (recB a c p)).length ∨ 16384 < a.length) ∨ 16384 < c.length) : saveF V D n ⟨a, c, p⟩ = (22, V, D) := by
  rw [img_fits hn] at h
  exact if_pos h
theorem save_fits {V : Vt} {D : Dk} {n : Nat} {a c : List UInt8} {p : Bool} (hn : 4 ≤ n) (h : ¬ ((64 * (n / 2) < (imgF (V.g + 1) (recB a c p)).length ∨ 16384 < a.length) ∨ 16384 < c.length)) : saveF V D n ⟨a, c, p⟩ = savB V D n (recB a c p) := by
  rw [img_fits hn] at h
  exact if_neg h
theorem sav_ok {V : Vt} {D : Dk} {n : Nat} {b : List UInt8} (h : (shC n ((1 - V.k) * (n / 2) + 1) b D (cntF b)).1 = 0) : savB V D n b = if (wrF (shC n ((1 - V.k) * (n / 2) + 1) b D (cntF b)).2 n (((1 - V.k) * (n / 2) : Nat) : Int) (headF (V.g + 1) b)).1 = 0 then (0, ⟨V.g + 1, 1 - V.k⟩, (wrF (shC n ((1 - V.k) * (n / 2) + 1) b D (cntF b)).2 n (((1 - V.k) * (n / 2) : Nat) : Int) (headF (V.g + 1) b)).2) else ((wrF (shC n ((1 - V.k) * (n / 2) + 1) b D (cntF b)).2 n (((1 - V.k) * (n / 2) : Nat) : Int) (headF (V.g + 1) b)).1, V, (wrF (shC n ((1 - V.k) * (n / 2) + 1) b D (cntF b)).2 n (((1 - V.k) * (n / 2) : Nat) : Int) (headF (V.g + 1) b)).2) := by
  rw [savB, shC_all]
  exact if_pos h
theorem sav_bad {V : Vt} {D : Dk} {n : Nat} {b : List UInt8} (h : ¬ (shC n ((1 - V.k) * (n / 2) + 1) b D (cntF b)).1 = 0) : savB V D n b = ((shC n ((1 - V.k) * (n / 2) + 1) b D (cntF b)).1, V, (shC n ((1 - V.k) * (n / 2) + 1) b D (cntF b)).2) := by
  rw [savB, shC_all]
  exact if_neg h
theorem runs_save {V : Vt} {D : Dk} {n : Nat} {b : List UInt8} (hK : DkOk n D) (hM : (1 - V.k) * (n / 2) + n / 2 ≤ n) (hc : cntF b + 1 ≤ n / 2) :
    ((shC n ((1 - V.k) * (n / 2) + 1) b D (cntF b)).1 = 0 ∧ (wrF (shC n ((1 - V.k) * (n / 2) + 1) b D (cntF b)).2 n (((1 - V.k) * (n / 2) : Nat) : Int) (headF (V.g + 1) b)).1 = 0 ∧ savB V D n b = (0, ⟨V.g + 1, 1 - V.k⟩, (wrF (shC n ((1 - V.k) * (n / 2) + 1) b D (cntF b)).2 n (((1 - V.k) * (n / 2) : Nat) : Int) (headF (V.g + 1) b)).2)) ∨
    ((shC n ((1 - V.k) * (n / 2) + 1) b D (cntF b)).1 = 0 ∧ ¬ (wrF (shC n ((1 - V.k) * (n / 2) + 1) b D (cntF b)).2 n (((1 - V.k) * (n / 2) : Nat) : Int) (headF (V.g + 1) b)).1 = 0 ∧ savB V D n b = (20, V, (wrF (shC n ((1 - V.k) * (n / 2) + 1) b D (cntF b)).2 n (((1 - V.k) * (n / 2) : Nat) : Int) (headF (V.g + 1) b)).2)) ∨
    (¬ (shC n ((1 - V.k) * (n / 2) + 1) b D (cntF b)).1 = 0 ∧ savB V D n b = (20, V, (shC n ((1 - V.k) * (n / 2) + 1) b D (cntF b)).2)) := by
  have hn4 := hK.n4
  by_cases h : (shC n ((1 - V.k) * (n / 2) + 1) b D (cntF b)).1 = 0
  · have e := sav_ok h
    rcases wr_code (D := (shC n ((1 - V.k) * (n / 2) + 1) b D (cntF b)).2) (x := headF (V.g + 1) b) (show (1 - V.k) * (n / 2) < n by omega) with ht | ht
    · exact .inl ⟨h, ht, by rw [e, if_pos ht]⟩
    · exact .inr (.inl ⟨h, by rw [ht]; decide, by rw [e, if_neg (by rw [ht]; decide), ht]⟩)
  · refine .inr (.inr ⟨h, ?_⟩)
    rw [sav_bad h]
    rcases shC_code (n := n) (base := (1 - V.k) * (n / 2) + 1) (b := b) (D := D) (cntF b) (by omega) with h2 | h2
    · exact absurd h2 h
    · rw [h2]
theorem dec_cast (x : Nat) : decide (decide (x = 0) ≠ decide ((x : Int) = 0)) = false := by
  cases x with
  | zero => rfl
  | succ x =>
    have h : ¬ (((x + 1 : Nat) : Int) = 0) := by omega
    rw [decide_eq_false h]
    rfl
/-! ### Addresses, a byte of a number -/
theorem cut3V_in {b o l h mx : Nat} (hl : l < mx) : cut3V (some ⟨b, o, none⟩) l h mx = .slice (some ⟨b, o + l, none⟩) (h - l) (mx - l) := by
  rw [cut3V, if_neg (by omega), Option.map_some, add_lit]
def byI (i : Int) : UInt8 := UInt8.ofNat (IntKind.u8.wrap i).toNat
theorem gv_byI {P : Program} {a : Act} {o : Oper} {w : World} {t t' : TypeId} {x : Operand} {i : Int} (ho : o.op = .convert t t' x) (ht : P.underlying t = some (.int .i64)) (ht' : P.underlying t' = some (.int .u8)) (hx : a.eval x = .int .i64 i) : Gv P o a w (vB (byI i)) := by
  have h : vB (byI i) = .int .u8 (IntKind.u8.wrap i) := by
    have h1 : 0 ≤ IntKind.u8.wrap i ∧ IntKind.u8.wrap i < 256 := by
      have := Int.emod_nonneg i (show (256 : Int) ≠ 0 by decide)
      have h2 := Int.emod_lt_of_pos i (show (0 : Int) < 256 by decide)
      exact ⟨this, h2⟩
    rw [vB, byI, UInt8.toNat_ofNat']
    congr 1
    omega
  rw [h]
  exact gv_conv ho ht ht' hx
def xF (i : Int) (q : Nat) : List UInt8 := List.replicate q (byI i) ++ List.replicate (64 - q) 0
theorem xF_len {i : Int} {q : Nat} (h : q ≤ 64) : (xF i q).length = 64 := by simp [xF]; omega
theorem xF_set {i : Int} {q : Nat} (h : q < 64) : (xF i q).set q (byI i) = xF i (q + 1) := by
  rw [xF, List.set_append, if_neg (by simp), List.length_replicate, Nat.sub_self, xF, show 64 - q = (64 - (q + 1)) + 1 by omega, List.replicate_succ, List.set_cons_zero, List.replicate_succ', List.append_assoc]
  rfl
theorem set_one {l : List Value} {x : Value} (h : l.length = 1) : l.set 0 x = [x] := by
  match l, h with
  | [_], _ => rfl
theorem z_blk (k : Nat) : List.replicate k (Value.int .u8 0) = (List.replicate k (0 : UInt8)).map vB ++ [] := by simp [vB]



end Go.Proofs.YtfhalnobaeogkaaDoor
