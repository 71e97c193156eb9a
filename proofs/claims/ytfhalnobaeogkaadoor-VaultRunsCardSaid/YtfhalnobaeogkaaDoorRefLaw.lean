/- What is proved: the plain law: the reference reads of a disk what a vault reads. -/
import Derived.Test.YtfhalnobaeogkaaDoorProg
import Derived.Test.YtfhalnobaeogkaaDoorFwSep
import Derived.KernelRfl
import Derived.Test.YtfhalnobaeogkaaDoorFwSto
import Derived.Test.YtfhalnobaeogkaaDoorFwVlt
import Derived.Test.YtfhalnobaeogkaaDoorFwApp
import Derived.Test.YtfhalnobaeogkaaDoorFwWord
import Derived.Test.YtfhalnobaeogkaaDoorFwPkt
import Derived.Test.YtfhalnobaeogkaaDoorFwTok
import Derived.Test.YtfhalnobaeogkaaDoorDig
import Derived.Test.YtfhalnobaeogkaaDoorSum
import Derived.Test.YtfhalnobaeogkaaDoorWire
import Derived.Test.YtfhalnobaeogkaaDoorPktW
import Derived.Test.YtfhalnobaeogkaaDoorPktR
import Derived.Test.YtfhalnobaeogkaaDoorWireA
import Derived.Test.YtfhalnobaeogkaaDoorDisk
import Derived.Test.YtfhalnobaeogkaaDoorFwZer
import Derived.Test.YtfhalnobaeogkaaDoorFwSeq
import Derived.Test.YtfhalnobaeogkaaDoorWireA
import Derived.Test.YtfhalnobaeogkaaDoorHead
import Derived.Test.YtfhalnobaeogkaaDoorHalf
import Derived.Test.YtfhalnobaeogkaaDoorOpen
import Derived.Test.YtfhalnobaeogkaaDoorSave
import Derived.Test.YtfhalnobaeogkaaDoorVPure
import Derived.Test.YtfhalnobaeogkaaDoorRefH
import Derived.Test.YtfhalnobaeogkaaDoorRefSum
import Derived.Test.YtfhalnobaeogkaaDoorRefCur
import Derived.Test.YtfhalnobaeogkaaDoorRefBy
import Derived.Test.YtfhalnobaeogkaaDoorRefIm
import Derived.Test.YtfhalnobaeogkaaDoorRefHf
import Derived.Test.YtfhalnobaeogkaaDoorRefNw
set_option linter.unusedVariables false
set_option linter.unusedSimpArgs false
namespace Go.Proofs.YtfhalnobaeogkaaDoor
open Go Go.RowKit Go.Fw




theorem u32R_app {xs : List UInt8} (h : 4 ≤ xs.length) : u32R (some xs) = (u32A xs 4, some (xs.drop 4)) := by
  unfold u32R
  simp only [takeR, if_pos h, u32A_take 4 (Nat.le_refl _)]
theorem u32B_u32A {ys : List UInt8} (h : ys.length = 4) : u32B (u32A ys 4) = ys := by
  match ys, h with
  | [a, b, c, d], _ =>
    have ha := a.toNat_lt
    have hb := b.toNat_lt
    have hc := c.toNat_lt
    have hd := d.toNat_lt
    have hN : (u32A [a, b, c, d] 4).toNat = a.toNat * 16777216 + b.toNat * 65536 + c.toNat * 256 + d.toNat := u32A_nat _
    have e : ∀ k, k < 32 → (((u32A [a, b, c, d] 4) >>> UInt32.ofNat k).toUInt8).toNat = (u32A [a, b, c, d] 4).toNat / 2 ^ k % 256 := fun k hk => byte_shr _ k hk
    have e0 : ((u32A [a, b, c, d] 4).toUInt8).toNat = (u32A [a, b, c, d] 4).toNat % 256 := UInt32.toNat_toUInt8 _
    show [_, _, _, _] = [_, _, _, _]
    congr 1
    · apply UInt8.toNat_inj.1; rw [e 24 (by decide), hN]; omega
    congr 1
    · apply UInt8.toNat_inj.1; rw [e 16 (by decide), hN]; omega
    congr 1
    · apply UInt8.toNat_inj.1; rw [e 8 (by decide), hN]; omega
    congr 1
    · apply UInt8.toNat_inj.1; rw [e0, hN]; omega
theorem takeR_inv {k : Nat} {s : RSt} {zs : List UInt8} (h : (takeR k s).2 = some zs) : ∃ ys, s = some (ys ++ zs) ∧ ys.length = k ∧ (takeR k s).1 = some ys := by
  cases s with
  | none => cases h
  | some xs =>
    by_cases hk : k ≤ xs.length
    · simp only [takeR, if_pos hk] at h ⊢
      injection h with h
      exact ⟨xs.take k, by rw [← h, List.take_append_drop], by rw [List.length_take]; omega, rfl⟩
    · simp only [takeR, if_neg hk] at h; cases h
theorem textR_inv {s : RSt} {zs : List UInt8} (h : (textR s).2 = some zs) : s = some (textB (textR s).1 ++ zs) := by
  have hl := textR_len s
  unfold textR at h hl ⊢
  by_cases hb : 16384 < (u32R s).1.toNat
  · rw [if_pos hb] at h; cases h
  · rw [if_neg hb] at h hl ⊢
    obtain ⟨a, ha, hal, ha1⟩ := takeR_inv h
    rw [ha1, Option.getD_some] at hl ⊢
    rw [u32R_snd] at ha
    obtain ⟨ys, hs, hyl, hy1⟩ := takeR_inv ha
    have hn : (u32R s).1 = u32A ys 4 := u32R_some hy1
    rw [hs, textB, hal, hn]
    have : u32B (UInt32.ofNat (u32A ys 4).toNat) = ys := by rw [UInt32.ofNat_toNat, u32B_u32A hyl]
    rw [this, List.append_assoc]
theorem byteR_inv {s : RSt} {zs : List UInt8} (h : (byteR s).2 = some zs) : s = some ((byteR s).1 :: zs) := by
  rw [byteR_snd] at h
  obtain ⟨ys, hs, hyl, hy1⟩ := takeR_inv h
  rw [byteR_some hy1, hs]
  match ys, hyl with
  | [x], _ => rfl
/-- What can be read whole was written so, but for the flag's byte. -/
theorem parse_inv {d : List UInt8} (h : (parseF d).2 = true) : ∃ x : UInt8, d = textB (parseF d).1.a ++ textB (parseF d).1.c ++ [x] ∧ (parseF d).1.p = decide (x ≠ 0) := by
  have h' : (byteR (textR (textR (some d)).2).2).2 = some [] := of_decide_eq_true h
  have h3 := byteR_inv h'
  have h2 := textR_inv h3
  have h1 := textR_inv h2
  refine ⟨_, ?_, rfl⟩
  injection h1 with h1
  rw [List.append_assoc]
  exact h1
theorem rec_flag {a c : List UInt8} {x : UInt8} (h : ¬ 1 < x.toNat) : recB a c (decide (x ≠ 0)) = textB a ++ textB c ++ [x] := by
  rw [recB]
  congr 2
  by_cases hx : x = 0
  · rw [hx]; rfl
  · rw [if_pos (by simpa using hx)]
    have : x.toNat ≠ 0 := fun h0 => hx (UInt8.toNat_inj.1 h0)
    exact UInt8.toNat_inj.1 (by show 1 = x.toNat; omega)
theorem rec_set {a c : List UInt8} {p : Bool} {x : UInt8} : (recB a c p).set ((recB a c p).length - 1) x = textB a ++ textB c ++ [x] := by
  rw [recB, List.length_append, List.set_append, if_neg (by simp)]
  simp
theorem genB_lt (b : List UInt8) : ∀ i, i ≤ 8 → (genB b i).toNat < 256 ^ i
  | 0, _ => by show (0 : UInt64).toNat < 1; decide
  | i + 1, h => by
    have h1 := genB_lt b i (by omega)
    have hb := (b.getD (4 + i) 0).toNat_lt
    rw [genB, UInt64.toNat_add, UInt64.toNat_mul, UInt8.toNat_toUInt64, Nat.pow_succ]
    show ((genB b i).toNat * 256 % 2 ^ 64 + _) % 2 ^ 64 < _
    have : 256 ^ i * 256 ≤ 256 ^ 7 * 256 := Nat.mul_le_mul_right 256 (Nat.pow_le_pow_right (by decide) (by omega))
    rw [Nat.mod_eq_of_lt (a := (genB b i).toNat * 256) (by omega), Nat.mod_eq_of_lt (by omega)]
    omega
theorem genB_succ (b : List UInt8) (i : Nat) (h : i < 8) : (genB b (i + 1)).toNat = (genB b i).toNat * 256 + (b.getD (4 + i) 0).toNat := by
  have h1 := genB_lt b i (by omega)
  have hb := (b.getD (4 + i) 0).toNat_lt
  rw [genB, UInt64.toNat_add, UInt64.toNat_mul, UInt8.toNat_toUInt64]
  show ((genB b i).toNat * 256 % 2 ^ 64 + _) % 2 ^ 64 = _
  have : 256 ^ i ≤ 256 ^ 7 := Nat.pow_le_pow_right (by decide) (by omega)
  rw [Nat.mod_eq_of_lt (a := (genB b i).toNat * 256) (by omega), Nat.mod_eq_of_lt (by omega)]
theorem getD_dt {l : List UInt8} {o m i : Nat} (h : o + i < m) : ((l.take m).drop o).getD i 0 = l.getD (o + i) 0 := by
  rw [← drop_getD, dgetD_take h]
set_option maxRecDepth 100000 in
theorem hgen_genB (b : List UInt8) (h : 16 ≤ b.length) : genB b 8 = hgen b := by
  have hl : ((b.take 16).drop 4).length = 12 := by rw [List.length_drop, List.length_take]; omega
  rw [hgen, hs0, u32R_app (by omega)]
  simp only
  rw [u32R_app (by rw [List.length_drop]; omega)]
  apply UInt64.toNat_inj.1
  have e1 := u32A_nat ((b.take 16).drop 4)
  have e2 := u32A_nat (((b.take 16).drop 4).drop 4)
  rw [List.drop_drop] at e2
  rw [getD_dt (by decide), getD_dt (by decide), getD_dt (by decide), getD_dt (by decide)] at e1 e2
  have hx := (u32A ((b.take 16).drop 4) 4).toNat_lt
  have hy := (u32A (((b.take 16).drop 4).drop 4) 4).toNat_lt
  rw [UInt64.toNat_or, UInt64.toNat_shiftLeft, UInt32.toNat_toUInt64, UInt32.toNat_toUInt64, show (UInt64.ofNat 32).toNat % 64 = 32 from rfl, Nat.mod_eq_of_lt (a := (u32A ((b.take 16).drop 4) 4).toNat <<< 32) (by rw [Nat.shiftLeft_eq]; omega), ← Nat.shiftLeft_add_eq_or_of_lt (by omega), Nat.shiftLeft_eq, List.drop_drop, e1, e2]
  have g0 : (genB b 0).toNat = 0 := rfl
  have g1 := genB_succ b 0 (by decide)
  have g2 := genB_succ b 1 (by decide)
  have g3 := genB_succ b 2 (by decide)
  have g4 := genB_succ b 3 (by decide)
  have g5 := genB_succ b 4 (by decide)
  have g6 := genB_succ b 5 (by decide)
  have g7 := genB_succ b 6 (by decide)
  have g8 := genB_succ b 7 (by decide)
  simp only [Nat.reduceAdd] at g1 g2 g3 g4 g5 g6 g7 g8 ⊢
  generalize (genB b 0).toNat = G0 at *
  generalize (genB b 1).toNat = G1 at *
  generalize (genB b 2).toNat = G2 at *
  generalize (genB b 3).toNat = G3 at *
  generalize (genB b 4).toNat = G4 at *
  generalize (genB b 5).toNat = G5 at *
  generalize (genB b 6).toNat = G6 at *
  generalize (genB b 7).toNat = G7 at *
  generalize (genB b 8).toNat = G8 at *
  clear hx hy e1 e2 hl
  generalize (b.getD 4 0).toNat = x4 at *
  generalize (b.getD 5 0).toNat = x5 at *
  generalize (b.getD 6 0).toNat = x6 at *
  generalize (b.getD 7 0).toNat = x7 at *
  generalize (b.getD 8 0).toNat = x8 at *
  generalize (b.getD 9 0).toNat = x9 at *
  generalize (b.getD 10 0).toNat = x10 at *
  generalize (b.getD 11 0).toNat = x11 at *
  omega
theorem hsize_szR (b : List UInt8) (h : 16 ≤ b.length) : szR b = hsize b := by
  have hl : ((b.take 16).drop 4).length = 12 := by rw [List.length_drop, List.length_take]; omega
  rw [szR, hsize, hs0, u32R_app (xs := (b.take 16).drop 4) (by omega)]
  simp only
  rw [u32R_app (xs := ((b.take 16).drop 4).drop 4) (by rw [List.length_drop]; omega)]
  simp only [List.drop_drop]
theorem hdr_of {b : List UInt8} (h : 16 ≤ b.length) (hm : b.take 4 = mun) : b.take 16 = hdr (hgen b) (hsize b) := by
  have hl : ((b.take 16).drop 4).length = 12 := by rw [List.length_drop, List.length_take]; omega
  have hG : hgen b = (u32A ((b.take 16).drop 4) 4).toUInt64 <<< UInt64.ofNat 32 ||| (u32A (((b.take 16).drop 4).drop 4) 4).toUInt64 := by
    rw [hgen, hs0, u32R_app (by omega)]
    simp only
    rw [u32R_app (by rw [List.length_drop]; omega)]
  have hS : hsize b = (u32A (((b.take 16).drop 4).drop 8) 4).toNat := by
    rw [hsize, hs0, u32R_app (xs := (b.take 16).drop 4) (by omega)]
    simp only
    rw [u32R_app (xs := ((b.take 16).drop 4).drop 4) (by rw [List.length_drop]; omega)]
    simp only
    rw [u32R_app (by rw [List.length_drop, List.length_drop]; omega), List.drop_drop]
  have e0 : b.take 16 = mun ++ (b.take 16).drop 4 := by
    rw [← hm, ← show (b.take 16).take 4 = b.take 4 from by rw [List.take_take]; rfl, List.take_append_drop]
  obtain ⟨t, ht⟩ : ∃ t, t = (b.take 16).drop 4 := ⟨_, rfl⟩
  rw [← ht] at hl hG hS e0
  have hx := (u32A t 4).toNat_lt
  have hy := (u32A (t.drop 4) 4).toNat_lt
  have hN : (hgen b).toNat = (u32A t 4).toNat * 4294967296 + (u32A (t.drop 4) 4).toNat := by
    rw [hG, UInt64.toNat_or, UInt64.toNat_shiftLeft, UInt32.toNat_toUInt64, UInt32.toNat_toUInt64, show (UInt64.ofNat 32).toNat % 64 = 32 from rfl, Nat.mod_eq_of_lt (a := (u32A t 4).toNat <<< 32) (by rw [Nat.shiftLeft_eq]; omega), ← Nat.shiftLeft_add_eq_or_of_lt (by omega), Nat.shiftLeft_eq]
  have h1 : (hgen b >>> UInt64.ofNat 32).toUInt32 = u32A t 4 := by
    apply UInt32.toNat_inj.1
    rw [UInt64.toNat_toUInt32, UInt64.toNat_shiftRight, show (UInt64.ofNat 32).toNat % 64 = 32 from rfl, Nat.shiftRight_eq_div_pow, hN]
    omega
  have h2 : (hgen b).toUInt32 = u32A (t.drop 4) 4 := by
    apply UInt32.toNat_inj.1
    rw [UInt64.toNat_toUInt32, hN]
    omega
  have b4 : ∀ l : List UInt8, u32A l 4 = u32A (l.take 4) 4 := fun l => (u32A_take 4 (Nat.le_refl _)).symm
  rw [hdr, h1, h2, hS, UInt32.ofNat_toNat, b4 t, b4 (t.drop 4), b4 (t.drop 8), u32B_u32A (by rw [List.length_take]; omega), u32B_u32A (by rw [List.length_take, List.length_drop]; omega), u32B_u32A (by rw [List.length_take, List.length_drop]; omega), e0]
  rw [List.append_assoc, List.append_assoc]
  congr 1
  rw [List.take_of_length_le (l := t.drop 8) (by rw [List.length_drop]; omega), show t.drop 8 = (t.drop 4).drop 4 from by rw [List.drop_drop], List.take_append_drop, List.take_append_drop]
theorem take64_head {g : UInt64} {d : List UInt8} : (imgF g d).take 64 = headF g d := by
  rw [imgF, List.append_assoc, List.take_append_of_le_length (by rw [headF_len]; exact Nat.le_refl _), List.take_of_length_le (by rw [headF_len]; exact Nat.le_refl _)]
theorem half_core {b D RR WW : List UInt8} {g : UInt64} {s : Nat} {a1 c1 : List UInt8} {p1 ok : Bool} (hbl : 64 ≤ b.length) (hdl : D.length = s) (hlast : 0 < s → D.getD (s - 1) 0 = b.getD (63 + s) 0) (hRR : RR = recB a1 c1 p1)
    (hinv : ok = true → ∃ x : UInt8, D = textB a1 ++ textB c1 ++ [x] ∧ p1 = decide (x ≠ 0)) (hWW : WW = wantR b g RR (flR b s)) (h16 : b.take 4 = mun → b.take 16 = hdr g s) :
    (if ok = true ∧ b.take 4 = mun ∧ WW.take 64 = b.take 64 ∧ RR.length = s then ((⟨a1, c1, p1⟩ : Rc), g, true) else (rc0, 0, false)) =
      if (if headF g D ≠ b.take 64 then (rc0, 0, false) else ((⟨a1, c1, p1⟩ : Rc), g, ok)).2.2 = true then (if headF g D ≠ b.take 64 then (rc0, 0, false) else ((⟨a1, c1, p1⟩ : Rc), g, ok)) else (rc0, 0, false) := by
  have t16 : ∀ {q}, q ≤ 64 → (b.take 64).take q = b.take q := fun {q} hq => by rw [List.take_take, show min q 64 = q by omega]
  have hh64 := headF_len g D
  have mm : headF g D = b.take 64 → b.take 4 = mun := fun h => by
    rw [← t16 (show 4 ≤ 64 by decide), ← h, headF, List.append_assoc, List.append_assoc, List.take_append_of_le_length (by rw [hdr_len]; decide)]
    rfl
  cases ok with
  | false =>
    rw [if_neg (fun h => by cases h.1)]
    by_cases hw : headF g D = b.take 64
    · rw [if_neg (not_not_intro hw), if_neg (by simp)]
    · rw [if_pos hw, if_neg (by simp)]
  | true =>
    obtain ⟨x, hx, hpx⟩ := hinv rfl
    have hs : s = a1.length + c1.length + 9 := by
      rw [← hdl, hx]
      simp only [List.length_append, List.length_cons, List.length_nil, textB_len]
      omega
    have hfl : flR b s = x := by
      rw [flR, if_pos (by omega), ← hlast (by omega), hx]
      have : s - 1 = (textB a1 ++ textB c1).length := by rw [List.length_append, textB_len, textB_len]; omega
      rw [this]
      simp [List.getD_eq_getElem?_getD]
    have hrl : RR.length = s := by rw [hRR, recB_len, hs]
    have key : b.take 4 = mun → WW.take 64 = headF g D := by
      intro hm4
      rw [hWW, wantR, hfl]
      by_cases h1 : 1 < x.toNat
      · have hset : RR.set (RR.length - 1) x = D := by rw [hRR, rec_set, hx]
        have h12 : (b.take 12).drop 4 = ((hdr g s).take 12).drop 4 := by
          rw [← h16 hm4, List.take_take]
          rfl
        have hw : b.take 16 ++ sum256 (b.take 16 ++ D) ++ (b.take 12).drop 4 ++ List.replicate 8 0 = headF g D := by rw [h16 hm4, h12, headF, hdl]
        rw [if_pos h1, hset, hw, List.take_of_length_le (by rw [hh64]; exact Nat.le_refl _)]
      · have : RR = D := by rw [hRR, hpx, rec_flag h1, hx]
        rw [if_neg h1, take64_head, this]
    by_cases hw : headF g D = b.take 64
    · rw [if_neg (not_not_intro hw), if_pos ⟨rfl, mm hw, (key (mm hw)).trans hw, hrl⟩, if_pos rfl]
    · rw [if_pos hw, if_neg (fun h => hw ((key h.2.1).symm.trans h.2.2.1)), if_neg (by simp)]
/-- A half, as the reference reads it. -/
theorem half_same {l : List UInt8} {n k : Nat} (hl : l.length = 64 * n) (hn : 4 ≤ n) (hk : k ≤ 1) : halfR ((l.drop (64 * (k * (n / 2)))).take (64 * (n / 2))) = if (halfF l n k).2.2 = true then halfF l n k else (rc0, 0, false) := by
  obtain ⟨m, hm⟩ : ∃ m, m = n / 2 := ⟨_, rfl⟩
  have hkm : k * m ≤ m := by
    have := Nat.mul_le_mul_right m hk
    omega
  obtain ⟨b, hb⟩ : ∃ b, b = (l.drop (64 * (k * m))).take (64 * m) := ⟨_, rfl⟩
  have hbl : b.length = 64 * m := by rw [hb, List.length_take, List.length_drop]; omega
  have hB : hblk l n k = b.take 64 := by rw [hblk, blkF, hb, List.take_take, ← hm, show min 64 (64 * m) = 64 by omega]
  rw [← hm, ← hb]
  have t16 : ∀ {q}, q ≤ 64 → (b.take 64).take q = b.take q := fun {q} hq => by rw [List.take_take, show min q 64 = q by omega]
  have hs0e : hs0 (b.take 64) = hs0 b := by rw [hs0, hs0, t16 (by decide)]
  have hge : hgen (b.take 64) = hgen b := by rw [hgen, hgen, hs0e]
  have hse : hsize (b.take 64) = hsize b := by rw [hsize, hsize, hs0e]
  have hsz := hsize_szR b (by omega)
  have hgB := hgen_genB b (by omega)
  unfold halfR
  rw [hsz, hbl, hgB]
  by_cases hbig : 64 * m - 64 < hsize b
  · have eF : halfF l n k = (rc0, 0, false) := by unfold halfF; rw [hB, hse, ← hm, if_pos (by omega)]
    rw [if_pos hbig, eF]
    rfl
  · have gen : ∀ q, ¬ 64 * m - 64 < q → (b.drop 64).take q = (l.drop (64 * (k * m + 1))).take q := fun q hq => by
      rw [hb, List.drop_take, List.drop_drop, List.take_take, show min q (64 * m - 64) = q by omega, show 64 * (k * m) + 64 = 64 * (k * m + 1) by omega]
    have hd : hdat l n k = datR b := by
      rw [hdat, hB, hse, datR, hsz, ← hm]
      exact (gen _ hbig).symm
    have eF : halfF l n k = if headF (hgen b) (datR b) ≠ b.take 64 then (rc0, 0, false) else ((parseF (datR b)).1, hgen b, (parseF (datR b)).2) := by
      unfold halfF; rw [hB, hse, hge, ← hm, if_neg (by omega), hd]
    rw [if_neg hbig, eF]
    have hdl : (datR b).length = hsize b := by rw [datR, hsz, List.length_take, List.length_drop]; omega
    have hlast : 0 < hsize b → (datR b).getD (hsize b - 1) 0 = b.getD (63 + hsize b) 0 := fun h => by
      rw [datR, hsz, dgetD_take (by omega), ← drop_getD]
      congr 1
      omega
    have hinv := @parse_inv (datR b)
    have h16 := hdr_of (b := b) (by omega)
    have hrec : recR b = recB (parseF (datR b)).1.a (parseF (datR b)).1.c (parseF (datR b)).1.p := rfl
    generalize parseF (datR b) = P at hinv hrec ⊢
    obtain ⟨⟨a1, c1, p1⟩, ok⟩ := P
    exact half_core (by omega) hdl hlast hrec hinv rfl h16
theorem new_same {l : List UInt8} {n : Nat} (hl : l.length = 64 * n) (hn : 4 ≤ n) : newR l = if (openF l n).f = true then (((openF l n).k : Int), (openF l n).r, (openF l n).g) else (-1, rc0, 0) := by
  have hN : l.length / 64 / 2 * 64 = 64 * (n / 2) := by rw [hl, Nat.mul_div_cancel_left _ (by decide)]; omega
  have h0 := half_same hl hn (Nat.zero_le 1)
  have h1 := half_same hl hn (Nat.le_refl 1)
  rw [Nat.zero_mul, Nat.mul_zero, List.drop_zero] at h0
  rw [Nat.one_mul] at h1
  have h1' : (l.take (2 * (64 * (n / 2)))).drop (64 * (n / 2)) = (l.drop (64 * (n / 2))).take (64 * (n / 2)) := by
    rw [List.drop_take, show 2 * (64 * (n / 2)) - 64 * (n / 2) = 64 * (n / 2) by omega]
  unfold newR
  rw [hN]
  simp only
  rw [h1', h0, h1, open_two]
  generalize hH0 : halfF l n 0 = H0
  generalize hH1 : halfF l n 1 = H1
  obtain ⟨r0, g0, o0⟩ := H0
  obtain ⟨r1, g1, o1⟩ := H1
  unfold openStep
  rw [hH0, hH1]
  cases o0 <;> cases o1 <;> simp
  by_cases hg : g0.toNat < g1.toNat
  · rw [if_neg (by omega)]; simp [hg]
  · rw [if_pos (by omega)]; simp [hg]



end Go.Proofs.YtfhalnobaeogkaaDoor
