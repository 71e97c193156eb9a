/- What is proved: the plain law of a vault whose power ends, wherever that is. -/
import Derived.Test.YtfhalnobaeogkaaDoorProg
import Derived.Test.YtfhalnobaeogkaaDoorFwSep
import Derived.KernelRfl
import Derived.Test.YtfhalnobaeogkaaDoorFwSto
import Derived.Test.YtfhalnobaeogkaaDoorFwVlt
import Derived.Test.YtfhalnobaeogkaaDoorFwApp
import Derived.Test.YtfhalnobaeogkaaDoorFwWord
import Derived.Test.YtfhalnobaeogkaaDoorFwPkt
import Derived.Test.YtfhalnobaeogkaaDoorFwTok
import Derived.Test.YtfhalnobaeogkaaDoorDig
import Derived.Test.YtfhalnobaeogkaaDoorSum
import Derived.Test.YtfhalnobaeogkaaDoorWire
import Derived.Test.YtfhalnobaeogkaaDoorPktW
import Derived.Test.YtfhalnobaeogkaaDoorPktR
import Derived.Test.YtfhalnobaeogkaaDoorWireA
import Derived.Test.YtfhalnobaeogkaaDoorDisk
import Derived.Test.YtfhalnobaeogkaaDoorHead
import Derived.Test.YtfhalnobaeogkaaDoorHalf
import Derived.Test.YtfhalnobaeogkaaDoorOpen
import Derived.Test.YtfhalnobaeogkaaDoorSave
import Derived.Test.YtfhalnobaeogkaaDoorVPure
import Derived.Test.YtfhalnobaeogkaaDoorLawVN
set_option linter.unusedVariables false
set_option linter.unusedSimpArgs false
namespace Go.Proofs.YtfhalnobaeogkaaDoor
open Go Go.RowKit Go.Fw




theorem wrF_code {D : Dk} {n i : Nat} {x : List UInt8} (hi : i < n) : (wrF D n (i : Int) x).1 = 0 ∨ (wrF D n (i : Int) x).1 = 20 := by
  unfold wrF
  rw [if_neg (by omega)]
  split
  · exact .inr rfl
  · split
    · exact .inr rfl
    · exact .inl rfl
theorem wrF_torn {D : Dk} {n i : Nat} {x : List UInt8} (hi : i < n) (hd : D.dead = false) (h : ¬ (wrF D n (i : Int) x).1 = 0) : wrF D n (i : Int) x = (20, { D with l := putL D.l (64 * i) (x.take D.torn), dead := true }) := by
  unfold wrF at h ⊢
  rw [if_neg (by omega), if_neg (by rw [hd]; exact Bool.false_ne_true)] at h ⊢
  split at h
  · rename_i hf
    rw [if_pos hf]
    rfl
  · exact absurd rfl h
theorem saveL_torn {n base : Nat} {b : List UInt8} : ∀ (f j : Nat) (D : Dk), DkOk n D → D.dead = false → base + j + f ≤ n → ¬ (saveL n base b f j D).1 = 0 →
    (saveL n base b f j D).1 = 20 ∧ (saveL n base b f j D).2.dead = true ∧ (∀ i, (i < 64 * (base + j) ∨ 64 * (base + j + f) ≤ i) → (saveL n base b f j D).2.l[i]? = D.l[i]?)
  | 0, _, _, _, _, _, h => absurd rfl h
  | f + 1, j, D, hK, hd, hn, h => by
    rw [saveL] at h ⊢
    have hcl := chunkF_len b j
    split at h
    · rename_i h0
      rw [if_pos h0]
      obtain ⟨hi, _, hf, he⟩ := wrF_zero h0
      have hK' := wrF_ok (n := n) (i := ((base + j : Nat) : Int)) hK (chunkF_len b j)
      obtain ⟨g1, g2, g3⟩ := saveL_torn f (j + 1) _ hK' (by rw [he]; exact hd) (by omega) h
      have hl2 : (wrF D n ((base + j : Nat) : Int) (chunkF b j)).2.l = putL D.l (64 * (base + j)) (chunkF b j) := by rw [he]
      refine ⟨g1, g2, fun i h1 => ?_⟩
      rw [g3 i (by omega), hl2, putL_get (by rw [hK.len, hcl]; omega), if_neg (by rw [hcl]; omega)]
    · rename_i h0
      rw [if_neg h0]
      have he := wrF_torn (show base + j < n by omega) hd h0
      rw [he]
      refine ⟨rfl, rfl, fun i h1 => ?_⟩
      have htl : ((chunkF b j).take D.torn).length ≤ 64 := by rw [List.length_take, hcl]; omega
      show (putL D.l (64 * (base + j)) ((chunkF b j).take D.torn))[i]? = _
      rw [putL_get (by rw [hK.len]; omega), if_neg (by omega)]
/-! ### Heads, byte by byte -/
theorem u32A_ext4 {l l' : List UInt8} (h : ∀ i, i < 4 → l.getD i 0 = l'.getD i 0) : u32A l 4 = u32A l' 4 := by
  simp only [u32A, h 0 (by decide), h 1 (by decide), h 2 (by decide), h 3 (by decide)]
theorem u32R_ok {xs : List UInt8} (h : 4 ≤ xs.length) : u32R (some xs) = (u32A xs 4, some (xs.drop 4)) := by
  simp only [u32R, takeR, if_pos h, u32A_take 4 (Nat.le_refl _)]
theorem getD_drop' (l : List UInt8) (a i : Nat) : (l.drop a).getD i 0 = l.getD (a + i) 0 := by simp [List.getD_eq_getElem?_getD]
theorem getD_take' (l : List UInt8) (a i : Nat) (h : i < a) : (l.take a).getD i 0 = l.getD i 0 := by simp [List.getD_eq_getElem?_getD, h]
theorem hs0_parts {A : List UInt8} (h : A.length = 64) : hgen A = (u32A (A.drop 4) 4).toUInt64 <<< UInt64.ofNat 32 ||| (u32A (A.drop 8) 4).toUInt64 ∧ hsize A = (u32A (A.drop 12) 4).toNat := by
  have hl : ((A.take 16).drop 4).length = 12 := by rw [List.length_drop, List.length_take]; omega
  have e1 : u32R (hs0 A) = (u32A (A.drop 4) 4, some (((A.take 16).drop 4).drop 4)) := by
    rw [hs0, u32R_ok (by omega)]
    congr 1
    exact u32A_ext4 fun i hi => by rw [getD_drop', getD_drop', getD_take' _ _ _ (by omega)]
  have e2 : u32R (some (((A.take 16).drop 4).drop 4)) = (u32A (A.drop 8) 4, some ((((A.take 16).drop 4).drop 4).drop 4)) := by
    rw [u32R_ok (by rw [List.length_drop]; omega)]
    congr 1
    exact u32A_ext4 fun i hi => by rw [getD_drop', getD_drop', getD_drop', getD_take' _ _ _ (by omega)]; congr 1; omega
  have e3 : u32R (some ((((A.take 16).drop 4).drop 4).drop 4)) = (u32A (A.drop 12) 4, some (((((A.take 16).drop 4).drop 4).drop 4).drop 4)) := by
    rw [u32R_ok (by rw [List.length_drop, List.length_drop]; omega)]
    congr 1
    exact u32A_ext4 fun i hi => by rw [getD_drop', getD_drop', getD_drop', getD_drop', getD_take' _ _ _ (by omega)]; congr 1; omega
  exact ⟨by simp only [hgen, e1, e2], by simp only [hsize, e1, e2, e3]⟩
theorem hgen_ext {A A' : List UInt8} (h : A.length = 64) (h' : A'.length = 64) (he : ∀ i, i < 8 → A.getD (4 + i) 0 = A'.getD (4 + i) 0) : hgen A = hgen A' := by
  rw [(hs0_parts h).1, (hs0_parts h').1]
  congr 2
  · congr 1
    exact u32A_ext4 fun i hi => by rw [getD_drop', getD_drop', he i (by omega)]
  · exact u32A_ext4 fun i hi => by rw [getD_drop', getD_drop', show 8 + i = 4 + (4 + i) by omega, he (4 + i) (by omega)]
theorem hsize_zero {A : List UInt8} (h : A.length = 64) (he : ∀ i, i < 4 → A.getD (12 + i) 0 = 0) : hsize A = 0 := by
  rw [(hs0_parts h).2, u32A_nat]
  simp only [getD_drop', he 0 (by decide), he 1 (by decide), he 2 (by decide), he 3 (by decide)]
  rfl
/-- The generation stands twice. -/
theorem head_twice (g : UInt64) (b : List UInt8) (i : Nat) (h : i < 8) : (headF g b).getD (48 + i) 0 = (headF g b).getD (4 + i) 0 := by
  have hh := hdr_len g b.length
  have hs := sum256_len (hdr g b.length ++ b)
  have hl : (hdr g b.length ++ sum256 (hdr g b.length ++ b)).length = 48 := by rw [List.length_append]; omega
  have e1 : (headF g b)[48 + i]? = (hdr g b.length)[4 + i]? := by
    rw [headF, List.append_assoc, List.getElem?_append_right (by omega), hl, List.getElem?_append_left (by rw [List.length_drop, List.length_take]; omega), List.getElem?_drop, List.getElem?_take, if_pos (by omega), show 4 + (48 + i - 48) = 4 + i by omega]
  have e2 : (headF g b)[4 + i]? = (hdr g b.length)[4 + i]? := by
    rw [headF, List.append_assoc, List.append_assoc, List.getElem?_append_left (by omega)]
  rw [List.getD_eq_getElem?_getD, List.getD_eq_getElem?_getD, e1, e2]
theorem head_low (g : UInt64) (b : List UInt8) : ((headF g b).getD 11 0).toNat = g.toNat % 256 := by
  show ((g.toUInt32).toUInt8).toNat = _
  rw [UInt32.toNat_toUInt8, UInt64.toNat_toUInt32]; omega
theorem head_end (g : UInt64) (b : List UInt8) (i : Nat) (h : 56 ≤ i) : (headF g b).getD i 0 = 0 := by
  have hh := hdr_len g b.length
  have hs := sum256_len (hdr g b.length ++ b)
  have hl : (hdr g b.length ++ sum256 (hdr g b.length ++ b) ++ ((hdr g b.length).take 12).drop 4).length = 56 := by simp only [List.length_append, List.length_drop, List.length_take]; omega
  rw [List.getD_eq_getElem?_getD, headF, List.getElem?_append_right (by omega), hl, List.getElem?_replicate]
  split <;> rfl
theorem zero_getD (i : Nat) : zero64.getD i 0 = 0 := by
  rw [List.getD_eq_getElem?_getD, zero64, List.getElem?_replicate]; split <;> rfl
/-- What the half that is to be written to holds ahead of that. -/
def OldH (g : UInt64) (H : List UInt8) : Prop := (H = zero64 ∧ g.toNat ≤ 1) ∨ ∃ (g' : UInt64) (b : List UInt8), H = headF g' b ∧ g'.toNat + 1 = g.toNat
theorem half_gen {l : List UInt8} {n k : Nat} (h : (halfF l n k).2.2 = true) : (halfF l n k).2.1 = hgen (hblk l n k) ∧ headF (hgen (hblk l n k)) (hdat l n k) = hblk l n k ∧ (parseF (hdat l n k)).2 = true := by
  unfold halfF at h ⊢
  split at h
  · cases h
  · rename_i h1
    split at h
    · cases h
    · rename_i h2
      rw [if_neg h1, if_neg h2]
      simp only at h ⊢
      exact ⟨trivial, Classical.not_not.1 h2, h⟩
/-- A half that is older, or nothing. -/
def Below_ (l : List UInt8) (n k : Nat) (g : UInt64) : Prop := (halfF l n k).2.2 = false ∨ (halfF l n k).2.1.toNat < g.toNat
theorem old_below {l : List UInt8} {n k : Nat} {g : UInt64} (h : OldH g (hblk l n k)) : Below_ l n k g := by
  rcases h with ⟨h, _⟩ | ⟨g', b, h, hg⟩
  · exact .inl (half_zero h)
  · cases hv : (halfF l n k).2.2 with
    | false => exact .inl hv
    | true =>
      refine .inr ?_
      rw [(half_gen hv).1, h, hgen_head]
      omega
theorem parse_nil : (parseF []).2 = false := rfl
/-- A head that was written in part. -/
theorem torn_below {l : List UInt8} {n k t : Nat} {g : UInt64} {H b : List UInt8} (hH : OldH g H) (hHl : H.length = 64) (hg : g.toNat < 4294967296) (ht : t < 56) (hb : hblk l n k = (headF (g + 1) b).take t ++ H.drop t) : Below_ l n k g := by
  have hgs : (g + 1).toNat = g.toNat + 1 := by rw [UInt64.toNat_add]; show (g.toNat + 1) % 2 ^ 64 = _; omega
  have hnl := headF_len (g + 1) b
  obtain ⟨X, hX⟩ : ∃ X, X = hblk l n k := ⟨_, rfl⟩
  have hXl : X.length = 64 := by rw [hX, hb, List.length_append, List.length_take, List.length_drop]; omega
  have new : ∀ i, i < t → X.getD i 0 = (headF (g + 1) b).getD i 0 := fun i hi => by
    rw [hX, hb, List.getD_eq_getElem?_getD, List.getElem?_append_left (by rw [List.length_take]; omega), List.getElem?_take, if_pos hi, ← List.getD_eq_getElem?_getD]
  have old : ∀ i, t ≤ i → X.getD i 0 = H.getD i 0 := fun i hi => by
    have htl : ((headF (g + 1) b).take t).length = t := by rw [List.length_take]; omega
    rw [hX, hb, List.getD_eq_getElem?_getD, List.getElem?_append_right (by omega), htl, List.getElem?_drop, ← List.getD_eq_getElem?_getD]
    congr 1; omega
  cases hv : (halfF l n k).2.2 with
  | false => exact .inl hv
  | true =>
    obtain ⟨e1, e2, e3⟩ := half_gen hv
    rw [← hX] at e1 e2
    obtain ⟨dd, hdd⟩ : ∃ dd, dd = hdat l n k := ⟨_, rfl⟩
    rw [← hdd] at e2 e3
    have two : ∀ i, i < 8 → X.getD (48 + i) 0 = X.getD (4 + i) 0 := fun i hi => by rw [← e2]; exact head_twice _ _ i hi
    by_cases h12 : 12 ≤ t
    · exfalso
      have b1 : (X.getD 11 0).toNat = (g.toNat + 1) % 256 := by rw [new 11 (by omega), head_low, hgs]
      have b2 := two 7 (by decide)
      have b3 : X.getD 55 0 = H.getD 55 0 := old 55 (by omega)
      have b4 : X.getD 55 0 = X.getD 11 0 := b2
      rcases hH with ⟨rfl, hz⟩ | ⟨g', b', rfl, hg'⟩
      · rw [zero_getD] at b3
        rw [← b4, b3] at b1
        have : (0 : UInt8).toNat = 0 := rfl
        omega
      · have b5 := head_twice g' b' 7 (by decide)
        have b6 : (headF g' b').getD 55 0 = (headF g' b').getD 11 0 := b5
        have b7 := head_low g' b'
        rw [← b4, b3, b6, b7] at b1
        omega
    · have low : ∀ i, i < 8 → X.getD (48 + i) 0 = H.getD (48 + i) 0 := fun i hi => old _ (by omega)
      rcases hH with ⟨rfl, hz⟩ | ⟨g', b', rfl, hg'⟩
      · exfalso
        have hs : hsize (hblk l n k) = 0 := by
          rw [← hX]
          exact hsize_zero hXl fun i hi => by rw [old _ (by omega), zero_getD]
        have : dd = [] := by rw [hdd, hdat, hs, List.take_zero]
        rw [this, parse_nil] at e3
        cases e3
      · refine .inr ?_
        have : hgen X = hgen (headF g' b') := hgen_ext hXl (headF_len _ _) fun i hi => by
          rw [← two i hi, low i hi, head_twice g' b' i hi]
        rw [e1, this, hgen_head]
        omega
/-- Where the power ended, wherever it was: the half that was written to is older, or nothing, or it is the new one whole. -/
theorem savB_torn {V : Vt} {D : Dk} {n : Nat} {a c : List UInt8} {p : Bool} (hK : DkOk n D) (hk : V.k ≤ 1) (ha : a.length ≤ 16384) (hc : c.length ≤ 16384) (hfit : (recB a c p).length ≤ (n / 2 - 1) * 64) (hd : D.dead = false) (hg : V.g.toNat < 4294967296)
    (hO : OldH V.g (hblk D.l n (1 - V.k))) (h : ¬ (savB V D n (recB a c p)).1 = 0) :
    (savB V D n (recB a c p)).1 = 20 ∧ (savB V D n (recB a c p)).2.1 = V ∧ (savB V D n (recB a c p)).2.2.dead = true ∧ (∀ i, 64 * (V.k * (n / 2)) ≤ i → i < 64 * (V.k * (n / 2) + n / 2) → (savB V D n (recB a c p)).2.2.l[i]? = D.l[i]?) ∧
    (Below_ (savB V D n (recB a c p)).2.2.l n (1 - V.k) V.g ∨ halfF (savB V D n (recB a c p)).2.2.l n (1 - V.k) = (⟨a, c, p⟩, V.g + 1, true)) := by
  have hl := recB_len a c p
  have hn4 := hK.n4
  have hnk : (1 - V.k) * (n / 2) + n / 2 ≤ n := by
    have : (1 - V.k) * (n / 2) ≤ 1 * (n / 2) := Nat.mul_le_mul_right _ (by omega)
    omega
  have hsep : V.k * (n / 2) + n / 2 ≤ (1 - V.k) * (n / 2) ∨ (1 - V.k) * (n / 2) + n / 2 ≤ V.k * (n / 2) := by
    rcases (show V.k = 0 ∨ V.k = 1 by omega) with hk0 | hk0 <;> rw [hk0]
    · left; simp
    · right; simp
  obtain ⟨b, hb⟩ : ∃ b, b = recB a c p := ⟨_, rfl⟩
  rw [← hb] at h hfit hl ⊢
  have hcnt : cntF b ≤ n / 2 - 1 ∧ b.length ≤ 64 * cntF b := by unfold cntF; omega
  have hold : ∀ l', (∀ i, 64 * ((1 - V.k) * (n / 2)) ≤ i → i < 64 * ((1 - V.k) * (n / 2)) + 64 → l'[i]? = D.l[i]?) → hblk l' n (1 - V.k) = hblk D.l n (1 - V.k) := fun l' hl' => slice_eq fun i h1 h2 => hl' i h1 h2
  unfold savB at h ⊢
  simp only at h ⊢
  by_cases h0 : (saveL n ((1 - V.k) * (n / 2) + 1) b (cntF b) 0 D).1 = 0
  · rw [if_pos h0] at h ⊢
    have hK1 := saveL_ok (base := (1 - V.k) * (n / 2) + 1) (b := b) (cntF b) 0 D hK
    obtain ⟨g1, g2, g3, g4, g5⟩ := saveL_get (n := n) (base := (1 - V.k) * (n / 2) + 1) (b := b) (cntF b) 0 D hK h0
    obtain ⟨D1, hD1⟩ : ∃ D1, D1 = (saveL n ((1 - V.k) * (n / 2) + 1) b (cntF b) 0 D).2 := ⟨_, rfl⟩
    rw [← hD1] at h g1 g2 g3 hK1 ⊢
    by_cases h1 : (wrF D1 n (((1 - V.k) * (n / 2) : Nat) : Int) (headF (V.g + 1) b)).1 = 0
    · rw [if_pos h1] at h
      exact absurd rfl h
    · rw [if_neg h1] at h ⊢
      have he := wrF_torn (show (1 - V.k) * (n / 2) < n by omega) (g3.trans hd) h1
      have hhl := headF_len (V.g + 1) b
      have htl : ((headF (V.g + 1) b).take D1.torn).length = D1.torn := by rw [List.length_take, hhl]; have := hK1.torn; omega
      have htn := hK1.torn
      rw [he]
      refine ⟨rfl, rfl, rfl, fun i h2 h3 => ?_, ?_⟩
      · show (putL D1.l (64 * ((1 - V.k) * (n / 2))) ((headF (V.g + 1) b).take D1.torn))[i]? = _
        rw [putL_get (by rw [hK1.len, htl]; omega), if_neg (by omega), g2 i (by omega)]
      · obtain ⟨L, hL⟩ : ∃ L, L = putL D1.l (64 * ((1 - V.k) * (n / 2))) ((headF (V.g + 1) b).take D1.torn) := ⟨_, rfl⟩
        show Below_ (putL D1.l (64 * ((1 - V.k) * (n / 2))) ((headF (V.g + 1) b).take D1.torn)) n (1 - V.k) V.g ∨ halfF (putL D1.l (64 * ((1 - V.k) * (n / 2))) ((headF (V.g + 1) b).take D1.torn)) n (1 - V.k) = _
        have hget := fun i => putL_get (l := D1.l) (x := (headF (V.g + 1) b).take D1.torn) (o := 64 * ((1 - V.k) * (n / 2))) (by rw [hK1.len, htl]; omega) i
        rw [← hL] at hget ⊢
        have hHl : (hblk D.l n (1 - V.k)).length = 64 := blkF_len hK.len (by omega)
        have hLh : hblk L n (1 - V.k) = (headF (V.g + 1) b).take D1.torn ++ (hblk D.l n (1 - V.k)).drop D1.torn := by
          apply List.ext_getElem?
          intro i
          rw [hblk, blkF, List.getElem?_take]
          split
          · rw [List.getElem?_drop, hget]
            by_cases hi : i < D1.torn
            · rw [if_pos (by omega), List.getElem?_append_left (by omega)]
              congr 1; omega
            · rw [if_neg (by omega), List.getElem?_append_right (by omega), htl, List.getElem?_drop, g2 _ (by omega), hblk, blkF, List.getElem?_take, if_pos (by omega), List.getElem?_drop]
              congr 1; omega
          · rw [List.getElem?_eq_none (by rw [List.length_append, htl, List.length_drop, hHl]; omega)]
        by_cases h56 : D1.torn < 56
        · exact .inl (torn_below hO hHl hg h56 hLh)
        · right
          have hfull : hblk L n (1 - V.k) = headF (V.g + 1) b := by
            rw [hLh]
            apply List.ext_getElem?
            intro i
            by_cases hi : i < D1.torn
            · rw [List.getElem?_append_left (by omega), List.getElem?_take, if_pos hi]
            · by_cases hi64 : i < 64
              · have hz : (hblk D.l n (1 - V.k)).getD i 0 = 0 := by
                  rcases hO with ⟨hO, _⟩ | ⟨g', b', hO, _⟩
                  · rw [hO]; exact zero_getD i
                  · rw [hO]; exact head_end _ _ i (by omega)
                have hz2 := head_end (V.g + 1) b i (by omega)
                rw [List.getElem?_append_right (by omega), htl, List.getElem?_drop, show D1.torn + (i - D1.torn) = i by omega]
                rw [List.getD_eq_getElem?_getD, List.getElem?_eq_getElem (by omega)] at hz hz2
                rw [List.getElem?_eq_getElem (by omega), List.getElem?_eq_getElem (by omega)]
                simp only [Option.getD_some] at hz hz2
                rw [hz, hz2]
              · rw [List.getElem?_eq_none (by rw [List.length_append, htl, List.length_drop, hHl]; omega), List.getElem?_eq_none (by omega)]
          have hdatE : (L.drop (64 * ((1 - V.k) * (n / 2) + 1))).take b.length = b := by
            apply List.ext_getElem?
            intro i
            rw [List.getElem?_take]
            split
            · rename_i hib
              rw [List.getElem?_drop, hget, if_neg (by omega), g1 _ (by omega) (by omega), List.getD_eq_getElem?_getD]
              rw [show 64 * ((1 - V.k) * (n / 2) + 1) + i - 64 * ((1 - V.k) * (n / 2) + 1) = i by omega, List.getElem?_eq_getElem hib]; rfl
            · rw [List.getElem?_eq_none (by omega)]
          subst hb
          exact half_good hn4 ha hc hfit hfull hdatE
  · rw [if_neg h0] at h ⊢
    obtain ⟨g1, g2, g3⟩ := saveL_torn (n := n) (base := (1 - V.k) * (n / 2) + 1) (b := b) (cntF b) 0 D hK hd (by omega) h0
    refine ⟨g1, rfl, g2, fun i h2 h3 => g3 i (by omega), .inl (old_below ?_)⟩
    rw [hold _ fun i h2 h3 => g3 i (by omega)]
    exact hO
/-! ### What a vault keeps -/
structure VInv (V : Vt) (D : Dk) (n : Nat) (lo : Option Rc) : Prop where
  ok : DkOk n D
  k : V.k ≤ 1
  g : V.g.toNat < 4294967295
  old : OldH V.g (hblk D.l n (1 - V.k))
  some : ∀ r, lo = some r → halfF D.l n V.k = (r, V.g, true) ∧ ∃ b, hblk D.l n V.k = headF V.g b
  none : lo = none → hblk D.l n V.k = zero64 ∧ V.g.toNat = 0
theorem vinv_new {n : Nat} (h : 4 ≤ n) (h' : n ≤ 1024) : VInv ⟨0, 1⟩ (newF n) n none :=
  ⟨new_ok h h', Nat.le_refl _, (by decide), .inl ⟨zero_blk fun i h1 h2 => zero_get (by simp at h2; omega), (by decide)⟩, (fun r h => by cases h), fun _ => ⟨zero_blk fun i h1 h2 => zero_get (by simp at h2; omega), rfl⟩⟩
theorem vinv_open {V : Vt} {D : Dk} {n : Nat} {r : Rc} (h : VInv V D n (some r)) : openF D.l n = ⟨V.g, V.k, r, true⟩ := open_one h.k (h.some r rfl).1 (old_below h.old)
theorem vinv_none {V : Vt} {D : Dk} {n : Nat} (h : VInv V D n none) : openF D.l n = ⟨0, 1, rc0, false⟩ := by
  have h1 : (halfF D.l n V.k).2.2 = false := half_zero (h.none rfl).1
  have h2 : (halfF D.l n (1 - V.k)).2.2 = false := by
    rcases h.old with ⟨hz, _⟩ | ⟨g', b, _, hg⟩
    · exact half_zero hz
    · have := (h.none rfl).2; omega
  rcases (show V.k = 0 ∨ V.k = 1 by have := h.k; omega) with hk | hk <;> rw [hk] at h1 h2
  · exact open_none h1 h2
  · exact open_none h2 h1
theorem vinv_dk {V : Vt} {D D' : Dk} {n : Nat} {lo : Option Rc} (h : VInv V D n lo) (hl : D'.l = D.l) (hK : DkOk n D') : VInv V D' n lo :=
  ⟨hK, h.k, h.g, by rw [hl]; exact h.old, by rw [hl]; exact h.some, by rw [hl]; exact h.none⟩
/-- The other half's place. -/
theorem one_sub {k : Nat} (h : k ≤ 1) : 1 - (1 - k) = k := by omega
theorem vinv_save {V V' : Vt} {D D' : Dk} {n : Nat} {lo : Option Rc} {r : Rc} (h : VInv V D n lo) (hg : V.g.toNat < 4294967294) (hs : saveF V D n r = (0, V', D')) : VInv V' D' n (some r) ∧ D'.dead = D.dead ∧ V'.g.toNat = V.g.toNat + 1 := by
  obtain ⟨q1, q2, q3, q4, q5, q6, q7⟩ := saveF_good h.ok h.k hs
  have hgs : (V.g + 1).toNat = V.g.toNat + 1 := by rw [UInt64.toNat_add]; show (V.g.toNat + 1) % 2 ^ 64 = _; omega
  subst q1
  have hold : hblk D'.l n V.k = hblk D.l n V.k := slice_eq fun i h1 h2 => q4 i h1 (by have := h.ok.n4; omega)
  refine ⟨⟨q7, by show 1 - V.k ≤ 1; omega, by show (V.g + 1).toNat < _; omega, ?_, fun r' hr => ?_, (fun h => by cases h)⟩, q5, hgs⟩
  · show OldH (V.g + 1) (hblk D'.l n (1 - (1 - V.k)))
    rw [one_sub h.k, hold]
    cases lo with
    | none => exact .inl ⟨(h.none rfl).1, by rw [hgs, (h.none rfl).2]; exact Nat.le_refl 1⟩
    | some r0 =>
      obtain ⟨b, hb⟩ := (h.some r0 rfl).2
      exact .inr ⟨V.g, b, hb, by rw [hgs]⟩
  · injection hr with hr
    subst hr
    exact ⟨q2, _, q3⟩
theorem saveF_code {V : Vt} {D : Dk} {n : Nat} {r : Rc} {lo : Option Rc} (h : VInv V D n lo) (hd : D.dead = false) :
    (∃ V' D', saveF V D n r = (0, V', D')) ∨ saveF V D n r = (22, V, D) ∨
    ∃ D', saveF V D n r = (20, V, D') ∧ DkOk n D' ∧ D'.dead = true ∧ (openF D'.l n = openF D.l n ∨ openF D'.l n = ⟨V.g + 1, 1 - V.k, r, true⟩) := by
  by_cases hc : ((n / 2 - 1) * 64 < (recB r.a r.c r.p).length ∨ 16384 < r.a.length) ∨ 16384 < r.c.length
  · exact .inr (.inl (if_pos hc))
  · have h0 : saveF V D n r = savB V D n (recB r.a r.c r.p) := if_neg hc
    by_cases hz : (savB V D n (recB r.a r.c r.p)).1 = 0
    · left
      rw [h0]
      generalize savB V D n (recB r.a r.c r.p) = s at hz
      obtain ⟨e, V', D'⟩ := s
      exact ⟨V', D', by rw [show e = 0 from hz]⟩
    · right; right
      have hK := (savB_ok (V := V) (b := recB r.a r.c r.p) h.ok h.k).1
      obtain ⟨g1, g2, g3, g4, g5⟩ := savB_torn (V := V) (a := r.a) (c := r.c) (p := r.p) h.ok h.k (by omega) (by omega) (by omega) hd (by have := h.g; omega) h.old hz
      rw [h0]
      generalize savB V D n (recB r.a r.c r.p) = s at g1 g2 g3 g4 g5 hK
      obtain ⟨e, V', D'⟩ := s
      simp only at g1 g2 g3 g4 g5 hK
      subst g1 g2
      refine ⟨D', rfl, hK, g3, ?_⟩
      have hgs : (V'.g + 1).toNat = V'.g.toNat + 1 := by rw [UInt64.toNat_add]; have := h.g; show (V'.g.toNat + 1) % 2 ^ 64 = _; omega
      have hcong : halfF D'.l n V'.k = halfF D.l n V'.k := half_congr h.ok.n4 g4
      rcases g5 with g5 | g5
      · left
        cases lo with
        | some r0 =>
          rw [vinv_open h]
          exact open_one h.k (hcong.trans (h.some r0 rfl).1) g5
        | none =>
          rw [vinv_none h]
          have h1 : (halfF D'.l n V'.k).2.2 = false := by rw [hcong]; exact half_zero (h.none rfl).1
          have h2 : (halfF D'.l n (1 - V'.k)).2.2 = false := by
            rcases g5 with g5 | g5
            · exact g5
            · have := (h.none rfl).2; omega
          rcases (show V'.k = 0 ∨ V'.k = 1 by have := h.k; omega) with hk | hk <;> rw [hk] at h1 h2
          · exact open_none h1 h2
          · exact open_none h2 h1
      · right
        refine open_one (by omega) g5 ?_
        rw [one_sub h.k, hcong]
        cases lo with
        | some r0 => right; rw [(h.some r0 rfl).1, hgs]; exact Nat.lt_succ_self _
        | none => exact .inl (half_zero (h.none rfl).1)



end Go.Proofs.YtfhalnobaeogkaaDoor
