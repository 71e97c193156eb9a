/- What is proved: the plain law of a vault: what is saved is found. -/
import Derived.Test.YtfhalnobaeogkaaDoorProg
import Derived.Test.YtfhalnobaeogkaaDoorFwSep
import Derived.KernelRfl
import Derived.Test.YtfhalnobaeogkaaDoorFwSto
import Derived.Test.YtfhalnobaeogkaaDoorFwVlt
import Derived.Test.YtfhalnobaeogkaaDoorFwApp
import Derived.Test.YtfhalnobaeogkaaDoorFwWord
import Derived.Test.YtfhalnobaeogkaaDoorFwPkt
import Derived.Test.YtfhalnobaeogkaaDoorFwTok
import Derived.Test.YtfhalnobaeogkaaDoorDig
import Derived.Test.YtfhalnobaeogkaaDoorSum
import Derived.Test.YtfhalnobaeogkaaDoorWire
import Derived.Test.YtfhalnobaeogkaaDoorPktW
import Derived.Test.YtfhalnobaeogkaaDoorPktR
import Derived.Test.YtfhalnobaeogkaaDoorWireA
import Derived.Test.YtfhalnobaeogkaaDoorDisk
import Derived.Test.YtfhalnobaeogkaaDoorHead
import Derived.Test.YtfhalnobaeogkaaDoorHalf
import Derived.Test.YtfhalnobaeogkaaDoorOpen
import Derived.Test.YtfhalnobaeogkaaDoorSave
set_option linter.unusedVariables false
set_option linter.unusedSimpArgs false
namespace Go.Proofs.YtfhalnobaeogkaaDoor
open Go Go.RowKit Go.Fw




/-! ### Numbers of bytes -/
theorem sh8 (a : UInt32) (b : UInt8) (h : a.toNat < 16777216) : (a <<< UInt32.ofNat 8 ||| b.toUInt32).toNat = a.toNat * 256 + b.toNat := by
  have hb := b.toNat_lt
  rw [UInt32.toNat_or, UInt32.toNat_shiftLeft, UInt8.toNat_toUInt32, show (UInt32.ofNat 8).toNat % 32 = 8 from rfl, Nat.mod_eq_of_lt (by rw [Nat.shiftLeft_eq]; omega), ← Nat.shiftLeft_add_eq_or_of_lt (by omega), Nat.shiftLeft_eq]
theorem u32A_lt (l : List UInt8) : ∀ i, i ≤ 4 → (u32A l i).toNat < 256 ^ i
  | 0, _ => by show (0 : UInt32).toNat < 1; decide
  | i + 1, h => by
    have ih := u32A_lt l i (by omega)
    have hp : 256 ^ i ≤ 256 ^ 3 := Nat.pow_le_pow_right (by decide) (by omega)
    have hb := (l.getD i 0).toNat_lt
    rw [u32A, sh8 _ _ (by omega), Nat.pow_succ]
    omega
theorem u32A_nat (l : List UInt8) : (u32A l 4).toNat = (l.getD 0 0).toNat * 16777216 + (l.getD 1 0).toNat * 65536 + (l.getD 2 0).toNat * 256 + (l.getD 3 0).toNat := by
  have h1 := u32A_lt l 1 (by decide)
  have h2 := u32A_lt l 2 (by decide)
  have h3 := u32A_lt l 3 (by decide)
  have e4 : (u32A l 4).toNat = (u32A l 3).toNat * 256 + (l.getD 3 0).toNat := by rw [u32A, sh8 _ _ (by omega)]
  have e3 : (u32A l 3).toNat = (u32A l 2).toNat * 256 + (l.getD 2 0).toNat := by rw [u32A, sh8 _ _ (by omega)]
  have e2 : (u32A l 2).toNat = (u32A l 1).toNat * 256 + (l.getD 1 0).toNat := by rw [u32A, sh8 _ _ (by omega)]
  have e1 : (u32A l 1).toNat = 0 * 256 + (l.getD 0 0).toNat := by rw [u32A, sh8 _ _ (by show (0 : UInt32).toNat < 16777216; decide)]; rfl
  rw [e4, e3, e2, e1]
  clear h1 h2 h3 e1 e2 e3 e4
  omega
theorem byte_shr (x : UInt32) (k : Nat) (hk : k < 32) : ((x >>> UInt32.ofNat k).toUInt8).toNat = x.toNat / 2 ^ k % 256 := by
  have : (UInt32.ofNat k).toNat % 32 = k := by rw [UInt32.toNat_ofNat']; omega
  rw [UInt32.toNat_toUInt8, UInt32.toNat_shiftRight, this, Nat.shiftRight_eq_div_pow]
theorem u32A_u32B (x : UInt32) (r : List UInt8) : u32A (u32B x ++ r) 4 = x := by
  apply UInt32.toNat_inj.1
  rw [u32A_nat]
  have hx := x.toNat_lt
  have e0 : ((u32B x ++ r).getD 0 0).toNat = x.toNat / 2 ^ 24 % 256 := byte_shr x 24 (by decide)
  have e1 : ((u32B x ++ r).getD 1 0).toNat = x.toNat / 2 ^ 16 % 256 := byte_shr x 16 (by decide)
  have e2 : ((u32B x ++ r).getD 2 0).toNat = x.toNat / 2 ^ 8 % 256 := byte_shr x 8 (by decide)
  have e3 : ((u32B x ++ r).getD 3 0).toNat = x.toNat % 256 := UInt32.toNat_toUInt8 x
  rw [e0, e1, e2, e3]
  omega
theorem u32R_u32B (x : UInt32) (r : List UInt8) : u32R (some (u32B x ++ r)) = (x, some r) := by
  have h4 : 4 ≤ (u32B x ++ r).length := by rw [List.length_append, u32B_len]; omega
  have ht : takeR 4 (some (u32B x ++ r)) = (some (u32B x), some r) := by
    simp only [takeR, if_pos h4]
    rfl
  have hu := u32A_u32B x []
  rw [List.append_nil] at hu
  simp only [u32R, ht, hu]
theorem ofNat_len {n : Nat} (h : n < 4294967296) : (UInt32.ofNat n).toNat = n := by rw [UInt32.toNat_ofNat']; omega
theorem textR_textB (a r : List UInt8) (h : a.length ≤ 16384) : textR (some (textB a ++ r)) = (a, some r) := by
  have hn := ofNat_len (n := a.length) (by omega)
  have hu : u32R (some (textB a ++ r)) = (UInt32.ofNat a.length, some (a ++ r)) := by rw [textB, List.append_assoc]; exact u32R_u32B _ _
  have ht : takeR a.length (some (a ++ r)) = (some a, some r) := by
    simp only [takeR, if_pos (show a.length ≤ (a ++ r).length by rw [List.length_append]; omega), List.take_left, List.drop_left]
  rw [textR, hu, if_neg (by rw [hn]; omega)]
  simp only [hn, ht, Option.getD_some]
theorem parse_rec (a c : List UInt8) (p : Bool) (ha : a.length ≤ 16384) (hc : c.length ≤ 16384) : parseF (recB a c p) = (⟨a, c, p⟩, true) := by
  have h1 : textR (some (recB a c p)) = (a, some (textB c ++ [if p then 1 else 0])) := by rw [recB, List.append_assoc]; exact textR_textB _ _ ha
  have h2 := textR_textB c [if p then 1 else 0] hc
  simp only [parseF, h1, h2]
  cases p <;> rfl
theorem gen_join (g : UInt64) : (g >>> UInt64.ofNat 32).toUInt32.toUInt64 <<< UInt64.ofNat 32 ||| g.toUInt32.toUInt64 = g := by
  apply UInt64.toNat_inj.1
  have hg := g.toNat_lt
  rw [UInt64.toNat_or, UInt64.toNat_shiftLeft, UInt32.toNat_toUInt64, UInt32.toNat_toUInt64, UInt64.toNat_toUInt32, UInt64.toNat_toUInt32, UInt64.toNat_shiftRight, show (UInt64.ofNat 32).toNat % 64 = 32 from rfl, Nat.shiftRight_eq_div_pow, Nat.mod_eq_of_lt (by rw [Nat.shiftLeft_eq]; omega), ← Nat.shiftLeft_add_eq_or_of_lt (by omega), Nat.shiftLeft_eq]
  omega
theorem hs0_head (g : UInt64) (b : List UInt8) : hs0 (headF g b) = some (u32B (g >>> UInt64.ofNat 32).toUInt32 ++ (u32B g.toUInt32 ++ u32B (UInt32.ofNat b.length))) := by
  have : (headF g b).take 16 = hdr g b.length := by
    rw [headF, List.append_assoc, List.append_assoc]
    exact List.take_left' (hdr_len _ _)
  rw [hs0, this]
  rfl
theorem hgen_head (g : UInt64) (b : List UInt8) : hgen (headF g b) = g := by
  simp only [hgen, hs0_head, u32R_u32B]
  exact gen_join g
theorem hsize_head (g : UInt64) (b : List UInt8) (h : b.length < 4294967296) : hsize (headF g b) = b.length := by
  have h3 : u32R (some (u32B (UInt32.ofNat b.length))) = (UInt32.ofNat b.length, some []) := by
    have := u32R_u32B (UInt32.ofNat b.length) []
    rwa [List.append_nil] at this
  simp only [hsize, hs0_head, u32R_u32B, h3]
  exact ofNat_len h
/-! ### Bytes written -/
theorem putL_get {l x : List UInt8} {o : Nat} (h : o + x.length ≤ l.length) (i : Nat) : (putL l o x)[i]? = if o ≤ i ∧ i < o + x.length then x[i - o]? else l[i]? := by
  have ht : (l.take o).length = o := by rw [List.length_take]; omega
  rw [putL, List.append_assoc]
  by_cases h1 : i < o
  · rw [List.getElem?_append_left (by omega), List.getElem?_take, if_pos h1, if_neg (by omega)]
  · rw [List.getElem?_append_right (by omega), ht]
    by_cases h2 : i < o + x.length
    · rw [List.getElem?_append_left (by omega), if_pos ⟨by omega, h2⟩]
    · rw [List.getElem?_append_right (by omega), List.getElem?_drop, if_neg (by omega)]
      congr 1; omega
theorem wrF_zero {D : Dk} {n : Nat} {i : Nat} {x : List UInt8} (h : (wrF D n (i : Int) x).1 = 0) : i < n ∧ D.dead = false ∧ ¬ D.fuel = 0 ∧ wrF D n (i : Int) x = (0, { D with l := putL D.l (64 * i) x, fuel := if 0 < D.fuel then D.fuel - 1 else D.fuel }) := by
  unfold wrF at h ⊢
  split at h
  · cases h
  · split at h
    · cases h
    · split at h
      · cases h
      · rename_i h1 h2 h3
        refine ⟨by omega, by simpa using h2, h3, ?_⟩
        rw [if_neg h1, if_neg h2, if_neg h3]
        rfl
theorem wrF_free {D : Dk} {n : Nat} {i : Nat} {x : List UInt8} (hi : i < n) (hd : D.dead = false) (hf : D.fuel = -1) : wrF D n (i : Int) x = (0, { D with l := putL D.l (64 * i) x }) := by
  rw [wrF, if_neg (by omega), if_neg (by rw [hd]; exact Bool.false_ne_true), if_neg (by omega), if_neg (by omega)]
  cases D
  simp_all
theorem chunk_get (b : List UInt8) (j r : Nat) (hr : r < 64) : (chunkF b j)[r]? = some (b.getD (64 * j + r) 0) := by
  have hl : ((b.drop (64 * j)).take 64).length = min 64 (b.length - 64 * j) := by rw [List.length_take, List.length_drop]
  rw [chunkF]
  by_cases h : 64 * j + r < b.length
  · rw [List.getElem?_append_left (by omega), List.getElem?_take, if_pos hr, List.getElem?_drop, List.getD_eq_getElem?_getD, List.getElem?_eq_getElem h]; rfl
  · rw [List.getElem?_append_right (by omega), List.getElem?_drop, List.getElem?_replicate, List.length_drop, if_pos (by omega), List.getD_eq_getElem?_getD, List.getElem?_eq_none (by omega)]; rfl
/-- What the blocks hold behind a saving that went well so far; the rest is as it was. -/
theorem saveL_get {n base : Nat} {b : List UInt8} : ∀ (f j : Nat) (D : Dk), DkOk n D → (saveL n base b f j D).1 = 0 →
    (∀ i, 64 * (base + j) ≤ i → i < 64 * (base + j + f) → (saveL n base b f j D).2.l[i]? = some (b.getD (i - 64 * base) 0)) ∧
    (∀ i, (i < 64 * (base + j) ∨ 64 * (base + j + f) ≤ i) → (saveL n base b f j D).2.l[i]? = D.l[i]?) ∧ (saveL n base b f j D).2.dead = D.dead ∧ (D.fuel = -1 → (saveL n base b f j D).2.fuel = -1) ∧ (0 < f → base + j + f ≤ n)
  | 0, j, D, hK, h => ⟨fun i h1 h2 => by omega, fun i _ => rfl, rfl, id, fun h => by omega⟩
  | f + 1, j, D, hK, h => by
    rw [saveL] at h ⊢
    split at h
    · rename_i h0
      rw [if_pos h0]
      obtain ⟨hi, hd, hf, he⟩ := wrF_zero h0
      have hK' := wrF_ok (n := n) (i := ((base + j : Nat) : Int)) hK (chunkF_len b j)
      obtain ⟨g1, g2, g3, g4, g5⟩ := saveL_get f (j + 1) _ hK' h
      have hl2 : (wrF D n ((base + j : Nat) : Int) (chunkF b j)).2.l = putL D.l (64 * (base + j)) (chunkF b j) := by rw [he]
      have hcl := chunkF_len b j
      have hfit : 64 * (base + j) + (chunkF b j).length ≤ D.l.length := by rw [hK.len, hcl]; omega
      refine ⟨fun i h1 h2 => ?_, fun i h1 => ?_, ?_, fun hf => ?_, fun _ => ?_⟩
      · by_cases hlt : i < 64 * (base + (j + 1))
        · rw [g2 i (.inl hlt), hl2, putL_get hfit, if_pos ⟨h1, by rw [hcl]; omega⟩, chunk_get b j _ (by omega)]
          congr 2; omega
        · exact g1 i (by omega) (by omega)
      · rw [g2 i (by omega), hl2, putL_get hfit, if_neg (by rw [hcl]; omega)]
      · rw [g3, he]
      · exact g4 (by rw [he]; show (if 0 < D.fuel then D.fuel - 1 else D.fuel) = -1; rw [if_neg (by omega)]; exact hf)
      · by_cases hf0 : 0 < f
        · have := g5 hf0; omega
        · omega
    · rename_i h0
      exact absurd h h0
theorem saveL_free {n base : Nat} {b : List UInt8} : ∀ (f j : Nat) (D : Dk), D.dead = false → D.fuel = -1 → base + j + f ≤ n → (saveL n base b f j D).1 = 0
  | 0, _, _, _, _, _ => rfl
  | f + 1, j, D, hd, hf, h => by
    have he := wrF_free (x := chunkF b j) (show base + j < n by omega) hd hf
    rw [saveL, if_pos (by rw [he])]
    exact saveL_free f (j + 1) _ (by rw [he]; exact hd) (by rw [he]; exact hf) (by omega)
/-! ### Halves -/
theorem slice_eq {l l' : List UInt8} {a s : Nat} (h : ∀ i, a ≤ i → i < a + s → l[i]? = l'[i]?) : (l.drop a).take s = (l'.drop a).take s := by
  apply List.ext_getElem?
  intro i
  rw [List.getElem?_take, List.getElem?_take]
  split
  · rw [List.getElem?_drop, List.getElem?_drop, h (a + i) (by omega) (by omega)]
  · rfl
theorem half_congr {l l' : List UInt8} {n k : Nat} (hn : 4 ≤ n) (h : ∀ i, 64 * (k * (n / 2)) ≤ i → i < 64 * (k * (n / 2) + n / 2) → l[i]? = l'[i]?) : halfF l n k = halfF l' n k := by
  have hb : hblk l n k = hblk l' n k := slice_eq fun i h1 h2 => h i h1 (by omega)
  unfold halfF
  rw [hb]
  by_cases hs : (n / 2 - 1) * 64 < hsize (hblk l' n k)
  · rw [if_pos hs, if_pos hs]
  · rw [if_neg hs, if_neg hs]
    have hd : hdat l n k = hdat l' n k := by
      unfold hdat
      rw [hb]
      exact slice_eq fun i h1 h2 => h i (by omega) (by omega)
    rw [hd]
/-- A half in which a record stands. -/
theorem half_good {l : List UInt8} {n k : Nat} {g : UInt64} {a c : List UInt8} {p : Bool} (hn : 4 ≤ n) (ha : a.length ≤ 16384) (hc : c.length ≤ 16384) (hfit : (recB a c p).length ≤ (n / 2 - 1) * 64) (hh : hblk l n k = headF g (recB a c p))
    (hd : (l.drop (64 * (k * (n / 2) + 1))).take (recB a c p).length = recB a c p) : halfF l n k = (⟨a, c, p⟩, g, true) := by
  have hl := recB_len a c p
  have hs : hsize (hblk l n k) = (recB a c p).length := by rw [hh]; exact hsize_head _ _ (by omega)
  have hdd : hdat l n k = recB a c p := by rw [hdat, hs]; exact hd
  rw [halfF, hs, if_neg (by omega), hdd, if_neg (by rw [hh, hgen_head]; exact fun h => h rfl), hh, hgen_head, parse_rec a c p ha hc]
theorem head_ne_zero (g : UInt64) (b : List UInt8) (h : headF g b = zero64) : False := by
  have h1 : (headF g b).getD 0 0 = 77 := rfl
  rw [h] at h1
  exact absurd h1 (by decide)
/-- A half whose head was never written. -/
theorem half_zero {l : List UInt8} {n k : Nat} (hh : hblk l n k = zero64) : (halfF l n k).2.2 = false := by
  unfold halfF
  split
  · rfl
  · split
    · rfl
    · rename_i h
      exact absurd (hh ▸ Classical.not_not.1 h) (head_ne_zero _ _)
/-- What is saved is found; the other half is as it was. -/
theorem savB_good {V V' : Vt} {D D' : Dk} {n : Nat} {a c : List UInt8} {p : Bool} (hK : DkOk n D) (hk : V.k ≤ 1) (ha : a.length ≤ 16384) (hc : c.length ≤ 16384) (hfit : (recB a c p).length ≤ (n / 2 - 1) * 64) (h : savB V D n (recB a c p) = (0, V', D')) :
    V' = ⟨V.g + 1, 1 - V.k⟩ ∧ halfF D'.l n (1 - V.k) = (⟨a, c, p⟩, V.g + 1, true) ∧ hblk D'.l n (1 - V.k) = headF (V.g + 1) (recB a c p) ∧
    (∀ i, 64 * (V.k * (n / 2)) ≤ i → i < 64 * (V.k * (n / 2) + n / 2) → D'.l[i]? = D.l[i]?) ∧ D'.dead = D.dead ∧ (D.fuel = -1 → D'.fuel = -1) ∧ DkOk n D' := by
  have hok := savB_ok (V := V) (b := recB a c p) hK hk
  have hl := recB_len a c p
  generalize hb : recB a c p = b at *
  rw [h] at hok
  have hn4 := hK.n4
  have hnk : (1 - V.k) * (n / 2) + n / 2 ≤ n := by
    have : (1 - V.k) * (n / 2) ≤ 1 * (n / 2) := Nat.mul_le_mul_right _ (by omega)
    omega
  have hsep : V.k * (n / 2) + n / 2 ≤ (1 - V.k) * (n / 2) ∨ (1 - V.k) * (n / 2) + n / 2 ≤ V.k * (n / 2) := by
    rcases (show V.k = 0 ∨ V.k = 1 by omega) with hk0 | hk0 <;> rw [hk0]
    · left; simp
    · right; simp
  unfold savB at h
  simp only at h
  split at h
  · rename_i h0
    split at h
    · rename_i h1
      simp only [Prod.mk.injEq] at h
      obtain ⟨_, hv, hd⟩ := h
      have hK1 := saveL_ok (base := (1 - V.k) * (n / 2) + 1) (b := b) (cntF b) 0 D hK
      obtain ⟨g1, g2, g3, g4, g5⟩ := saveL_get (n := n) (base := (1 - V.k) * (n / 2) + 1) (b := b) (cntF b) 0 D hK h0
      obtain ⟨q1, q2, q3, q4⟩ := wrF_zero h1
      have hlD : D'.l = putL (saveL n ((1 - V.k) * (n / 2) + 1) b (cntF b) 0 D).2.l (64 * ((1 - V.k) * (n / 2))) (headF (V.g + 1) b) := by rw [← hd, q4]
      have hhl := headF_len (V.g + 1) b
      have hcnt : cntF b ≤ n / 2 - 1 ∧ b.length ≤ 64 * cntF b := by unfold cntF; omega
      have hfit2 : 64 * ((1 - V.k) * (n / 2)) + (headF (V.g + 1) b).length ≤ (saveL n ((1 - V.k) * (n / 2) + 1) b (cntF b) 0 D).2.l.length := by rw [hK1.len, hhl]; omega
      have hget := fun i => putL_get hfit2 i
      rw [← hlD] at hget
      have hblkE : hblk D'.l n (1 - V.k) = headF (V.g + 1) b := by
        apply List.ext_getElem?
        intro i
        rw [hblk, blkF, List.getElem?_take]
        split
        · rw [List.getElem?_drop, hget, if_pos ⟨by omega, by rw [hhl]; omega⟩]
          congr 1; omega
        · rw [List.getElem?_eq_none (by rw [hhl]; omega)]
      have hdatE : (D'.l.drop (64 * ((1 - V.k) * (n / 2) + 1))).take b.length = b := by
        apply List.ext_getElem?
        intro i
        rw [List.getElem?_take]
        split
        · rename_i hib
          rw [List.getElem?_drop, hget, if_neg (by rw [hhl]; omega), g1 _ (by omega) (by omega), List.getD_eq_getElem?_getD]
          rw [show 64 * ((1 - V.k) * (n / 2) + 1) + i - 64 * ((1 - V.k) * (n / 2) + 1) = i by omega, List.getElem?_eq_getElem hib]; rfl
        · rw [List.getElem?_eq_none (by omega)]
      refine ⟨hv.symm, ?_, hblkE, fun i h2 h3 => ?_, by rw [← hd, q4]; exact g3, fun hf => ?_, hok.1⟩
      · subst hb
        exact half_good hn4 ha hc hfit hblkE hdatE
      · rw [hget, if_neg (by rw [hhl]; omega), g2 i (by omega)]
      · rw [← hd, q4]
        show (if 0 < _ then _ - 1 else _) = (-1 : Int)
        rw [g4 hf, if_neg (by decide)]
    · rename_i h1
      simp only [Prod.mk.injEq] at h
      exact absurd h.1 h1
  · rename_i h0
    simp only [Prod.mk.injEq] at h
    exact absurd h.1 h0
theorem savB_free {V : Vt} {D : Dk} {n : Nat} {b : List UInt8} (hK : DkOk n D) (hk : V.k ≤ 1) (hfit : b.length ≤ (n / 2 - 1) * 64) (hd : D.dead = false) (hf : D.fuel = -1) : (savB V D n b).1 = 0 := by
  have hn4 := hK.n4
  have hnk : (1 - V.k) * (n / 2) + n / 2 ≤ n := by
    have : (1 - V.k) * (n / 2) ≤ 1 * (n / 2) := Nat.mul_le_mul_right _ (by omega)
    omega
  have hcnt : cntF b ≤ n / 2 - 1 := by unfold cntF; omega
  have h0 := saveL_free (n := n) (base := (1 - V.k) * (n / 2) + 1) (b := b) (cntF b) 0 D hd hf (by omega)
  obtain ⟨g1, g2, g3, g4, g5⟩ := saveL_get (n := n) (base := (1 - V.k) * (n / 2) + 1) (b := b) (cntF b) 0 D hK h0
  have h1 := wrF_free (D := (saveL n ((1 - V.k) * (n / 2) + 1) b (cntF b) 0 D).2) (x := headF (V.g + 1) b) (show (1 - V.k) * (n / 2) < n by omega) (g3.trans hd) (g4 hf)
  unfold savB
  simp only
  rw [if_pos h0, if_pos (by rw [h1])]
theorem open_two (l : List UInt8) (n : Nat) : openF l n = openStep l n 1 (openStep l n 0 ⟨0, 1, rc0, false⟩) := rfl
theorem open_none {l : List UInt8} {n : Nat} (h0 : (halfF l n 0).2.2 = false) (h1 : (halfF l n 1).2.2 = false) : openF l n = ⟨0, 1, rc0, false⟩ := by
  have e0 : openStep l n 0 ⟨0, 1, rc0, false⟩ = ⟨0, 1, rc0, false⟩ := if_neg (by rw [h0]; exact fun h => Bool.false_ne_true h.1)
  rw [open_two, e0]
  exact if_neg (by rw [h1]; exact fun h => Bool.false_ne_true h.1)
/-- One half is right, the other one is not, or older. -/
theorem open_one {l : List UInt8} {n k : Nat} {r : Rc} {g : UInt64} (hk : k ≤ 1) (h : halfF l n k = (r, g, true)) (h' : (halfF l n (1 - k)).2.2 = false ∨ (halfF l n (1 - k)).2.1.toNat < g.toNat) : openF l n = ⟨g, k, r, true⟩ := by
  rw [open_two]
  rcases (show k = 0 ∨ k = 1 by omega) with rfl | rfl
  · have e0 : openStep l n 0 ⟨0, 1, rc0, false⟩ = ⟨g, 0, r, true⟩ := by
      rw [openStep, if_pos ⟨by rw [h], .inl (by decide)⟩, h]
    rw [e0, openStep, if_neg]
    rintro ⟨q1, q2⟩
    rcases q2 with q2 | q2
    · exact q2 rfl
    · rcases h' with h' | h'
      · rw [show 1 - 0 = 1 from rfl, q1] at h'; cases h'
      · have : (halfF l n 1).2.1.toNat < g.toNat := h'
        have q2' : g.toNat < (halfF l n 1).2.1.toNat := q2
        omega
  · have h'' : (halfF l n 0).2.2 = false ∨ (halfF l n 0).2.1.toNat < g.toNat := h'
    have key : ∀ s : OS, (s.f = true → s.g.toNat < g.toNat) → openStep l n 1 s = ⟨g, 1, r, true⟩ := fun s hs => by
      rw [openStep, if_pos, h]
      refine ⟨by rw [h], ?_⟩
      by_cases hf : s.f = true
      · exact .inr (by rw [h]; exact hs hf)
      · exact .inl hf
    refine key _ ?_
    unfold openStep
    split
    · rename_i hc
      intro _
      rcases h'' with h0 | h0
      · rw [h0] at hc; exact absurd hc.1 Bool.false_ne_true
      · exact h0
    · intro hf; cases hf
theorem zero_get {n i : Nat} (h : i < 64 * n) : (newF n).l[i]? = some 0 := by
  show (List.replicate (64 * n) (0 : UInt8))[i]? = some 0
  rw [List.getElem?_replicate, if_pos h]
theorem zero_blk {l : List UInt8} {n k : Nat} (h : ∀ i, 64 * (k * (n / 2)) ≤ i → i < 64 * (k * (n / 2)) + 64 → l[i]? = some 0) : hblk l n k = zero64 := by
  apply List.ext_getElem?
  intro i
  rw [hblk, blkF, List.getElem?_take, zero64, List.getElem?_replicate]
  split
  · rw [List.getElem?_drop, h _ (by omega) (by omega)]
  · rfl



end Go.Proofs.YtfhalnobaeogkaaDoor
