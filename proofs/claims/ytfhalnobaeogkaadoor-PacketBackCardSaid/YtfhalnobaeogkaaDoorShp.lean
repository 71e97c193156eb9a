/- What is proved: writers and readers, with or without keys, under one form. -/
import Derived.Test.YtfhalnobaeogkaaDoorProg
import Derived.Test.YtfhalnobaeogkaaDoorFwSep
import Derived.KernelRfl
import Derived.Test.YtfhalnobaeogkaaDoorFwApp
import Derived.Test.YtfhalnobaeogkaaDoorFwWord
import Derived.Test.YtfhalnobaeogkaaDoorFwPkt
import Derived.Test.YtfhalnobaeogkaaDoorFwTok
import Derived.Test.YtfhalnobaeogkaaDoorFwFour
import Derived.Test.YtfhalnobaeogkaaDoorDig
import Derived.Test.YtfhalnobaeogkaaDoorSum
import Derived.Test.YtfhalnobaeogkaaDoorWire
import Derived.Test.YtfhalnobaeogkaaDoorPktW
import Derived.Test.YtfhalnobaeogkaaDoorPktR
import Derived.Test.YtfhalnobaeogkaaDoorLeaf
import Derived.Test.YtfhalnobaeogkaaDoorCip
import Derived.Test.YtfhalnobaeogkaaDoorMac
import Derived.Test.YtfhalnobaeogkaaDoorKey
import Derived.Test.YtfhalnobaeogkaaDoorPktK
import Derived.Test.YtfhalnobaeogkaaDoorLawN
import Derived.Test.YtfhalnobaeogkaaDoorCipL
import Derived.Test.YtfhalnobaeogkaaDoorPktS
set_option linter.unusedVariables false
set_option linter.unusedSimpArgs false
namespace Go.Proofs.YtfhalnobaeogkaaDoor
open Go Go.RowKit Go.Fw




structure KS where
  K : List UInt8
  C : List UInt8
  L : List UInt8
  ml : List UInt8
structure HT where
  seq : UInt32
  n : Nat
  key : Option KS
abbrev kbE (okb : Option Nat) (B : List UInt8) : Ent := ⟨true, okb, blkB 129 B⟩
abbrev macE (m : Nat) (ml : List UInt8) (mp : List Value) : Ent := ⟨true, some m, blk 5 (ml.map vB ++ mp)⟩
abbrev rowE (g : Option Nat) (l : List UInt8) (gp : List Value) : Ent := ⟨true, g, blk 5 (l.map vB ++ gp)⟩
/-- A writer in memory. -/
inductive WShape (w00 : World) (b : Nat) : HT → List Ent → Prop
  | plain (seq : UInt32) (n : Nat) : WShape w00 b ⟨seq, n, none⟩ [⟨true, some b, wrt seq (.pointer none) (.slice none 0 0) n⟩]
  | keyed (seq : UInt32) (n : Nat) (K C L ml : List UInt8) (s m : Nat) (mp : List Value) (okb : Option Nat) (B : List UInt8) (lv : Value) (hK : K.length = 176) (hC : C.length = 16) (hml : ml.length = 32) (hm : 32 + mp.length ≤ 9223372036854775807) (hL : SRd w00 [kbE okb B] lv (L.map vB)) :
      WShape w00 b ⟨seq, n, some ⟨K, C, L, ml⟩⟩ [⟨true, some b, wrt seq (.pointer (some ⟨s, 0, none⟩)) (.slice (some ⟨m, 0, none⟩) 32 (32 + mp.length)) n⟩, ⟨true, some s, strm K C lv⟩, kbE okb B, macE m ml mp]
/-- A reader in memory, with bytes that wait. -/
inductive RShape (w00 : World) (r : Nat) : HT → List UInt8 → List Ent → Prop
  | plain (seq : UInt32) (n : Nat) (l : List UInt8) (g : Option Nat) (gp : List Value) (go : g = none → l = [] ∧ gp = []) (gc : l.length + gp.length ≤ 9223372036854775807) :
      RShape w00 r ⟨seq, n, none⟩ l [⟨true, some r, rdr seq (.pointer none) (.slice none 0 0) n (ownV g l.length (l.length + gp.length)) (.slice none 0 0) false⟩, rowE g l gp]
  | keyed (seq : UInt32) (n : Nat) (K C L ml : List UInt8) (l : List UInt8) (g : Option Nat) (gp : List Value) (s m : Nat) (mp : List Value) (okb : Option Nat) (B : List UInt8) (lv : Value) (go : g = none → l = [] ∧ gp = []) (gc : l.length + gp.length ≤ 9223372036854775807) (hK : K.length = 176) (hC : C.length = 16) (hml : ml.length = 32) (hm : 32 + mp.length ≤ 9223372036854775807) (hL : SRd w00 [kbE okb B] lv (L.map vB)) :
      RShape w00 r ⟨seq, n, some ⟨K, C, L, ml⟩⟩ l [⟨true, some r, rdr seq (.pointer (some ⟨s, 0, none⟩)) (.slice (some ⟨m, 0, none⟩) 32 (32 + mp.length)) n (ownV g l.length (l.length + gp.length)) (.slice none 0 0) false⟩, rowE g l gp, ⟨true, some s, strm K C lv⟩, kbE okb B, macE m ml mp]
theorem WShape.nw {w00 : World} {b : Nat} {h : HT} {X : List Ent} (hX : WShape w00 b h X) : ∀ e ∈ X, e.nw = true := by
  cases hX with
  | plain => exact nw_cons rfl nw_nil
  | keyed => exact nw_cons rfl (nw_cons rfl (nw_cons rfl (nw_cons rfl nw_nil)))
theorem RShape.nw {w00 : World} {r : Nat} {h : HT} {l : List UInt8} {X : List Ent} (hX : RShape w00 r h l X) : ∀ e ∈ X, e.nw = true := by
  cases hX with
  | plain => exact nw_cons rfl (nw_cons rfl nw_nil)
  | keyed => exact nw_cons rfl (nw_cons rfl (nw_cons rfl (nw_cons rfl (nw_cons rfl nw_nil))))
theorem nw_app {X Y : List Ent} (h1 : ∀ e ∈ X, e.nw = true) (h2 : ∀ e ∈ Y, e.nw = true) : ∀ e ∈ X ++ Y, e.nw = true := fun e he => (List.mem_append.1 he).elim (h1 e) (h2 e)
theorem cellIn {w0 w : World} {H : List Ent} {b i : Nat} {nw : Bool} {t : TypeId} {cs : List Value} {v : Value} (h : St w0 w H) (he : (⟨nw, some b, blk t cs⟩ : Ent) ∈ H) (hv : cs[i]? = some v) : w.cell? ⟨b, i, none⟩ = some v := by
  obtain ⟨k, hk⟩ := List.getElem?_of_mem he
  exact h.cell hk hv
theorem WShape.cells {w00 w : World} {b : Nat} {h : HT} {X H : List Ent} (hX : WShape w00 b h X) (hS : St w00 w H) (hsub : ∀ e ∈ X, e ∈ H) : w.cell? ⟨b, 0, none⟩ = some (vW h.seq) ∧ w.cell? ⟨b, 3, none⟩ = some (vI h.n) := by
  cases hX with
  | plain => exact ⟨cellIn hS (hsub _ List.mem_cons_self) rfl, cellIn hS (hsub _ List.mem_cons_self) rfl⟩
  | keyed => exact ⟨cellIn hS (hsub _ List.mem_cons_self) rfl, cellIn hS (hsub _ List.mem_cons_self) rfl⟩
theorem RShape.cells {w00 w : World} {r : Nat} {h : HT} {l : List UInt8} {X H : List Ent} (hX : RShape w00 r h l X) (hS : St w00 w H) (hsub : ∀ e ∈ X, e ∈ H) : w.cell? ⟨r, 0, none⟩ = some (vW h.seq) ∧ w.cell? ⟨r, 3, none⟩ = some (vI h.n) ∧ (∃ A c, w.cell? ⟨r, 4, none⟩ = some (.slice A l.length c)) ∧ w.cell? ⟨r, 5, none⟩ = some (.slice none 0 0) := by
  cases hX with
  | plain seq n _ g gp go gc =>
    obtain ⟨A, hA, _⟩ := ownV_pos (ob := g) (n := l.length) (c := l.length + gp.length) (hi := 0) (fun h => by rw [(go h).1, (go h).2]; exact ⟨rfl, rfl⟩) (Nat.zero_le _)
    exact ⟨cellIn hS (hsub _ List.mem_cons_self) rfl, cellIn hS (hsub _ List.mem_cons_self) rfl, ⟨A, _, cellIn hS (hsub _ List.mem_cons_self) (congrArg some hA)⟩, cellIn hS (hsub _ List.mem_cons_self) rfl⟩
  | keyed seq n K C L ml _ g gp s m mp okb B lv go gc =>
    obtain ⟨A, hA, _⟩ := ownV_pos (ob := g) (n := l.length) (c := l.length + gp.length) (hi := 0) (fun h => by rw [(go h).1, (go h).2]; exact ⟨rfl, rfl⟩) (Nat.zero_le _)
    exact ⟨cellIn hS (hsub _ List.mem_cons_self) rfl, cellIn hS (hsub _ List.mem_cons_self) rfl, ⟨A, _, cellIn hS (hsub _ List.mem_cons_self) (congrArg some hA)⟩, cellIn hS (hsub _ List.mem_cons_self) rfl⟩
theorem left_g {w00 w : World} {r : Nat} {h : HT} {X H : List Ent} (hX : RShape w00 r h [] X) (hS : St w00 w H) (hsub : ∀ e ∈ X, e ∈ H) : Calls Tryd.prog 18 #[.pointer (some ⟨r, 0, none⟩)] w fun e w' => e = .returned (.bool false) ∧ Ext w w' := by
  obtain ⟨_, _, ⟨A, c, h4⟩, h5⟩ := hX.cells hS hsub
  exact left0_ok h4 h5
/-- New keys. -/
def takeH (h : HT) (c : UInt8) : HT := ⟨h.seq, 0, some ⟨keys (kKey c), kIv c, [], kMac c⟩⟩
theorem take_w {w00 w : World} {b kb : Nat} {c : UInt8} {h : HT} {X T : List Ent} (hX : WShape w00 b h X) (hT : ∀ e ∈ T, e.nw = true) (hS : St w00 w (X ++ T)) (hk : ⟨true, some kb, blkB 5 (kbs c 64)⟩ ∈ T) :
    Calls Tryd.prog 19 #[.pointer (some ⟨b, 0, none⟩), .agg (keyV kb)] w fun e w' => e = .returned (.int .i64 0) ∧ ∃ X', WShape w00 b (takeH h c) X' ∧ St w00 w' (X' ++ T) := by
  obtain ⟨k1, k2, k3⟩ := key_srd (w0 := w00) hk
  have fin : ∀ (seq : UInt32) (n : Nat) (key : Option KS) (st mac : Value) (X1 : List Ent), (∀ e ∈ X1, e.nw = true) → St w00 w (⟨true, some b, wrt seq st mac n⟩ :: (X1 ++ T)) →
      Calls Tryd.prog 19 #[.pointer (some ⟨b, 0, none⟩), .agg (keyV kb)] w fun e w' => e = .returned (.int .i64 0) ∧ ∃ X', WShape w00 b (takeH ⟨seq, n, key⟩ c) X' ∧ St w00 w' (X' ++ T) := fun seq n key st mac X1 hX1 hS => by
    have hm : ∀ e ∈ T, e ∈ X1 ++ T := fun e he => List.mem_append_right _ he
    refine (hand_ok (tt := 37) (seq := seq) (st := st) (mac := mac) (n := n) (rest := []) (nw_app hX1 hT) hS (k1.mono hm) (k2.mono hm) (k3.mono hm) (kKey_len c) (kIv_len c) (kMac_len c)).mono fun e w' g => ?_
    obtain ⟨he, s, m, mp, mc, hS⟩ := g
    refine ⟨he, _, WShape.keyed seq 0 (keys (kKey c)) (kIv c) [] (kMac c) s m mp none [] (.slice none 0 0) (keys_len _) (kIv_len c) (kMac_len c) mc nil_left, ?_⟩
    have hS1 : St w00 w' (X1 ++ ([⟨true, some b, wrt seq (.pointer (some ⟨s, 0, none⟩)) (.slice (some ⟨m, 0, none⟩) 32 (32 + mp.length)) 0⟩, ⟨true, some s, strm (keys (kKey c)) (kIv c) (.slice none 0 0)⟩, nokb, macE m (kMac c) mp] ++ T)) := by
      have h1 := (hS.move (k := 3) rfl).move (k := 3) rfl
      have h2 := h1.move (k := 2) rfl
      exact h2.perm (List.perm_append_comm_assoc [_, _, _, _] X1 T)
    exact hS1.fewer hX1
  cases hX with
  | plain seq n => exact fin seq n none _ _ [] nw_nil hS
  | keyed seq n K C L ml s m mp okb B lv => exact fin seq n (some ⟨K, C, L, ml⟩) _ _ [_, _, _] (nw_cons rfl (nw_cons rfl (nw_cons rfl nw_nil))) hS
theorem take_r {w00 w : World} {r kb : Nat} {c : UInt8} {h : HT} {X T : List Ent} (hX : RShape w00 r h [] X) (hT : ∀ e ∈ T, e.nw = true) (hS : St w00 w (X ++ T)) (hk : ⟨true, some kb, blkB 5 (kbs c 64)⟩ ∈ T) :
    Calls Tryd.prog 19 #[.pointer (some ⟨r, 0, none⟩), .agg (keyV kb)] w fun e w' => e = .returned (.int .i64 0) ∧ ∃ X', RShape w00 r (takeH h c) [] X' ∧ St w00 w' (X' ++ T) := by
  obtain ⟨k1, k2, k3⟩ := key_srd (w0 := w00) hk
  have fin : ∀ (seq : UInt32) (n : Nat) (key : Option KS) (st mac : Value) (g : Option Nat) (gp : List Value) (X1 : List Ent), (g = none → ([] : List UInt8) = [] ∧ gp = []) → ([] : List UInt8).length + gp.length ≤ 9223372036854775807 → (∀ e ∈ X1, e.nw = true) → St w00 w (⟨true, some r, rdr seq st mac n (ownV g ([] : List UInt8).length (([] : List UInt8).length + gp.length)) (.slice none 0 0) false⟩ :: rowE g [] gp :: (X1 ++ T)) →
      Calls Tryd.prog 19 #[.pointer (some ⟨r, 0, none⟩), .agg (keyV kb)] w fun e w' => e = .returned (.int .i64 0) ∧ ∃ X', RShape w00 r (takeH ⟨seq, n, key⟩ c) [] X' ∧ St w00 w' (X' ++ T) := fun seq n key st mac g gp X1 go gc hX1 hS => by
    have hm : ∀ e ∈ T, e ∈ rowE g [] gp :: (X1 ++ T) := fun e he => List.mem_cons_of_mem _ (List.mem_append_right _ he)
    refine (hand_ok (tt := 47) (seq := seq) (st := st) (mac := mac) (n := n) (rest := [ownV g ([] : List UInt8).length (([] : List UInt8).length + gp.length), .slice none 0 0, .bool false]) (nw_cons rfl (nw_app hX1 hT)) hS (k1.mono hm) (k2.mono hm) (k3.mono hm) (kKey_len c) (kIv_len c) (kMac_len c)).mono fun e w' q => ?_
    obtain ⟨he, s, m, mp, mc, hS⟩ := q
    refine ⟨he, _, RShape.keyed seq 0 (keys (kKey c)) (kIv c) [] (kMac c) [] g gp s m mp none [] (.slice none 0 0) go gc (keys_len _) (kIv_len c) (kMac_len c) mc nil_left, ?_⟩
    have hS1 : St w00 w' (X1 ++ ([⟨true, some r, rdr seq (.pointer (some ⟨s, 0, none⟩)) (.slice (some ⟨m, 0, none⟩) 32 (32 + mp.length)) 0 (ownV g ([] : List UInt8).length (([] : List UInt8).length + gp.length)) (.slice none 0 0) false⟩, rowE g [] gp, ⟨true, some s, strm (keys (kKey c)) (kIv c) (.slice none 0 0)⟩, nokb, macE m (kMac c) mp] ++ T)) := by
      have h1 := (hS.move (k := 3) rfl).move (k := 3) rfl
      have h2 := (h1.move (k := 4) rfl).move (k := 3) rfl
      exact h2.perm (List.perm_append_comm_assoc [_, _, _, _, _] X1 T)
    exact hS1.fewer hX1
  cases hX with
  | plain seq n _ g gp go gc => exact fin seq n none _ _ g gp [] go gc nw_nil hS
  | keyed seq n K C L ml _ g gp s m mp okb B lv go gc => exact fin seq n (some ⟨K, C, L, ml⟩) _ _ g gp [_, _, _] go gc (nw_cons rfl (nw_cons rfl (nw_cons rfl nw_nil))) hS
def stepG (h : HT) (pl dl : List UInt8) : HT := ⟨h.seq + 1, h.n + 1, h.key.map fun k => ⟨k.K, (kst k.K (k.C, k.L) (pktF h.seq pl dl 16).length).1, (kst k.K (k.C, k.L) (pktF h.seq pl dl 16).length).2, k.ml⟩⟩
def pktG (h : HT) (pl dl : List UInt8) : List UInt8 := match h.key with
  | none => pktF h.seq pl dl 8
  | some k => pktK h.seq pl dl k.K k.C k.L k.ml
theorem write_g {w00 w : World} {b : Nat} {h : HT} {X T : List Ent} {pv : Value} {pl dl : List UInt8} (hG : Glob w00) (hX : WShape w00 b h X) (hT : ∀ e ∈ T, e.nw = true) (hS : St w00 w (X ++ T)) (hPl : SRd w00 T pv (pl.map vB)) (h1 : 1 ≤ pl.length) (h2 : pl.length ≤ 2048) (hd : dl.length ≤ 274877906944) (hn : h.n ≤ 4611686018427387904) :
    Calls Tryd.prog 15 #[.pointer (some ⟨b, 0, none⟩), pv, sV dl] w fun e w' => ∃ v X', e = .returned (.tuple #[v, .int .i64 0]) ∧ WShape w00 b (stepG h pl dl) X' ∧ ownP w00 5 (X' ++ T) (pktG h pl dl) v w' := by
  cases hX with
  | plain seq n =>
    refine (write0_ok hG hT hS hPl h1 h2 hd hn).mono fun e w' g => ?_
    obtain ⟨v, he, dd, o, op, hv, ho, hc, hS⟩ := g
    exact ⟨v, _, he, WShape.plain (seq + 1) (n + 1), o, op, hv, ho, hc, (hS.move (k := 1) rfl).drop rfl⟩
  | keyed seq n K C L ml s m mp okb B lv hK hC hml hm hL =>
    refine (write1_ok (T0 := macE m ml mp :: T) hG (nw_cons rfl hT) hS hL hK hC (hPl.mono fun e he => List.mem_cons_of_mem _ he) (own_rd (ob := some m) List.mem_cons_self (fun h => by cases h) hml hm) hml h1 h2 hd hn).mono fun e w' g => ?_
    obtain ⟨v, lv1, okb1, B1, he, hO, hL1⟩ := g
    exact ⟨v, _, he, WShape.keyed (seq + 1) (n + 1) K (kst K (C, L) (pktF seq pl dl 16).length).1 (kst K (C, L) (pktF seq pl dl 16).length).2 ml s m mp okb1 B1 lv1 hK (kst_len (s := (C, L)) hC _) hml hm hL1, hO⟩



end Go.Proofs.YtfhalnobaeogkaaDoor
