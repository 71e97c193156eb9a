/- What is proved: lists of known blocks joined, moved about; slices that are read through such a list; slicing. Over any program. -/
import Derived.Test.YtbggihomiadjjaaGreatDoorFwCtl
set_option linter.unusedVariables false
set_option linter.unusedSimpArgs false
namespace Go.Fw
open Go Go.RowKit

section
variable {P : Program} {N : Nat} {a : Act} {m : List (Nat × Value)} {o : Oper} {w w0 w' : World} {H : List Ent}

/-- The list's order is of no account. -/
theorem St.reorder {H' : List Ent} (h : St w0 w H) (hm : ∀ e, e ∈ H' ↔ e ∈ H) (ho : ∀ (i j : Nat) (ei ej : Ent) (b : Nat), H'[i]? = some ei → H'[j]? = some ej → ei.ob = some b → ej.ob = some b → i = j) : St w0 w H' :=
  ⟨h.os, h.tape, h.output, h.size, fun b hb hn => h.old b hb fun e he => hn e ((hm e).2 he), fun e he => h.has e ((hm e).1 he), fun e he => h.new e ((hm e).1 he), ho⟩
theorem St.move (h : St w0 w H) {k : Nat} {e : Ent} (hk : H[k]? = some e) : St w0 w (e :: H.eraseIdx k) := by
  have hkl : k < H.length := (List.getElem?_eq_some_iff.1 hk).1
  have back : ∀ (i : Nat) (d : Ent), (e :: H.eraseIdx k)[i]? = some d → ∃ j, H[j]? = some d ∧ j = (if i = 0 then k else if i ≤ k then i - 1 else i) := by
    intro i d hd
    cases i with
    | zero => simp only [List.getElem?_cons_zero, Option.some.injEq] at hd; subst hd; exact ⟨k, hk, by simp⟩
    | succ i =>
      simp only [List.getElem?_cons_succ, List.getElem?_eraseIdx] at hd
      by_cases hik : i < k
      · rw [if_pos hik] at hd
        exact ⟨i, hd, by rw [if_neg (by omega), if_pos (by omega)]; omega⟩
      · rw [if_neg hik] at hd
        exact ⟨i + 1, hd, by rw [if_neg (by omega), if_neg (by omega)]⟩
  refine h.reorder (fun d => ⟨fun hd => ?_, fun hd => ?_⟩) fun i j ei ej b hi hj h1 h2 => ?_
  · obtain ⟨i, hi⟩ := List.getElem?_of_mem hd
    obtain ⟨j, hj, _⟩ := back i d hi
    exact List.mem_of_getElem? hj
  · obtain ⟨j, hj⟩ := List.getElem?_of_mem hd
    by_cases hjk : j = k
    · subst hjk
      rw [hk] at hj
      injection hj with hj
      subst hj
      exact List.mem_cons_self
    · refine List.mem_cons_of_mem _ (List.mem_of_getElem? (i := if j < k then j else j - 1) ?_)
      rw [List.getElem?_eraseIdx]
      by_cases hjk' : j < k
      · rw [if_pos hjk', if_pos hjk']; exact hj
      · rw [if_neg hjk', if_neg (by omega), show j - 1 + 1 = j by omega]; exact hj
  · obtain ⟨x, hx, ex⟩ := back i ei hi
    obtain ⟨y, hy, ey⟩ := back j ej hj
    have := h.once x y ei ej b hx hy h1 h2
    split at ex <;> split at ey <;> (try split at ex) <;> (try split at ey) <;> omega
/-- What a call has laid, ahead of what was known. -/
theorem St.join {M : List Ent} (h : St w0 w H) (hc : St w w' M) (hn : ∀ e ∈ M, e.nw = true) : St w0 w' (M ++ H) := by
  have h' := h.ext (hc.toExt hn)
  refine ⟨h'.os, h'.tape, h'.output, h'.size, fun b hb hne => h'.old b hb fun e he => hne e (List.mem_append_right _ he), fun e he b hb => ?_, fun e he hw b hb => ?_, fun i j ei ej b hi hj h1 h2 => ?_⟩
  · rcases List.mem_append.1 he with he | he
    · exact hc.has e he b hb
    · exact h'.has e he b hb
  · rcases List.mem_append.1 he with he | he
    · have := hc.new e he hw b hb; have := h.size; omega
    · exact h'.new e he hw b hb
  · have part : ∀ (i : Nat) (e : Ent), (M ++ H)[i]? = some e → (i < M.length ∧ M[i]? = some e) ∨ (M.length ≤ i ∧ H[i - M.length]? = some e) := fun i e hi => by
      by_cases hl : i < M.length
      · rw [List.getElem?_append_left hl] at hi; exact .inl ⟨hl, hi⟩
      · rw [List.getElem?_append_right (by omega)] at hi; exact .inr ⟨by omega, hi⟩
    rcases part i ei hi with ⟨a1, a2⟩ | ⟨a1, a2⟩ <;> rcases part j ej hj with ⟨b1, b2⟩ | ⟨b1, b2⟩
    · exact hc.once i j ei ej b a2 b2 h1 h2
    · have := hc.new ei (List.mem_of_getElem? a2) (hn _ (List.mem_of_getElem? a2)) b h1
      have := h.lt (List.mem_of_getElem? b2) h2
      omega
    · have := hc.new ej (List.mem_of_getElem? b2) (hn _ (List.mem_of_getElem? b2)) b h2
      have := h.lt (List.mem_of_getElem? a2) h1
      omega
    · have := h.once _ _ ei ej b a2 b2 h1 h2; omega

/-- What is read through a list: wherever the list's blocks are known the value reads so. -/
def SRd (w0 : World) (T : List Ent) (v : Value) (xs : List Value) : Prop := ∀ w H, St w0 w H → (∀ e ∈ H, e.nw = true) → (∀ e ∈ T, e ∈ H) → Rd w v xs
theorem SRd.old {T : List Ent} {v : Value} {xs : List Value} (h : Rd w0 v xs) : SRd w0 T v xs := fun w H hS hn _ => h.ext (hS.toExt hn)
theorem SRd.mono {T T' : List Ent} {v : Value} {xs : List Value} (h : SRd w0 T v xs) (ht : ∀ e ∈ T, e ∈ T') : SRd w0 T' v xs := fun w H hS hn hs => h w H hS hn fun e he => hs e (ht e he)
theorem SRd.ent {T : List Ent} {nw : Bool} {b : Nat} {t : TypeId} {cs : List Value} (he : ⟨nw, some b, blk t cs⟩ ∈ T) (o n c : Nat) (hn : o + n ≤ cs.length) (hc : n ≤ c) (hc' : c ≤ 9223372036854775807) : SRd w0 T (.slice (some ⟨b, o, none⟩) n c) ((cs.drop o).take n) := fun w H hS _ hs => by
  obtain ⟨k, hk⟩ := List.getElem?_of_mem (hs _ he)
  exact hS.rdOf hk o n c hn hc hc'
theorem SRd.nil {T : List Ent} : SRd w0 T (.slice none 0 0) [] := fun w _ _ _ _ => Rd.nil w
theorem SRd.arr {T : List Ent} {nw : Bool} {b : Nat} {t : TypeId} {l : List UInt8} {n : Nat} (he : ⟨nw, some b, blkB t l⟩ ∈ T) (hl : l.length = n) (hn : n ≤ 9223372036854775807) : SRd w0 T (.slice (some ⟨b, 0, none⟩) n n) (l.map vB) := by
  have := SRd.ent (w0 := w0) (cs := l.map vB) he 0 n n (by simp [hl]) (Nat.le_refl _) hn
  rwa [List.drop_zero, List.take_of_length_le (by simp [hl])] at this
/-- A row of the call's own is read whole. -/
theorem SRd.own {T : List Ent} {nw : Bool} {ob : Option Nat} {t : TypeId} {xs pad : List Value} (he : ⟨nw, ob, blk t (xs ++ pad)⟩ ∈ T) (hob : ob = none → xs = [] ∧ pad = []) (hc : xs.length + pad.length ≤ 9223372036854775807) : SRd w0 T (ownV ob xs.length (xs.length + pad.length)) xs := by
  cases ob with
  | none => obtain ⟨rfl, rfl⟩ := hob rfl; exact SRd.nil
  | some b =>
    have := SRd.ent (w0 := w0) he 0 xs.length (xs.length + pad.length) (by simp) (by omega) hc
    simpa [ownV] using this

theorem own_some {α β : Type} {ob : Option Nat} {xs : List α} {pad : List β} (hob : ob = none → xs = [] ∧ pad = []) (h : 0 < xs.length) : ∃ b, ob = some b := by
  cases ob with
  | none => rw [(hob rfl).1] at h; cases h
  | some b => exact ⟨b, rfl⟩
theorem nw_nil : ∀ e ∈ ([] : List Ent), e.nw = true := fun _ h => by cases h
theorem nw_cons {e : Ent} {T : List Ent} (h : e.nw = true) (ht : ∀ d ∈ T, d.nw = true) : ∀ d ∈ e :: T, d.nw = true := fun d hd => by
  rcases List.mem_cons.1 hd with rfl | hd
  · exact h
  · exact ht d hd

/-! ### Slicing -/
theorem gv_lenOwn {t e : TypeId} {ob : Option Nat} {n c : Nat} {x : Operand} (ho : o.op = .call { callee := .builtin .len, args := #[x], argTypes := #[t] }) (ht : P.underlying t = some (.slice e)) (hx : a.eval x = ownV ob n c) (hob : ob = none → n = 0) : Gv P o a w (vI n) := by
  cases ob with
  | none => rw [hob rfl]; exact gv_len ho ht hx
  | some b => exact gv_len ho ht hx
/-- x[lo:] of a slice. -/
def cutV (A : Option Addr) (n c lo : Nat) : Value := .slice (if c = lo then A else A.map (·.add lo)) (n - lo) (c - lo)
theorem gv_sliceLo {t e : TypeId} {x y : Operand} {A : Option Addr} {n c lo : Nat} (ho : o.op = .slice t x (some y) none none) (ht : P.underlying t = some (.slice e)) (hz : (P.info? e).map (·.size) = some 1) (hx : a.eval x = .slice A n c) (hy : a.eval y = vI lo) (h : lo ≤ n) : Gv P o a w (cutV A n c lo) := by
  unfold Gv execOp; rw [ho]
  have h1 : (0 : Int) ≤ (lo : Int) ∧ (lo : Int) ≤ (n : Int) := ⟨by omega, by omega⟩
  simp [hx, hy, vI, Instr.sliceAt, Instr.slice, run_und ht, Instr.sliceBounds, Instr.sliceBound, asIntOf, h1, h, Fw.run_sizeOf hz, cutV]
/-- x[:hi] of a slice, within its length. -/
theorem gv_sliceHi {t e : TypeId} {x y : Operand} {A : Option Addr} {n c hi : Nat} (ho : o.op = .slice t x none (some y) none) (ht : P.underlying t = some (.slice e)) (hz : (P.info? e).map (·.size) = some 1) (hx : a.eval x = .slice A n c) (hy : a.eval y = vI hi) (h : hi ≤ c) : Gv P o a w (.slice A hi c) := by
  unfold Gv execOp; rw [ho]
  have h1 : (0 : Int) ≤ (hi : Int) ∧ (hi : Int) ≤ (c : Int) := ⟨by omega, by omega⟩
  by_cases hc : c = 0
  · have : hi = 0 := by omega
    subst this; subst hc
    simp [hx, hy, vI, Instr.sliceAt, Instr.slice, run_und ht, Instr.sliceBounds, Instr.sliceBound, asIntOf, Fw.run_sizeOf hz]
  · cases A <;> simp [hx, hy, vI, Instr.sliceAt, Instr.slice, run_und ht, Instr.sliceBounds, Instr.sliceBound, asIntOf, h1, h, Fw.run_sizeOf hz, hc, Addr.add]
/-- x[:] of an array behind its address. -/
theorem gv_sliceArr {t e : TypeId} {x : Operand} {n b off : Nat} (ho : o.op = .slice t x none none none) (ht : P.underlying t = some (.array n e)) (hz : (P.info? e).map (·.size) = some 1) (hx : a.eval x = .pointer (some ⟨b, off, none⟩)) : Gv P o a w (.slice (some ⟨b, off, none⟩) n n) := by
  unfold Gv execOp; rw [ho]
  by_cases hn : n = 0 <;> simp [hx, Instr.sliceAt, run_und ht, Instr.sureAddr, Instr.sliceBounds, Fw.run_sizeOf hz, hn, Addr.add]
theorem Rd.cutLo {A : Option Addr} {n c lo : Nat} {xs : List Value} (h : Rd w (.slice A n c) xs) (hl : lo ≤ n) : Rd w (cutV A n c lo) (xs.drop lo) := by
  obtain ⟨A', c', hv, h1, h2, h3⟩ := h.is
  injection hv with hA hn hc
  subst hA; subst hc; subst hn
  have hlen : (xs.drop lo).length = xs.length - lo := by simp
  refine ⟨_, c - lo, by rw [hlen]; rfl, by omega, by omega, fun hp => ?_⟩
  obtain ⟨b, o, hA, hcell⟩ := h3 (by omega)
  subst hA
  refine ⟨b, o + lo, by rw [if_neg (by omega)]; simp [add_lit], fun i u hu => ?_⟩
  rw [Nat.add_assoc]
  exact hcell (lo + i) u (by rw [← hu, List.getElem?_drop])
theorem Rd.cutHi {A : Option Addr} {n c hi : Nat} {xs : List Value} (h : Rd w (.slice A n c) xs) (hl : hi ≤ n) : Rd w (.slice A hi c) (xs.take hi) := by
  obtain ⟨A', c', hv, h1, h2, h3⟩ := h.is
  injection hv with hA hn hc
  subst hA; subst hc; subst hn
  have hlen : (xs.take hi).length = hi := by simp; omega
  refine ⟨A, c, by rw [hlen], by omega, h2, fun hp => ?_⟩
  obtain ⟨b, o, hA, hcell⟩ := h3 (by omega)
  refine ⟨b, o, hA, fun i u hu => hcell i u ?_⟩
  rw [List.getElem?_take] at hu
  split at hu
  · exact hu
  · cases hu
theorem SRd.cutLo {T : List Ent} {A : Option Addr} {n c lo : Nat} {xs : List Value} (h : SRd w0 T (.slice A n c) xs) (hl : lo ≤ n) : SRd w0 T (cutV A n c lo) (xs.drop lo) := fun w H hS hn hs => (h w H hS hn hs).cutLo hl
theorem SRd.cutHi {T : List Ent} {A : Option Addr} {n c hi : Nat} {xs : List Value} (h : SRd w0 T (.slice A n c) xs) (hl : hi ≤ n) : SRd w0 T (.slice A hi c) (xs.take hi) := fun w H hS hn hs => (h w H hS hn hs).cutHi hl
end
end Go.Fw
