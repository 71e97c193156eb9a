/- What is proved: append to a row of the call's own whose elements have more cells than one; a row of one such element, built. -/
import Derived.Test.YtfhalnobaeogkaaDoorFwSeq
import Derived.Test.YtfhalnobaeogkaaDoorFwZer
set_option linter.unusedVariables false
set_option linter.unusedSimpArgs false
namespace Go.Fw
open Go Go.RowKit
section
variable {P : Program} {N : Nat} {a : Act} {w w0 : World} {mm : List (Nat × Value)} {H : List Ent} {o : Oper} {ops : Array Oper} {K : Act → World → Prop} {Q : Exit → Act → World → Prop} {x y : Operand}
theorem run_append_StK {t ty e : TypeId} {z : Value} {sz by_ : Nat} (ht : P.underlying t = some (.slice e)) (hy : Ty P e z sz by_) (hzc : z.cells.size = sz) (hsz : 0 < sz) {ob : Option Nat} {n m cap c b off : Nat} {xs pad ys : List Value} (hS : St w0 w H) {k : Nat} (hk : H[k]? = some ⟨true, ob, blk e (xs ++ pad)⟩)
    (hob : ob = none → n = 0 ∧ xs = [] ∧ pad = []) (hx : xs.length = n * sz) (hp : pad.length = (cap - n) * sz) (hnc : n ≤ cap) (hcap : cap ≤ 9223372036854775807) (hyl : ys.length = m * sz) (hm0 : 0 < m) (hcell : ∀ j u, ys[j]? = some u → w.cell? ((⟨b, off, none⟩ : Addr).add j) = some u) (h1 : ∀ u ∈ ys, u.oneCell' = true)
    (hb : (n + m) * by_ ≤ 140737488355328) (hn : n + m ≤ 140737488355328) :
    ∃ b' cap' pad' w', (Builtin.append_ #[t, t] ty #[ownV ob n cap, .slice (some ⟨b, off, none⟩) m c]).run P w = .ok (.slice (some ⟨b', 0, none⟩) (n + m) cap') w' ∧
      n + m ≤ cap' ∧ cap' ≤ 9223372036854775807 ∧ pad'.length = (cap' - (n + m)) * sz ∧ St w0 w' (H.set k ⟨true, some b', blk e ((xs ++ ys) ++ pad')⟩) := by
  obtain ⟨i, hi, h2, h3, h4⟩ := hy.get
  have hown : w.ownsRow 0 e sz (ownV ob n cap) n xs := by
    refine ⟨hx, ?_⟩
    cases ob with
    | none => obtain ⟨rfl, rfl, rfl⟩ := hob rfl; exact .inl ⟨rfl, rfl⟩
    | some b =>
      refine .inr ⟨b, cap, (xs ++ pad).toArray, rfl, Nat.zero_le _, hS.has _ (List.mem_of_getElem? hk) b rfl, hnc, by simpa [maxLen] using hcap, ?_, ?_⟩
      · simp only [List.size_toArray, List.length_append, hx, hp, ← Nat.add_mul]
        congr 1
        omega
      · simp [← hx]
  obtain ⟨v', w', hrun, hown', hg, _, hblk⟩ := run_append_own_at (P := P) w 0 t ty e i z sz by_ ht hi h2 h3 h4 hzc hsz _ _ _ hown ⟨b, off, none⟩ m c ys hyl hcell h1
    (by simp only [maxLen]; omega) hb (Nat.zero_le _)
  rcases hown'.2 with ⟨_, h0⟩ | ⟨g, cap', cur, rfl, _, hh, hle, hm, hcs, htk⟩
  · omega
  · have hpos : 0 < (xs ++ ys).length := by
      rw [hown'.1]; exact Nat.mul_pos (by omega) hsz
    have hsplit : cur = ((xs ++ ys) ++ cur.toList.drop ((n + m) * sz)).toArray := by
      apply Array.ext'
      rw [← htk]
      simp
    have hpad : (cur.toList.drop ((n + m) * sz)).length = (cap' - (n + m)) * sz := by
      rw [List.length_drop, Array.length_toList, hcs, Nat.sub_mul]
    refine ⟨g, cap', cur.toList.drop ((n + m) * sz), w', hrun, hle, by simpa [maxLen] using hm, hpad, ?_⟩
    have hh' : w'.heap[g]? = some (blk e ((xs ++ ys) ++ cur.toList.drop ((n + m) * sz))) := by
      unfold blk; rw [← hsplit]; exact hh
    rcases hblk with hsame | hnew
    · cases ob with
      | none => simp [ownV, Value.ownBlock] at hsame
      | some b0 =>
        have hgb : g = b0 := by simpa [ownV, Value.ownBlock] using hsame
        subst hgb
        exact hS.turn hk hg.os hg.tape hg.output hg.size hh' fun c hc hne => hg.block c hc (by simp [ownV, Value.ownBlock, hne])
    · have hgn : g = w.heap.size := by simpa [Value.ownBlock] using hnew
      -- the old row stays what it was, whatever the law says of it: it may have been written only in place
      by_cases hob0 : ob = none
      · subst hob0
        refine hS.swap hk rfl ⟨hg.os, hg.tape, hg.output, hg.size, fun c hc => hg.block c hc (by simp [ownV, Value.ownBlock])⟩ (some g) _ fun b hb => ?_
        injection hb with hb
        subst hb
        exact ⟨by omega, hh'⟩
      · obtain ⟨b0, rfl⟩ := Option.ne_none_iff_exists'.1 hob0
        -- forget the old row's content first
        have hdrop : St w0 w' (H.set k ⟨true, some g, blk e ((xs ++ ys) ++ cur.toList.drop ((n + m) * sz))⟩) := by
          have hkl : k < H.length := (List.getElem?_eq_some_iff.1 hk).1
          have hlt : b0 < w.heap.size := hS.lt (List.mem_of_getElem? hk) rfl
          -- in between: the world with nothing known of block b0
          have hS1 : St w0 w (H.set k ⟨true, none, blk e []⟩) := hS.swap hk rfl (Ext.refl w) none _ fun b hb => by cases hb
          have hk1 : (H.set k ⟨true, none, blk e []⟩)[k]? = some ⟨true, none, blk e []⟩ := by rw [List.getElem?_set, if_pos rfl, if_pos hkl]
          have hne : ∀ d ∈ H.set k ⟨true, none, blk e []⟩, d.ob ≠ some b0 := by
            intro d hd hdb
            obtain ⟨j, hj⟩ := List.getElem?_of_mem hd
            rw [List.getElem?_set] at hj
            by_cases hjk : k = j
            · subst hjk
              rw [if_pos rfl, if_pos hkl] at hj
              injection hj with hj
              subst hj
              cases hdb
            · rw [if_neg hjk] at hj
              exact hjk (hS.once k j _ d b0 hk hj rfl hdb)
          have hnew0 : w0.heap.size ≤ b0 := hS.new _ (List.mem_of_getElem? hk) rfl b0 rfl
          have hS2 : St w0 w' (H.set k ⟨true, none, blk e []⟩) :=
            ⟨hg.os.trans hS1.os, hg.tape.trans hS1.tape, hg.output.trans hS1.output, Nat.le_trans hS1.size hg.size,
              fun c hc hn => (hg.block c (Nat.lt_of_lt_of_le hc hS1.size) (by simp [ownV, Value.ownBlock]; omega)).trans (hS1.old c hc hn),
              fun d hd c hdc => (hg.block c (hS1.lt hd hdc) (by simp only [ownV, Value.ownBlock, ne_eq, Option.some.injEq]; rintro rfl; exact hne d hd hdc)).trans (hS1.has d hd c hdc), hS1.new, hS1.once⟩
          have hlts : ∀ d ∈ H.set k ⟨true, none, blk e []⟩, ∀ c, d.ob = some c → c < w.heap.size := hS1.lts
          have := St.attach (w := w) hS2 hlts hS.size (some g) (blk e ((xs ++ ys) ++ cur.toList.drop ((n + m) * sz))) fun b hb => by
            injection hb with hb
            subst hb
            exact ⟨by omega, hh'⟩
          -- from the head of the list to its place
          refine ⟨this.os, this.tape, this.output, this.size, fun c hc hn => this.old c hc fun d hd hf => ?_, fun d hd => this.has d ?_, fun d hd => this.new d ?_, fun i j ei ej c hi hj h1 h2 => ?_⟩
          · rcases List.mem_cons.1 hd with rfl | hd
            · cases hf
            · obtain ⟨j, hj⟩ := List.getElem?_of_mem hd
              rw [List.getElem?_set] at hj
              by_cases hjk : k = j
              · subst hjk
                rw [if_pos rfl, if_pos hkl] at hj
                injection hj with hj
                subst hj
                cases hf
              · rw [if_neg hjk] at hj
                exact hn d (List.mem_of_getElem? (i := j) (by rw [List.getElem?_set, if_neg hjk]; exact hj)) hf
          · obtain ⟨j, hj⟩ := List.getElem?_of_mem hd
            rw [List.getElem?_set] at hj
            by_cases hjk : k = j
            · subst hjk
              rw [if_pos rfl, if_pos hkl] at hj
              injection hj with hj
              subst hj
              exact List.mem_cons_self
            · rw [if_neg hjk] at hj
              exact List.mem_cons_of_mem _ (List.mem_of_getElem? (i := j) (by rw [List.getElem?_set, if_neg hjk]; exact hj))
          · obtain ⟨j, hj⟩ := List.getElem?_of_mem hd
            rw [List.getElem?_set] at hj
            by_cases hjk : k = j
            · subst hjk
              rw [if_pos rfl, if_pos hkl] at hj
              injection hj with hj
              subst hj
              exact List.mem_cons_self
            · rw [if_neg hjk] at hj
              exact List.mem_cons_of_mem _ (List.mem_of_getElem? (i := j) (by rw [List.getElem?_set, if_neg hjk]; exact hj))
          · have place : ∀ i d, (H.set k ⟨true, some g, blk e ((xs ++ ys) ++ cur.toList.drop ((n + m) * sz))⟩)[i]? = some d →
                ((⟨true, some g, blk e ((xs ++ ys) ++ cur.toList.drop ((n + m) * sz))⟩ : Ent) :: H.set k ⟨true, none, blk e []⟩)[if i = k then 0 else i + 1]? = some d := fun i d hi => by
              rw [List.getElem?_set] at hi
              by_cases hik : k = i
              · subst hik
                rw [if_pos rfl, if_pos hkl] at hi
                simpa using hi
              · rw [if_neg hik] at hi
                rw [if_neg (fun e => hik e.symm)]
                simp only [List.getElem?_cons_succ]
                rw [List.getElem?_set, if_neg hik]
                exact hi
            have := this.once _ _ ei ej c (place i ei hi) (place j ej hj) h1 h2
            split at this <;> split at this <;> omega
        exact hdrop

theorem stp_appendK {t e : TypeId} {z : Value} {sz by_ : Nat} {ob : Option Nat} {n m cap c b off : Nat} {xs pad ys : List Value} {d k : Nat} (hF : Fr N a mm) (hw : Region.wanted o (yielded ops a.tmps) = true) (hd : o.dst = some d) (hN : Nat.blt d N = true)
    (ho : o.op = .call { callee := .builtin .append, args := #[x, y], argTypes := #[t, t] }) (ht : P.underlying t = some (.slice e)) (hty : Ty P e z sz by_) (hzc : z.cells.size = sz) (hsz : 0 < sz)
    (hx : a.eval x = ownV ob n cap) (hy : a.eval y = .slice (some ⟨b, off, none⟩) m c) (hS : St w0 w H) (hk : H[k]? = some ⟨true, ob, blk e (xs ++ pad)⟩) (hob : ob = none → n = 0 ∧ xs = [] ∧ pad = []) (hxl : xs.length = n * sz) (hp : pad.length = (cap - n) * sz) (hnc : n ≤ cap) (hcap : cap ≤ 9223372036854775807)
    (hyl : ys.length = m * sz) (hm0 : 0 < m) (hcell : ∀ j u, ys[j]? = some u → w.cell? ((⟨b, off, none⟩ : Addr).add j) = some u) (h1 : ∀ u ∈ ys, u.oneCell' = true) (hb : (n + m) * by_ ≤ 140737488355328) (hn : n + m ≤ 140737488355328)
    (h : ∀ b' cap' pad' a' w', Fr N a' ((d, .slice (some ⟨b', 0, none⟩) (n + m) cap') :: mm) → n + m ≤ cap' → cap' ≤ 9223372036854775807 → pad'.length = (cap' - (n + m)) * sz →
      St w0 w' (H.set k ⟨true, some b', blk e ((xs ++ ys) ++ pad')⟩) → K a' w') : Stp P ops Q o a w K := by
  obtain ⟨b', cap', pad', w', hrun, h2, h3, h4, h5⟩ := run_append_StK (ty := o.type) ht hty hzc hsz hS hk hob hxl hp hnc hcap hyl hm0 hcell h1 hb hn
  exact stp_val hF hw hd hN (run_appendOp ho hx hy hrun) fun a' hF' => h b' cap' pad' a' w' hF' h2 h3 h4 h5
theorem stp_buildK {t e : TypeId} {z : Value} {sz by_ : Nat} {v : Value} {zo : Operand} {k : Nat} {cells : List Value} (hF : Fr N a mm) (hw : Region.wanted o (yielded ops a.tmps) = true) (hd : o.dst = some k) (hN : Nat.blt k N = true) (ho : o.op = .buildSlice t 1 #[(0, zo)]) (ht : P.underlying t = some (.slice e)) (hty : Ty P e z sz by_) (hsz : 0 < sz) (hsz2 : sz ≤ 1024) (hz : a.eval zo = v)
    (hf : Instr.fill (fun i => some (i * sz, sz)) ((Array.range (1 * sz)).map fun j => z.cells[j % z.cells.size]!) [(0, v)] = some cells.toArray) (hS : St w0 w H)
    (h : ∀ b a' w', Fr N a' ((k, .slice (some ⟨b, 0, none⟩) 1 1) :: mm) → St w0 w' (⟨true, some b, blk e cells⟩ :: H) → K a' w') : Stp P ops Q o a w K := by
  obtain ⟨i, h1, h2, h3, h4⟩ := hty.get
  refine stp_val hF hw hd hN (w' := w.alloc (.cells cells.toArray e)) ?_ fun a' hF' => h _ a' _ hF' (hS.alloc _)
  have := run_buildSlice (P := P) w t e 1 #[(0, v)] cells.toArray i z ht h1 h2 (by rw [h3]; omega) (by rw [h3]; omega) (by rw [h3]; exact hf)
  simp [execOp, ho, hz, this]
end
end Go.Fw
