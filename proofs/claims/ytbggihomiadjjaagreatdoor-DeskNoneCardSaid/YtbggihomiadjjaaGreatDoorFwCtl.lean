/- What is proved: the steps over code: a cut, a test, a loop, a return; blocks of bytes, words and ints. Over any program. -/
import Derived.Test.YtbggihomiadjjaaGreatDoorFwStep
set_option linter.unusedVariables false
set_option linter.unusedSimpArgs false
namespace Go.Fw
open Go Go.RowKit

section
variable {P : Program} {ops : Array Oper} {Q : Exit → Act → World → Prop} {N : Nat} {a : Act} {m : List (Nat × Value)} {o : Oper} {w w0 : World} {K : Act → World → Prop} {rest : List Oper} {H : List Ent}

theorem wp_cut {x y : Code} (Φ : Act → World → Prop) (h1 : x.wp P (Exit.then Φ Q) a w) (h2 : ∀ a w, Φ a w → y.wp P Q a w) : (Code.seq x y).wp P Q a w := by
  refine wp_seq (Code.wp_mono (fun e a w h => ?_) h1)
  cases e <;> first | exact h2 _ _ h | exact h
theorem cond_dec {p : Prop} [Decidable p] {c : Operand} {x y : Code} (hc : a.eval c = .bool (decide p)) (h1 : p → x.wp P Q a w) (h2 : ¬ p → y.wp P Q a w) : (Code.cond c x y).wp P Q a w := by
  by_cases h : p
  · exact wp_cond_true (by rw [hc, decide_eq_true h]) (h1 h)
  · exact wp_cond_false (by rw [hc, decide_eq_false h]) (h2 h)
theorem cond_bool {b : Bool} {c : Operand} {x y : Code} (hc : a.eval c = .bool b) (h1 : b = true → x.wp P Q a w) (h2 : b = false → y.wp P Q a w) : (Code.cond c x y).wp P Q a w :=
  wp_cond_split hc h1 h2
theorem wp_region_draw {id : Nat} {l : List Oper} (hm : P.follows .mixedOrders = true) (h : ∀ w', Ext w w' → Run P l.toArray Q 0 a w') : (Code.region id l.toArray true).wp P Q a w :=
  wp_region_run hm (h _ (Ext.drew w))
/-- A loop; a number of one's own says how many rounds are to come at most. -/
theorem wp_loop_n {c : Code} (I : Nat → Act → World → Prop) (n0 : Nat) (h0 : I n0 a w) (round : ∀ n a w, I n a w → c.wp P (Exit.then (fun a' w' => ∃ n', n' < n ∧ I n' a' w') Q) a w) : (Code.loop c).wp P Q a w := by
  have least : ∀ a w, (∃ n, I n a w) → ∃ n, I n a w ∧ ∀ k, k < n → ¬ I k a w := by
    intro a w ⟨n, hn⟩
    induction n using Nat.strongRecOn with
    | _ n ih =>
      by_cases h : ∃ k, k < n ∧ I k a w
      · obtain ⟨k, hk, hI⟩ := h
        exact ih k hk hI
      · exact ⟨n, hn, fun k hk hI => h ⟨k, hk, hI⟩⟩
  let μ : Act → World → Nat := fun a w => Classical.epsilon fun n => I n a w ∧ ∀ k, k < n → ¬ I k a w
  have hμ : ∀ a w, (∃ n, I n a w) → I (μ a w) a w ∧ ∀ k, k < μ a w → ¬ I k a w := fun a w h => Classical.epsilon_spec (least a w h)
  refine wp_loop (fun a w => ∃ n, I n a w) μ ⟨n0, h0⟩ fun a w hI => ?_
  refine Code.wp_mono (fun e a' w' h => ?_) (round _ a w (hμ a w hI).1)
  cases e with
  | normal =>
    obtain ⟨n', hlt, hn'⟩ := h
    refine ⟨⟨n', hn'⟩, Nat.lt_of_le_of_lt (Nat.le_of_not_lt fun hc => (hμ a' w' ⟨n', hn'⟩).2 n' hc hn') hlt⟩
  | _ => exact h

/-! ### Ways out -/
theorem then_normal {K : Act → World → Prop} (h : K a w) : Exit.then K Q .normal a w := h
theorem then_ret {K : Act → World → Prop} (h : Q .ret a w) : Exit.then K Q .ret a w := h
theorem then_exit {K : Act → World → Prop} {i : Nat} (h : Q (.exit i) a w) : Exit.then K Q (.exit i) a w := h
theorem block_normal {i : Nat} (h : Q .normal a w) : Exit.inBlock i Q .normal a w := h
theorem block_ret {i : Nat} (h : Q .ret a w) : Exit.inBlock i Q .ret a w := h
theorem block_exit {i : Nat} (h : Q .normal a w) : Exit.inBlock i Q (.exit i) a w := by simp only [Exit.inBlock, if_true]; exact h
theorem block_exit_ne {i j : Nat} (h0 : j ≠ i) (h : Q (.exit j) a w) : Exit.inBlock i Q (.exit j) a w := by simp only [Exit.inBlock, if_neg h0]; exact h

/-! ### Returns -/
theorem ret1 {fn : Func} {R : Ending → World → Prop} {t : Nat} {v : Value} (hF : Fr N a m) (hr : fn.results = #[.tmp t]) (hl : look t m = some v) (h : R (.returned v) w) : bodyPost P fn R .ret a w :=
  bodyPost_ret (v := v) (by rw [results_tmp hr]; exact congrArg (fun x => Result.ok x w) (hF.get t v hl)) hF.dfs h
theorem ret2 {fn : Func} {R : Ending → World → Prop} {t u : Nat} {v x : Value} (hF : Fr N a m) (hr : fn.results = #[.tmp t, .tmp u]) (hl : look t m = some v) (hl' : look u m = some x) (h : R (.returned (.tuple #[v, x])) w) : bodyPost P fn R .ret a w :=
  bodyPost_ret (v := .tuple #[v, x]) (by rw [results_tmp2 hr]; have h1 := hF.get t v hl; have h2 := hF.get u x hl'; unfold slot at h1 h2; rw [h1, h2]) hF.dfs h
theorem ret3 {fn : Func} {R : Ending → World → Prop} {t u s : Nat} {v x y : Value} (hF : Fr N a m) (hr : fn.results = #[.tmp t, .tmp u, .tmp s]) (hl : look t m = some v) (hl' : look u m = some x) (hl'' : look s m = some y) (h : R (.returned (.tuple #[v, x, y])) w) : bodyPost P fn R .ret a w := by
  have h1 := hF.get t v hl; have h2 := hF.get u x hl'; have h3 := hF.get s y hl''
  unfold slot at h1 h2 h3
  exact bodyPost_ret (v := .tuple #[v, x, y]) (by simp only [results, hr]; simp; rw [← h1, ← h2, ← h3]; simp [Array.getD_eq_getD_getElem?]) hF.dfs h
theorem ret0 {fn : Func} {R : Ending → World → Prop} (hF : Fr N a m) (hr : fn.results = #[]) (h : R (.returned (.tuple #[])) w) : bodyPost P fn R .ret a w :=
  bodyPost_ret (v := .tuple #[]) (results_none hr _ _ _) hF.dfs h
theorem end0 {fn : Func} {R : Ending → World → Prop} (hF : Fr N a m) (hr : fn.results = #[]) (h : R (.returned (.tuple #[])) w) : bodyPost P fn R .normal a w :=
  bodyPost_end (v := .tuple #[]) (results_none hr _ _ _) hF.dfs h
/-- A result that lies in memory. -/
theorem retCell {fn : Func} {R : Ending → World → Prop} {t : Nat} {ty : TypeId} {d : TypeDesc} {b k : Nat} {nw : Bool} {T : TypeId} {vs : List Value} (hF : Fr N a m) (hr : fn.results = #[.cell t ty]) (ht : P.underlying ty = some d) (hd : (match d with | .struct _ | .array _ _ => true | _ => false) = true)
    (hz : (P.info? ty).map (·.size) = some vs.length) (hl : look t m = some (.pointer (some ⟨b, 0, none⟩))) (hS : St w0 w H) (hk : H[k]? = some ⟨nw, some b, blk T vs⟩) (h : R (.returned (.agg vs.toArray)) w) : bodyPost P fn R .ret a w := by
  have h1 := hF.get t _ hl
  unfold slot at h1
  have h2 := run_loadVar_row (P := P) w b T ty vs.toArray (0, 0) d (hS.has _ (List.mem_of_getElem? hk) b rfl) ht hd (by simpa using hz)
  exact bodyPost_ret (v := .agg vs.toArray) (by
    have h1' : a.tmps[t]?.getD undef = .pointer (some ⟨b, 0, none⟩) := by rw [← h1, Array.getD_eq_getD_getElem?]
    simp [results, hr, h1', asAddr, h2]) hF.dfs h

/-! ### Blocks of bytes, words, ints -/
def blkB (t : TypeId) (l : List UInt8) : Obj := blk t (l.map vB)
def blkN (t : TypeId) (l : List Nat) : Obj := blk t (l.map vI)
def blkW (t : TypeId) (l : List UInt32) : Obj := blk t (l.map vW)
def blkD (t : TypeId) (l : List UInt64) : Obj := blk t (l.map vD)
theorem cell_ix {b i j : Nat} {v : Value} (h : w.cell? ⟨b, j, none⟩ = some v) (e : i = j) : w.cell? ⟨b, i, none⟩ = some v := by rw [e]; exact h
theorem map_at {α : Type} {f : α → Value} {l : List α} {i : Nat} (h : i < l.length) (d : α) : (l.map f)[i]? = some (f (l.getD i d)) := by
  rw [List.getElem?_map, List.getElem?_eq_getElem h, List.getD_eq_getElem?_getD, List.getElem?_eq_getElem h]; rfl
theorem St.cellB (hS : St w0 w H) {k : Nat} {nw : Bool} {b : Nat} {t : TypeId} {l : List UInt8} (hk : H[k]? = some ⟨nw, some b, blkB t l⟩) (j : Nat) (hj : j < l.length) : w.cell? ⟨b, j, none⟩ = some (vB (l.getD j 0)) := hS.cell hk (map_at hj 0)
theorem St.cellN (hS : St w0 w H) {k : Nat} {nw : Bool} {b : Nat} {t : TypeId} {l : List Nat} (hk : H[k]? = some ⟨nw, some b, blkN t l⟩) (j : Nat) (hj : j < l.length) : w.cell? ⟨b, j, none⟩ = some (vI (l.getD j 0)) := hS.cell hk (map_at hj 0)
theorem St.cellW (hS : St w0 w H) {k : Nat} {nw : Bool} {b : Nat} {t : TypeId} {l : List UInt32} (hk : H[k]? = some ⟨nw, some b, blkW t l⟩) (j : Nat) (hj : j < l.length) : w.cell? ⟨b, j, none⟩ = some (vW (l.getD j 0)) := hS.cell hk (map_at hj 0)
theorem St.cellD (hS : St w0 w H) {k : Nat} {nw : Bool} {b : Nat} {t : TypeId} {l : List UInt64} (hk : H[k]? = some ⟨nw, some b, blkD t l⟩) (j : Nat) (hj : j < l.length) : w.cell? ⟨b, j, none⟩ = some (vD (l.getD j 0)) := hS.cell hk (map_at hj 0)
theorem one_map {α : Type} {f : α → Value} (hf : ∀ x, (f x).oneCell' = true) (l : List α) : ∀ u ∈ l.map f, u.oneCell' = true := by
  intro u hu
  obtain ⟨x, _, rfl⟩ := List.mem_map.1 hu
  exact hf x
theorem one_B (l : List UInt8) : ∀ u ∈ l.map vB, u.oneCell' = true := one_map (fun _ => rfl) l
theorem one_N (l : List Nat) : ∀ u ∈ l.map vI, u.oneCell' = true := one_map (fun _ => rfl) l
theorem one_W (l : List UInt32) : ∀ u ∈ l.map vW, u.oneCell' = true := one_map (fun _ => rfl) l
theorem one_D (l : List UInt64) : ∀ u ∈ l.map vD, u.oneCell' = true := one_map (fun _ => rfl) l

section stores
variable {t : TypeId} {x y : Operand} {b i : Nat} {k : Nat} {nw : Bool} {T : TypeId}
/-- A store of one cell, the place told. -/
theorem stp_storeAt {v : Value} {cs : List Value} (j : Nat) (hF : Fr N a m) (hw : Region.wanted o (yielded ops a.tmps) = true) (hd : o.dst = none) (ho : o.op = .store t x y) (hz : (P.info? t).map (·.size) = some 1)
    (hx : a.eval x = .pointer (some ⟨b, i, none⟩)) (hij : i = j) (hy : a.eval y = v) (hv : v.oneCell' = true) (hS : St w0 w H) (hk : H[k]? = some ⟨nw, some b, blk T cs⟩) (hi : j < cs.length) (h : ∀ w', St w0 w' (H.set k ⟨nw, some b, blk T (cs.set j v)⟩) → K a w') : Stp P ops Q o a w K := by
  subst hij
  exact stp_store hF hw hd ho hz hx hy hv hS hk hi h
theorem stp_storeB {v : UInt8} {l : List UInt8} (j : Nat) (hF : Fr N a m) (hw : Region.wanted o (yielded ops a.tmps) = true) (hd : o.dst = none) (ho : o.op = .store t x y) (hz : (P.info? t).map (·.size) = some 1)
    (hx : a.eval x = .pointer (some ⟨b, i, none⟩)) (hij : i = j) (hy : a.eval y = vB v) (hS : St w0 w H) (hk : H[k]? = some ⟨nw, some b, blkB T l⟩) (hi : j < l.length) (h : ∀ w', St w0 w' (H.set k ⟨nw, some b, blkB T (l.set j v)⟩) → K a w') : Stp P ops Q o a w K :=
  stp_storeAt j hF hw hd ho hz hx hij hy rfl hS hk (by simpa using hi) fun w' h' => h w' (by unfold blkB; rw [List.map_set]; exact h')
theorem stp_storeN {v : Nat} {l : List Nat} (j : Nat) (hF : Fr N a m) (hw : Region.wanted o (yielded ops a.tmps) = true) (hd : o.dst = none) (ho : o.op = .store t x y) (hz : (P.info? t).map (·.size) = some 1)
    (hx : a.eval x = .pointer (some ⟨b, i, none⟩)) (hij : i = j) (hy : a.eval y = vI v) (hS : St w0 w H) (hk : H[k]? = some ⟨nw, some b, blkN T l⟩) (hi : j < l.length) (h : ∀ w', St w0 w' (H.set k ⟨nw, some b, blkN T (l.set j v)⟩) → K a w') : Stp P ops Q o a w K :=
  stp_storeAt j hF hw hd ho hz hx hij hy rfl hS hk (by simpa using hi) fun w' h' => h w' (by unfold blkN; rw [List.map_set]; exact h')
theorem stp_storeW {v : UInt32} {l : List UInt32} (j : Nat) (hF : Fr N a m) (hw : Region.wanted o (yielded ops a.tmps) = true) (hd : o.dst = none) (ho : o.op = .store t x y) (hz : (P.info? t).map (·.size) = some 1)
    (hx : a.eval x = .pointer (some ⟨b, i, none⟩)) (hij : i = j) (hy : a.eval y = vW v) (hS : St w0 w H) (hk : H[k]? = some ⟨nw, some b, blkW T l⟩) (hi : j < l.length) (h : ∀ w', St w0 w' (H.set k ⟨nw, some b, blkW T (l.set j v)⟩) → K a w') : Stp P ops Q o a w K :=
  stp_storeAt j hF hw hd ho hz hx hij hy rfl hS hk (by simpa using hi) fun w' h' => h w' (by unfold blkW; rw [List.map_set]; exact h')
theorem stp_storeD {v : UInt64} {l : List UInt64} (j : Nat) (hF : Fr N a m) (hw : Region.wanted o (yielded ops a.tmps) = true) (hd : o.dst = none) (ho : o.op = .store t x y) (hz : (P.info? t).map (·.size) = some 1)
    (hx : a.eval x = .pointer (some ⟨b, i, none⟩)) (hij : i = j) (hy : a.eval y = vD v) (hS : St w0 w H) (hk : H[k]? = some ⟨nw, some b, blkD T l⟩) (hi : j < l.length) (h : ∀ w', St w0 w' (H.set k ⟨nw, some b, blkD T (l.set j v)⟩) → K a w') : Stp P ops Q o a w K :=
  stp_storeAt j hF hw hd ho hz hx hij hy rfl hS hk (by simpa using hi) fun w' h' => h w' (by unfold blkD; rw [List.map_set]; exact h')
/-- The whole of a block, by another aggregate of its size. -/
theorem stp_storeAll {cs vs : List Value} (hF : Fr N a m) (hw : Region.wanted o (yielded ops a.tmps) = true) (hd : o.dst = none) (ho : o.op = .store t x y) (hz : (P.info? t).map (·.size) = some vs.length)
    (hx : a.eval x = .pointer (some ⟨b, 0, none⟩)) (hy : a.eval y = .agg vs.toArray) (hv : ∀ u ∈ vs, u.oneCell' = true) (hS : St w0 w H) (hk : H[k]? = some ⟨nw, some b, blk T cs⟩) (hl : vs.length = cs.length) (h : ∀ w', St w0 w' (H.set k ⟨nw, some b, blk T vs⟩) → K a w') : Stp P ops Q o a w K :=
  stp_storeAgg hF hw hd ho hz hx hy hv hS hk (by omega) fun w' h' => h w' (by
    have e : cs.take 0 ++ vs ++ cs.drop (0 + vs.length) = vs := by simp [hl]
    rw [e] at h'; exact h')
theorem stp_storeAggAt {vs cs : List Value} (j : Nat) (hF : Fr N a m) (hw : Region.wanted o (yielded ops a.tmps) = true) (hd : o.dst = none) (ho : o.op = .store t x y) (hz : (P.info? t).map (·.size) = some vs.length)
    (hx : a.eval x = .pointer (some ⟨b, i, none⟩)) (hij : i = j) (hy : a.eval y = .agg vs.toArray) (hv : ∀ u ∈ vs, u.oneCell' = true) (hS : St w0 w H) (hk : H[k]? = some ⟨nw, some b, blk T cs⟩) (hi : j + vs.length ≤ cs.length)
    (h : ∀ w', St w0 w' (H.set k ⟨nw, some b, blk T (cs.take j ++ vs ++ cs.drop (j + vs.length))⟩) → K a w') : Stp P ops Q o a w K := by
  subst hij
  exact stp_storeAgg hF hw hd ho hz hx hy hv hS hk hi h
end stores
/-- Parts of a block that begins with bytes. -/
def splice {α : Type} (K : List α) (o : Nat) (t : List α) : List α := K.take o ++ t ++ K.drop (o + t.length)
theorem splice_len {α : Type} {K t : List α} {o : Nat} (h : o + t.length ≤ K.length) : (splice K o t).length = K.length := by simp [splice]; omega
theorem splice_map {α : Type} {f : α → Value} {K t : List α} {o : Nat} {R : List Value} (h : o + t.length ≤ K.length) :
    (K.map f ++ R).take o ++ t.map f ++ (K.map f ++ R).drop (o + (t.map f).length) = (splice K o t).map f ++ R := by
  simp only [splice, List.map_append, List.length_map]
  rw [List.take_append_of_le_length (by simp; omega), List.drop_append_of_le_length (by simp; omega)]
  simp [List.map_take, List.map_drop]
theorem part_map {α : Type} {f : α → Value} {K : List α} {o n : Nat} {R : List Value} (h : o + n ≤ K.length) :
    ((K.map f ++ R).drop o).take (((K.drop o).take n).map f).length = ((K.drop o).take n).map f := by
  rw [List.drop_append_of_le_length (by simp; omega)]
  have hl : (((K.drop o).take n).map f).length = n := by simp; omega
  rw [hl, List.take_append_of_le_length (by simp; omega)]
  simp [List.map_take, List.map_drop]
theorem part_map0 {α : Type} {f : α → Value} {K : List α} {o n : Nat} (h : o + n ≤ K.length) : ((K.map f).drop o).take (((K.drop o).take n).map f).length = ((K.drop o).take n).map f := by
  have := part_map (f := f) (R := []) h
  rwa [List.append_nil] at this
theorem arr_at {α : Type} {f : α → Value} {l : List α} {i : Nat} (h : i < l.length) (d : α) : ((l.map f).toArray)[i]? = some (f (l.getD i d)) := by
  rw [List.getElem?_toArray]; exact map_at h d
theorem part_len {α : Type} {f : α → Value} {K : List α} {o n : Nat} (h : o + n ≤ K.length) : (((K.drop o).take n).map f).length = n := by simp; omega
theorem set_map {α : Type} {f : α → Value} {K : List α} {i : Nat} {v : α} {R : List Value} (h : i < K.length) : (K.map f ++ R).set i (f v) = (K.set i v).map f ++ R := by
  rw [List.set_append, if_pos (by simpa using h), List.map_set]
theorem set_map2 {α : Type} {f : α → Value} {A B : List Value} {K : List α} {i n : Nat} {v : α} (hA : A.length = n) (h : i < K.length) : (A ++ (K.map f ++ B)).set (n + i) (f v) = A ++ ((K.set i v).map f ++ B) := by
  rw [List.set_append, if_neg (by omega), show n + i - A.length = i by omega, set_map h]
theorem at_map {α : Type} {f : α → Value} {K : List α} {i : Nat} {R : List Value} (h : i < K.length) (d : α) : (K.map f ++ R)[i]? = some (f (K.getD i d)) := by
  rw [List.getElem?_append_left (by simpa using h)]; exact map_at h d
theorem at_map2 {α : Type} {f : α → Value} {A B : List Value} {K : List α} {i n : Nat} (hA : A.length = n) (h : i < K.length) (d : α) : (A ++ (K.map f ++ B))[n + i]? = some (f (K.getD i d)) := by
  rw [List.getElem?_append_right (by omega), show n + i - A.length = i by omega]; exact at_map h d
/-! ### New memory laid while the order is open -/
def FlB (w : World) (e : TypeId) (cs : List Value) : Value → World → Prop := fun v w' => ∃ b, v = .pointer (some ⟨b, 0, none⟩) ∧ w.heap.size ≤ b ∧ w'.heap[b]? = some (blk e cs)
theorem FlB.lasts (w : World) (e : TypeId) (cs : List Value) : Lasts (FlB w e cs) := fun v w1 w2 ⟨b, hv, hb, hh⟩ hx => ⟨b, hv, hb, (hx.block b (heap_lt hh)).trans hh⟩
theorem fo_alloc {e : TypeId} {z : Value} {cs : List Value} (ho : o.op = .alloc e) (hz : (P.info? e).map (·.zero) = some (some z)) (hc : z.cells = cs.toArray) : FO P w o a (FlB w e cs) := fun w1 hx =>
  .inl ⟨_, _, run_allocOp ho hz hc, Ext.alloc _ _, ⟨_, rfl, hx.size, heap_alloc_new w1 _⟩⟩
def FlS (w : World) (e : TypeId) (n : Nat) (cs : List Value) : Value → World → Prop := fun v w' => ∃ b, v = .slice (some ⟨b, 0, none⟩) n n ∧ w.heap.size ≤ b ∧ w'.heap[b]? = some (blk e cs)
theorem FlS.lasts (w : World) (e : TypeId) (n : Nat) (cs : List Value) : Lasts (FlS w e n cs) := fun v w1 w2 ⟨b, hv, hb, hh⟩ hx => ⟨b, hv, hb, (hx.block b (heap_lt hh)).trans hh⟩
theorem fo_make {t e : TypeId} {x y : Operand} {z : Value} {by_ n : Nat} (ho : o.op = .makeSlice t x y) (ht : P.underlying t = some (.slice e)) (hy : Ty P e z 1 by_) (hz : z.cells = #[z]) (hx : a.eval x = vI n) (hx' : a.eval y = vI n) (hb : by_ * n ≤ 140737488355328) (hn : n ≤ 140737488355328) :
    FO P w o a (FlS w e n (List.replicate n z)) := fun w1 hx1 =>
  .inl ⟨_, _, run_makeOp ho ht hy hz hx hx' hb hn, Ext.alloc _ _, ⟨_, rfl, hx1.size, heap_alloc_new w1 _⟩⟩
theorem St.float {w' : World} (hS : St w0 w H) (hx : Ext w w') {b : Nat} {o : Obj} (h1 : w.heap.size ≤ b) (h2 : w'.heap[b]? = some o) : St w0 w' (⟨true, some b, o⟩ :: H) :=
  (hS.ext hx).attach hS.lts hS.size _ _ fun c hc => by
    injection hc with hc
    subst hc
    exact ⟨h1, h2⟩

theorem Ext.keep {w' : World} (h : Ext w w') {b : Nat} {o : Obj} (hb : w.heap[b]? = some o) : w'.heap[b]? = some o := (h.block b (heap_lt hb)).trans hb
theorem cell_of {b i : Nat} {T : TypeId} {cs : List Value} {v : Value} (hb : w.heap[b]? = some (blk T cs)) (hv : cs[i]? = some v) : w.cell? ⟨b, i, none⟩ = some v := (cell_blk hb).trans hv

/-! ### Bytes that are read -/
theorem Rd.isB {v : Value} {l : List UInt8} (h : Rd w v (l.map vB)) : ∃ A c, v = .slice A l.length c ∧ l.length ≤ c ∧ c ≤ 9223372036854775807 ∧ (0 < l.length → ∃ b o, A = some ⟨b, o, none⟩ ∧ ∀ i, i < l.length → w.cell? ⟨b, o + i, none⟩ = some (vB (l.getD i 0))) := by
  obtain ⟨A, c, hv, h1, h2, h3⟩ := h.is
  rw [List.length_map] at hv h1 h3
  refine ⟨A, c, hv, h1, h2, fun hp => ?_⟩
  obtain ⟨b, o, hA, hc⟩ := h3 hp
  exact ⟨b, o, hA, fun i hi => hc i _ (map_at hi 0)⟩
theorem Rd.rdcell {b o n c : Nat} {xs : List Value} (h : Rd w (.slice (some ⟨b, o, none⟩) n c) xs) {j : Nat} {u : Value} (hu : xs[j]? = some u) : w.cell? ⟨b, o + j, none⟩ = some u := by
  obtain ⟨A, c', hv, _, _, hc⟩ := h.is
  injection hv with hA _ _
  subst hA
  have hj : j < xs.length := (List.getElem?_eq_some_iff.1 hu).1
  obtain ⟨b', o', hA, hc⟩ := hc (by omega)
  injection hA with hA
  injection hA with h1 h2 _
  subst h1; subst h2
  exact hc j u hu
theorem Rd.cellB {b o n c : Nat} {l : List UInt8} (h : Rd w (.slice (some ⟨b, o, none⟩) n c) (l.map vB)) (i : Nat) (hi : i < l.length) : w.cell? ⟨b, o + i, none⟩ = some (vB (l.getD i 0)) := by
  obtain ⟨A, c', hv, _, _, hc⟩ := h.isB
  injection hv with hA _ _
  subst hA
  obtain ⟨b', o', hA, hc⟩ := hc (by omega)
  injection hA with hA
  injection hA with h1 h2 _
  subst h1; subst h2
  exact hc i hi
theorem gv_toArr {t e : TypeId} {x : Operand} {n len c : Nat} {A : Option Addr} (ho : o.op = .sliceToArrayPointer t x) (ht : P.underlying t = some (.array n e)) (hx : a.eval x = .slice A len c) (hl : n ≤ len) : Gv P o a w (.pointer A) := by
  unfold Gv execOp; rw [ho]
  have := Nat.not_lt.2 hl
  simp [hx, Instr.arrayAt, run_und ht, this]
theorem gv_pickT {c x y : Operand} {v : Value} (ho : o.op = .pick c x y) (hc : a.eval c = .bool true) (hv : a.eval x = v) : Gv P o a w v := gv_pick ho hc (by simpa using hv)
theorem gv_pickF {c x y : Operand} {v : Value} (ho : o.op = .pick c x y) (hc : a.eval c = .bool false) (hv : a.eval y = v) : Gv P o a w v := gv_pick ho hc (by simpa using hv)

/-! ### Aggregates that are built -/
def EvP (a : Act) : List (Nat × Operand) → List (Nat × Value) → Prop
  | [], [] => True
  | (i, x) :: l, (j, v) :: m => (i = j ∧ a.eval x = v) ∧ EvP a l m
  | _, _ => False
theorem EvP.nil : EvP a [] [] := trivial
theorem EvP.cons {x : Operand} {v : Value} {i : Nat} {l : List (Nat × Operand)} {pl : List (Nat × Value)} (hx : a.eval x = v) (h : EvP a l pl) : EvP a ((i, x) :: l) ((i, v) :: pl) := ⟨⟨rfl, hx⟩, h⟩
theorem EvP.map : ∀ {l : List (Nat × Operand)} {pl : List (Nat × Value)}, EvP a l pl → l.map (fun p => (p.1, a.eval p.2)) = pl
  | [], [], _ => rfl
  | (i, x) :: l, (j, v) :: m, h => by obtain ⟨⟨rfl, rfl⟩, h2⟩ := h; rw [List.map_cons, EvP.map h2]
  | [], _ :: _, h => h.elim
  | _ :: _, [], h => h.elim
theorem foldl_zip (o : Nat) : ∀ (vs : List Value) (k : Nat) (zs : List Value), o + k + vs.length ≤ zs.length →
    (vs.zipIdx k).foldl (fun (cs : Array Value) p => cs.setIfInBounds (o + p.2) p.1) zs.toArray = (zs.take (o + k) ++ vs ++ zs.drop (o + k + vs.length)).toArray
  | [], k, zs, _ => by simp
  | v :: vs, k, zs, h => by
    simp only [List.length_cons] at h
    rw [List.zipIdx_cons, List.foldl_cons]
    have e : zs.toArray.setIfInBounds (o + k) v = (zs.set (o + k) v).toArray := by simp
    rw [e, foldl_zip o vs (k + 1) (zs.set (o + k) v) (by simp; omega)]
    congr 1
    have h1 : (zs.set (o + k) v).take (o + (k + 1)) = zs.take (o + k) ++ [v] := by
      rw [show o + (k + 1) = (o + k) + 1 by omega, List.take_set, List.take_succ_eq_append_getElem (by omega)]
      have hm : min (o + k) zs.length = o + k := Nat.min_eq_left (by omega)
      rw [List.set_append, if_neg (by simp [hm])]
      simp [hm]
    have h2 : (zs.set (o + k) v).drop (o + (k + 1) + vs.length) = zs.drop (o + k + (v :: vs).length) := by
      rw [List.drop_set, if_pos (by omega)]
      simp only [List.length_cons]
      congr 1
      omega
    rw [h1, h2]
    simp
theorem fill_cons {place : Nat → Option (Nat × Nat)} {zs vs : List Value} {i off : Nat} {v : Value} {rest : List (Nat × Value)} (hp : place i = some (off, vs.length)) (hv : v.cells = vs.toArray) (h : off + vs.length ≤ zs.length) :
    Instr.fill place zs.toArray ((i, v) :: rest) = Instr.fill place (splice zs off vs).toArray rest := by
  rw [Instr.fill, hp]
  simp only [hv]
  rw [if_neg (by simp; omega)]
  congr 1
  have := foldl_zip off vs 0 zs (by simpa using h)
  rw [← Array.foldl_toList]
  simpa [splice] using this
theorem fill_nil {place : Nat → Option (Nat × Nat)} {zs : Array Value} : Instr.fill place zs [] = some zs := rfl
theorem run_buildStr {t : TypeId} {fs : Array Field} {places : Array (Nat × Nat)} {z : Value} {zs cs : Array Value} {pl : List (Nat × Value)} (ht : P.underlying t = some (.struct fs)) (hz : (P.info? t).map (·.zero) = some (some z)) (hzs : z.cells = zs)
    (hpl : ∀ w, (fs.mapM fun f => (do pure (f.offset, ← sizeOf f.type) : Sem (Nat × Nat))).run P w = .ok places w) (hf : Instr.fill (places[·]?) zs pl = some cs) : (Instr.build t pl.toArray).run P w = .ok (.agg cs) w := by
  simp only [Instr.build, Sem.run_bind, run_zeroValue hz, Result.andThen_ok, run_und ht, hzs]
  rw [hpl w]
  simp only [Result.andThen_ok, hf, Sem.run_pure]
theorem run_buildArr {t e : TypeId} {n sz : Nat} {z : Value} {zs cs : Array Value} {pl : List (Nat × Value)} (ht : P.underlying t = some (.array n e)) (hs : (P.info? e).map (·.size) = some sz) (hz : (P.info? t).map (·.zero) = some (some z)) (hzs : z.cells = zs)
    (hf : Instr.fill (fun i => some (i * sz, sz)) zs pl = some cs) : (Instr.build t pl.toArray).run P w = .ok (.agg cs) w := by
  simp only [Instr.build, Sem.run_bind, run_zeroValue hz, Result.andThen_ok, run_und ht, run_sizeOf hs, hzs, hf, Sem.run_pure]
theorem gv_build {t : TypeId} {l : List (Nat × Operand)} {pl : List (Nat × Value)} {v : Value} (ho : o.op = .build t l.toArray) (hp : l.map (fun p => (p.1, a.eval p.2)) = pl) (hr : (Instr.build t pl.toArray).run P w = .ok v w) : Gv P o a w v := by
  unfold Gv execOp; rw [ho]
  have : l.toArray.map (fun x => match x with | (i, x) => (i, a.eval x)) = pl.toArray := by
    rw [List.map_toArray, ← hp]
  simp only [this, Sem.run_bind, hr, Result.andThen_ok, Sem.run_pure]

/-- A whole block, or a part of it, loaded as an aggregate. -/
theorem gv_loadPart {t : TypeId} {d : TypeDesc} {x : Operand} {b i k : Nat} {nw : Bool} {T : TypeId} {cs vs : List Value} (ho : o.op = .load t x) (ht : P.underlying t = some d) (hd : (match d with | .struct _ | .array _ _ => true | _ => false) = true) (hz : (P.info? t).map (·.size) = some vs.length)
    (hx : a.eval x = .pointer (some ⟨b, i, none⟩)) (hS : St w0 w H) (hk : H[k]? = some ⟨nw, some b, blk T cs⟩) (hv : (cs.drop i).take vs.length = vs) : Gv P o a w (.agg vs.toArray) :=
  gv_loadAgg ho ht hd hz hx fun j u hu => hS.cell hk (by
    rw [← hv, List.getElem?_take] at hu
    split at hu
    · rw [List.getElem?_drop] at hu; exact hu
    · cases hu)
theorem gv_loadPartAt {t : TypeId} {d : TypeDesc} {x : Operand} {b i j k : Nat} {nw : Bool} {T : TypeId} {cs vs : List Value} (ho : o.op = .load t x) (ht : P.underlying t = some d) (hd : (match d with | .struct _ | .array _ _ => true | _ => false) = true) (hz : (P.info? t).map (·.size) = some vs.length)
    (hx : a.eval x = .pointer (some ⟨b, i, none⟩)) (hij : i = j) (hS : St w0 w H) (hk : H[k]? = some ⟨nw, some b, blk T cs⟩) (hv : (cs.drop j).take vs.length = vs) : Gv P o a w (.agg vs.toArray) := by
  subst hij
  exact gv_loadPart ho ht hd hz hx hS hk hv
theorem gv_loadAll {t : TypeId} {d : TypeDesc} {x : Operand} {b k : Nat} {nw : Bool} {T : TypeId} {cs : List Value} (ho : o.op = .load t x) (ht : P.underlying t = some d) (hd : (match d with | .struct _ | .array _ _ => true | _ => false) = true) (hz : (P.info? t).map (·.size) = some cs.length)
    (hx : a.eval x = .pointer (some ⟨b, 0, none⟩)) (hS : St w0 w H) (hk : H[k]? = some ⟨nw, some b, blk T cs⟩) : Gv P o a w (.agg cs.toArray) :=
  gv_loadPart ho ht hd hz hx hS hk (by simp)
end
end Go.Fw
