/- What is proved: a head in which calls and stores change one state after the other, while other operations float. -/
import Derived.Test.YtfhalnobaeogkaaDoorFwTok
set_option linter.unusedVariables false
set_option linter.unusedSimpArgs false
namespace Go.Fw
open Go Go.RowKit
section
variable {P : Program} {ops : Array Oper} {Q : Exit → Act → World → Prop} {N : Nat} {a : Act} {w w0 : World} {m : List (Nat × Value)} {o : Oper}
/-- The stores. -/
def stB (ops : Array Oper) (n0 n : Nat) (fs cs st : List Nat) : Bool := st.all fun i => decide (n0 ≤ i) && (decide (i < n) && (cs.contains i && (!fs.contains i && ((ops[i]?).bind (·.dst)).isNone)))
theorem stB_spec {n0 n : Nat} {fs cs st : List Nat} (h : stB ops n0 n fs cs st = true) : ∀ i ∈ st, n0 ≤ i ∧ i < n ∧ i ∈ cs ∧ i ∉ fs ∧ (ops[i]?).bind (·.dst) = none := fun i hi => by
  have := List.all_eq_true.1 h i hi
  simp only [Bool.and_eq_true, decide_eq_true_eq, Bool.not_eq_true', List.contains_eq_mem, decide_eq_false_iff_not, Option.isNone_iff_eq_none] at this
  exact ⟨this.1, this.2.1, this.2.2.1, this.2.2.2.1, this.2.2.2.2⟩
theorem fr_heldU {F : FloT} {A b : Act} {M n : Nat} {fl st : List Nat} (hdst : ∀ i ∈ st, (ops[i]?).bind (·.dst) = none) (hfl : fl = F.map (·.1) ++ st) (hd : ∀ x ∈ F, (ops[x.1]?).bind (·.dst) = some x.2.1) (hs : b.tmps.size = N) (hdf : b.defers = a.defers) (hF : Fr N a m)
    (hsl : ∀ t, ¬ flSlot ops M n fl t → slot b t = slot A t) : ∀ mm, Fr N A mm → Fr N b (heldT F b ++ mm) := fun mm hm => by
  refine ⟨hs, hdf.trans hF.dfs, fun t v hv => ?_⟩
  rcases look_heldT hv with ⟨rfl, _⟩ | ⟨h1, h2⟩
  · rfl
  · rw [← hm.get t v h2]
    refine hsl t ?_
    rintro ⟨j, p, _, _, hjf, hp, hpd⟩
    rw [hfl] at hjf
    rcases List.mem_append.1 hjf with hjf | hjf
    · obtain ⟨x, hx, rfl⟩ := List.mem_map.1 hjf
      have := hd x hx
      rw [hp] at this
      have e : some x.2.1 = some t := this.symm.trans hpd
      injection e with e
      exact h1 x hx e
    · have := hdst j hjf
      rw [hp] at this
      have e : (none : Option Nat) = some t := this.symm.trans hpd
      cases e
/-- What a store, or a call without a value, that changes the state does. -/
def UX (P : Program) (ops : Array Oper) (F : FloT) (Φ : Nat → World → Prop) (w0 : World) (o : Oper) (a : Act) (w : World) (s : Nat) : Prop :=
  Region.wanted o (yielded ops a.tmps) = true ∧ ((∃ w', (execOp a.eval o).run P w = .ok .skip w' ∧ Ext w0 w' ∧ Φ (s + 1) w' ∧ ∀ y ∈ F, y.2.2 s (slot a y.2.1) w → y.2.2 (s + 1) (slot a y.2.1) w') ∨ ∃ f args, (execOp a.eval o).run P w = .ok (.enter f args) w ∧
    Calls P f args w (fun e w' => ∃ v, e = .returned v ∧ Ext w0 w' ∧ Φ (s + 1) w' ∧ ∀ y ∈ F, y.2.2 s (slot a y.2.1) w → y.2.2 (s + 1) (slot a y.2.1) w'))
theorem ux_store {F : FloT} {Φ : Nat → World → Prop} {s : Nat} {w' : World} (hw : Region.wanted o (yielded ops a.tmps) = true) (hr : (execOp a.eval o).run P w = .ok .skip w') (hx : Ext w0 w') (hp : Φ (s + 1) w') (hk : ∀ y ∈ F, y.2.2 s (slot a y.2.1) w → y.2.2 (s + 1) (slot a y.2.1) w') : UX P ops F Φ w0 o a w s :=
  ⟨hw, .inl ⟨w', hr, hx, hp, hk⟩⟩
theorem run_storeAggAt {t : TypeId} {x y : Operand} {b i k : Nat} {H : List Ent} {w00 : World} {nw : Bool} {T : TypeId} {vs cs : List Value} (ho : o.op = .store t x y) (hz : (P.info? t).map (·.size) = some vs.length) (hx : a.eval x = .pointer (some ⟨b, i, none⟩)) (hy : a.eval y = .agg vs.toArray) (hv : ∀ u ∈ vs, u.oneCell' = true) (hS : St w00 w H) (hk : H[k]? = some ⟨nw, some b, blk T cs⟩) (hi : i + vs.length ≤ cs.length) :
    ∃ w', (execOp a.eval o).run P w = .ok .skip w' ∧ St w00 w' (H.set k ⟨nw, some b, blk T (cs.take i ++ vs ++ cs.drop (i + vs.length))⟩) := by
  have hb := hS.has _ (List.mem_of_getElem? hk) b rfl
  refine ⟨w.setRow b (cs.take i ++ vs ++ cs.drop (i + vs.length)).toArray, ?_, hS.setRow hk⟩
  unfold execOp
  rw [ho]
  have := run_storeVar (P := P) (w := w) (t := t) (b := b) (i := i) (T := T) (cs := cs) (vs := vs) (v := .agg vs.toArray) hz rfl hv hb hi
  simp [hx, hy, Instr.storeAt, Instr.sureAddr, this]
theorem run_storeOne {t : TypeId} {x y : Operand} {b i k : Nat} {H : List Ent} {w00 : World} {nw : Bool} {T : TypeId} {v : Value} {cs : List Value} (ho : o.op = .store t x y) (hz : (P.info? t).map (·.size) = some 1) (hx : a.eval x = .pointer (some ⟨b, i, none⟩)) (hy : a.eval y = v) (hv : v.oneCell' = true) (hS : St w00 w H) (hk : H[k]? = some ⟨nw, some b, blk T cs⟩) (hi : i < cs.length) :
    ∃ w', (execOp a.eval o).run P w = .ok .skip w' ∧ St w00 w' (H.set k ⟨nw, some b, blk T (cs.set i v)⟩) := by
  have hb := hS.has _ (List.mem_of_getElem? hk) b rfl
  have hvc : v.cells = [v].toArray := by cases v <;> simp_all [Value.cells, Value.oneCell']
  refine ⟨w.setRow b (cs.set i v).toArray, ?_, hS.setRow hk⟩
  unfold execOp
  rw [ho]
  have hs := run_storeVar (P := P) (w := w) (t := t) (b := b) (i := i) (T := T) (cs := cs) (vs := [v]) (v := v) (by simpa using hz) hvc (by simpa using hv) hb (by simp; omega)
  have he : cs.take i ++ [v] ++ cs.drop (i + [v].length) = cs.set i v := by
    rw [List.set_eq_take_append_cons_drop, if_pos hi]; simp
  rw [he] at hs
  simp [hx, hy, Instr.storeAt, Instr.sureAddr, hs]
theorem ux_storeAgg {F : FloT} {Φ : Nat → World → Prop} {s : Nat} {t : TypeId} {x y : Operand} {b i k : Nat} {H : List Ent} {w00 : World} {nw : Bool} {T : TypeId} {vs cs : List Value} (hw : Region.wanted o (yielded ops a.tmps) = true) (ho : o.op = .store t x y) (hz : (P.info? t).map (·.size) = some vs.length) (hx : a.eval x = .pointer (some ⟨b, i, none⟩)) (hy : a.eval y = .agg vs.toArray) (hv : ∀ u ∈ vs, u.oneCell' = true) (hS : St w00 w H) (hk : H[k]? = some ⟨nw, some b, blk T cs⟩) (hi : i + vs.length ≤ cs.length)
    (h : ∀ w', St w00 w' (H.set k ⟨nw, some b, blk T (cs.take i ++ vs ++ cs.drop (i + vs.length))⟩) → Ext w0 w' ∧ Φ (s + 1) w' ∧ ∀ y ∈ F, y.2.2 s (slot a y.2.1) w → y.2.2 (s + 1) (slot a y.2.1) w') : UX P ops F Φ w0 o a w s := by
  obtain ⟨w', h1, h2⟩ := run_storeAggAt ho hz hx hy hv hS hk hi
  obtain ⟨g1, g2, g3⟩ := h w' h2
  exact ux_store hw h1 g1 g2 g3
theorem ux_storeOne {F : FloT} {Φ : Nat → World → Prop} {s : Nat} {t : TypeId} {x y : Operand} {b i k : Nat} {H : List Ent} {w00 : World} {nw : Bool} {T : TypeId} {v : Value} {cs : List Value} (hw : Region.wanted o (yielded ops a.tmps) = true) (ho : o.op = .store t x y) (hz : (P.info? t).map (·.size) = some 1) (hx : a.eval x = .pointer (some ⟨b, i, none⟩)) (hy : a.eval y = v) (hv : v.oneCell' = true) (hS : St w00 w H) (hk : H[k]? = some ⟨nw, some b, blk T cs⟩) (hi : i < cs.length)
    (h : ∀ w', St w00 w' (H.set k ⟨nw, some b, blk T (cs.set i v)⟩) → Ext w0 w' ∧ Φ (s + 1) w' ∧ ∀ y ∈ F, y.2.2 s (slot a y.2.1) w → y.2.2 (s + 1) (slot a y.2.1) w') : UX P ops F Φ w0 o a w s := by
  obtain ⟨w', h1, h2⟩ := run_storeOne ho hz hx hy hv hS hk hi
  obtain ⟨g1, g2, g3⟩ := h w' h2
  exact ux_store hw h1 g1 g2 g3
theorem run_headU {n0 n : Nat} (l : List Oper) (cs st : List Nat) (Φ : Nat → World → Prop) (F : FloT) (hF : Fr N a m) (hx0 : Ext w0 w) (hΦ0 : Φ 0 w) (hΦ : ∀ s, ∀ w w', Φ s w → Ext w w' → Φ s w') (hB : headA ops N n0 n (F.map (·.1) ++ st) = true) (hl : (ops.toList.drop n0).take (n - n0) = l)
    (hd : ∀ x ∈ F, (ops[x.1]?).bind (·.dst) = some x.2.1) (hR : ∀ x ∈ F, ∀ s, Lasts (x.2.2 s)) (hin : ∀ x ∈ F, n0 ≤ x.1 ∧ x.1 < n) (hu' : nodupB (F.map (·.1)) = true) (hcs : csB ops (F.map (·.1) ++ st) cs = true) (hst : stB ops n0 n (F.map (·.1)) cs st = true)
    (h : dwalk P ops w0 (F.map (·.1) ++ st) (fun A => (∀ x ∈ F, ∀ s b w', s ≤ cs.length → Ext w0 w' → (∀ mm, Fr N A mm → Fr N b (heldT F b ++ mm)) → (∀ y ∈ F, waits ops x.1 y.1 = true → y.2.2 s (slot b y.2.1) w') → Φ s w' →
        ∃ o, ops[x.1]? = some o ∧ ((x.1 ∉ cs ∧ SX P ops o b w' (x.2.2 s)) ∨ ∃ p, cs[p]? = some x.1 ∧ (s = p → TX P ops F Φ w0 o b w' s x.2.2))) ∧
      (∀ i ∈ st, ∀ s b w', s ≤ cs.length → Ext w0 w' → (∀ mm, Fr N A mm → Fr N b (heldT F b ++ mm)) → (∀ y ∈ F, waits ops i y.1 = true → y.2.2 s (slot b y.2.1) w') → Φ s w' → ∃ o p, ops[i]? = some o ∧ cs[p]? = some i ∧ (s = p → UX P ops F Φ w0 o b w' s)) ∧
      ∀ b w', Ext w0 w' → (∀ mm, Fr N A mm → Fr N b (heldT F b ++ mm)) → (∀ x ∈ F, x.2.2 cs.length (slot b x.2.1) w') → Φ cs.length w' → Run P ops Q n b w') n0 l a) : Run P ops Q n0 a w := by
  have hu := nodup_injT F hu'
  obtain ⟨hc1, hc2, hc3⟩ := csB_spec hcs
  have hst := stB_spec hst
  obtain ⟨fl, hfl⟩ : ∃ fl, fl = F.map (·.1) ++ st := ⟨_, rfl⟩
  rw [← hfl] at hB h hc1
  have hmem : ∀ x ∈ F, x.1 ∈ fl := fun x hx => by rw [hfl]; exact List.mem_append_left _ (List.mem_map.2 ⟨x, hx, rfl⟩)
  have hmst : ∀ i ∈ st, i ∈ fl := fun i hi => by rw [hfl]; exact List.mem_append_right _ hi
  have hback : ∀ i ∈ fl, (∃ x ∈ F, x.1 = i) ∨ i ∈ st := fun i hi => by
    rw [hfl] at hi
    rcases List.mem_append.1 hi with hi | hi
    · exact .inl (List.mem_map.1 hi)
    · exact .inr hi
  have hinfl : ∀ i ∈ fl, n0 ≤ i ∧ i < n := fun i hi => by
    rcases hback i hi with ⟨x, hx, rfl⟩ | hi
    · exact hin x hx
    · exact ⟨(hst i hi).1, (hst i hi).2.1⟩
  refine run_headB (P := P) (ops := ops) (Q := Q) (w0 := w0) (w := w) (a := a) N n0 n fl (fun i D v w => ∀ x ∈ F, x.1 = i → ∀ s, StP cs D s → x.2.2 s v w) (fun D w => ∃ s, StP cs D s ∧ Φ s w) l hB hl hx0 hF.size ?_
    (fun j D v w w' h hx x hxF hi s hs => hR x hxF s v w w' (h x hxF hi s hs) hx) (fun D w w' ⟨s, h1, h2⟩ hx => ⟨s, h1, hΦ s w w' h2 hx⟩)
    (dwalk_mono (fun A hA => ⟨fun hdA i o hm hn ho hf => ?_, fun b w' hx hs hdf hsl hr hph => ?_⟩) _ _ _ h)
  · refine ⟨0, ⟨Nat.zero_le _, fun i c hc => ?_⟩, hΦ0⟩
    have := (hinfl c (hc1 c (List.mem_of_getElem? hc))).1
    unfold bits
    rw [upto_getD]
    by_cases hk : c < ops.size
    · rw [if_pos hk, decide_eq_false (by omega)]; simp
    · rw [if_neg hk]; simp
  · rcases hback i hf with ⟨x, hxF, rfl⟩ | hist
    · intro D b w' hx hs hdf hsl hDi hDd hold hph
      obtain ⟨s, hsP, hph⟩ := hph
      have key := hA.1 x hxF s b w' hsP.1 hx (fr_heldU (fl := fl) (st := st) (hdst := fun i hi => (hst i hi).2.2.2.2) (M := n0) (n := n) hfl hd hs (hdf.trans hdA) hF hsl) (fun y hy hw => by
        have hDy := hDd y.1 (hin y hy).1 (hmem y hy) hw
        have hdy := hd y hy
        cases hp : ops[y.1]? with
        | none => rw [hp] at hdy; cases hdy
        | some p =>
          rw [hp] at hdy
          exact hold y.1 p y.2.1 (hin y hy).1 (hin y hy).2 (hmem y hy) hDy hp hdy y hy rfl s hsP) hph
      obtain ⟨o', ho', hres⟩ := key
      have hoo : o' = o := Option.some.inj (ho'.symm.trans ho)
      subst hoo
      rcases hres with ⟨hnc, hw, hres⟩ | ⟨p, hp, hres⟩
      · have hsP' : ∀ s', StP cs (also D x.1) s' ↔ StP cs D s' := fun s' => by
          unfold StP
          refine and_congr Iff.rfl ⟨fun h i c hc => ?_, fun h i c hc => ?_⟩
          · have := h i c hc
            unfold also at this
            rwa [if_neg (show ¬ c = x.1 from fun e => hnc (by rw [← e]; exact List.mem_of_getElem? hc))] at this
          · unfold also
            rw [if_neg (show ¬ c = x.1 from fun e => hnc (by rw [← e]; exact List.mem_of_getElem? hc))]
            exact h i c hc
        have mine : ∀ v w'', x.2.2 s v w'' → ∀ y ∈ F, y.1 = x.1 → ∀ s', StP cs (also D x.1) s' → y.2.2 s' v w'' := fun v w'' hv y hy hyx s' hs' => by
          rw [hu y hy x hxF hyx, ((hsP' s').1 hs').uniq hsP]; exact hv
        have keep : ∀ w'', Ext w' w'' → ∀ j p d, n0 ≤ j → j < n → j ∈ fl → D j = true → ops[j]? = some p → p.dst = some d → ∀ y ∈ F, y.1 = j → ∀ s', StP cs (also D x.1) s' → y.2.2 s' (slot b d) w'' := fun w'' hx'' j p d hj hj' hjf hD hp hd' y hy hyj s' hs' =>
          hR y hy s' _ _ _ (hold j p d hj hj' hjf hD hp hd' y hy hyj s' ((hsP' s').1 hs')) hx''
        refine ⟨hw, ?_⟩
        rcases hres with ⟨v, w'', hr, hx', hv⟩ | ⟨f, args, hr, hc⟩
        · exact .inl ⟨v, w'', hr, hx.trans hx', keep w'' hx', mine v w'' hv, s, (hsP' s).2 hsP, hΦ s _ _ hph hx'⟩
        · exact .inr (.inl ⟨f, args, hr, hc.mono fun e w'' ⟨v, he, hx', hv⟩ => ⟨v, he, hx.trans hx', keep w'' hx', mine v w'' hv, s, (hsP' s).2 hsP, hΦ s _ _ hph hx'⟩⟩)
      · have hsp : s = p := by
          have h1 := hsP.2 p x.1 hp
          rw [hDi] at h1
          have h2 : ¬ p < s := by simpa using h1.symm
          rcases Nat.lt_or_ge s p with hlt | hge
          · obtain ⟨p', rfl⟩ : ∃ p', p = p' + 1 := ⟨p - 1, by omega⟩
            have hl : p' < cs.length := Nat.lt_trans (Nat.lt_succ_self _) (List.getElem?_eq_some_iff.1 hp).1
            have hcs' := List.getElem?_eq_getElem hl
            have hwt := hc3 p' _ _ hp hcs'
            have hcf := hc1 _ (List.mem_of_getElem? hcs')
            have := hDd _ (hinfl _ hcf).1 hcf hwt
            rw [hsP.2 p' _ hcs'] at this
            have : p' < s := by simpa using this
            omega
          · omega
        obtain ⟨hw, hres⟩ := hres hsp
        have hsP' : StP cs (also D x.1) (s + 1) := by
          refine ⟨by have := (List.getElem?_eq_some_iff.1 hp).1; omega, fun i c hc => ?_⟩
          unfold also
          by_cases hcx : c = x.1
          · subst hcx
            rw [if_pos rfl, hc2 i p _ hc hp, decide_eq_true (by omega)]
          · rw [if_neg hcx, hsP.2 i c hc]
            have : i ≠ s := fun e => hcx (by rw [e, hsp, hp] at hc; exact (Option.some.inj hc).symm)
            by_cases hi : i < s
            · rw [decide_eq_true hi, decide_eq_true (by omega)]
            · rw [decide_eq_false hi, decide_eq_false (by omega)]
        have fin : ∀ (v : Value) (w'' : World), x.2.2 (s + 1) v w'' → (∀ y ∈ F, y.2.2 s (slot b y.2.1) w' → y.2.2 (s + 1) (slot b y.2.1) w'') →
            (∀ j q d, n0 ≤ j → j < n → j ∈ fl → D j = true → ops[j]? = some q → q.dst = some d → ∀ y ∈ F, y.1 = j → ∀ s', StP cs (also D x.1) s' → y.2.2 s' (slot b d) w'') ∧ ∀ y ∈ F, y.1 = x.1 → ∀ s', StP cs (also D x.1) s' → y.2.2 s' v w'' := fun v w'' hv hk => by
          refine ⟨fun j q d hj hj' hjf hD hq hd' y hy hyj s' hs' => ?_, fun y hy hyx s' hs' => ?_⟩
          · rw [hs'.uniq hsP']
            have hdy := hd y hy
            rw [hyj, hq] at hdy
            have hdd : y.2.1 = d := Option.some.inj (hdy.symm.trans hd')
            subst hdd
            exact hk y hy (hold j q _ hj hj' hjf hD hq hd' y hy hyj s hsP)
          · rw [hs'.uniq hsP', hu y hy x hxF hyx]; exact hv
        rcases hres with ⟨v, w'', hr, hx', hph', hv, hk⟩ | ⟨f, args, hr, hc⟩
        · obtain ⟨f1, f2⟩ := fin v w'' hv hk
          exact ⟨hw, .inl ⟨v, w'', hr, hx', f1, f2, s + 1, hsP', hph'⟩⟩
        · refine ⟨hw, .inr (.inl ⟨f, args, hr, hc.mono fun e w'' ⟨v, he, hx', hph', hv, hk⟩ => ?_⟩)⟩
          obtain ⟨f1, f2⟩ := fin v w'' hv hk
          exact ⟨v, he, hx', f1, f2, s + 1, hsP', hph'⟩
    · intro D b w' hx hs hdf hsl hDi hDd hold hph
      obtain ⟨s, hsP, hph⟩ := hph
      obtain ⟨hs1, hs2, hs3, hs4, hs5⟩ := hst i hist
      have key := hA.2.1 i hist s b w' hsP.1 hx (fr_heldU (fl := fl) (st := st) (hdst := fun i hi => (hst i hi).2.2.2.2) (M := n0) (n := n) hfl hd hs (hdf.trans hdA) hF hsl) (fun y hy hw => by
        have hDy := hDd y.1 (hin y hy).1 (hmem y hy) hw
        have hdy := hd y hy
        cases hp : ops[y.1]? with
        | none => rw [hp] at hdy; cases hdy
        | some p =>
          rw [hp] at hdy
          exact hold y.1 p y.2.1 (hin y hy).1 (hin y hy).2 (hmem y hy) hDy hp hdy y hy rfl s hsP) hph
      obtain ⟨o', p, ho', hp, hres⟩ := key
      have hoo : o' = o := Option.some.inj (ho'.symm.trans ho)
      subst hoo
      have hdn : o'.dst = none := by rw [ho'] at hs5; simpa using hs5
      have hsp : s = p := by
        have h1 := hsP.2 p i hp
        rw [hDi] at h1
        have h2 : ¬ p < s := by simpa using h1.symm
        rcases Nat.lt_or_ge s p with hlt | hge
        · obtain ⟨p', rfl⟩ : ∃ p', p = p' + 1 := ⟨p - 1, by omega⟩
          have hl : p' < cs.length := Nat.lt_trans (Nat.lt_succ_self _) (List.getElem?_eq_some_iff.1 hp).1
          have hcs' := List.getElem?_eq_getElem hl
          have hwt := hc3 p' _ _ hp hcs'
          have hcf := hc1 _ (List.mem_of_getElem? hcs')
          have := hDd _ (hinfl _ hcf).1 hcf hwt
          rw [hsP.2 p' _ hcs'] at this
          have : p' < s := by simpa using this
          omega
        · omega
      obtain ⟨hw, hres⟩ := hres hsp
      have hsP' : StP cs (also D i) (s + 1) := by
        refine ⟨by have := (List.getElem?_eq_some_iff.1 hp).1; omega, fun j c hc => ?_⟩
        unfold also
        by_cases hcx : c = i
        · subst hcx
          rw [if_pos rfl, hc2 j p _ hc hp, decide_eq_true (by omega)]
        · rw [if_neg hcx, hsP.2 j c hc]
          have : j ≠ s := fun e => hcx (by rw [e, hsp, hp] at hc; exact (Option.some.inj hc).symm)
          by_cases hi : j < s
          · rw [decide_eq_true hi, decide_eq_true (by omega)]
          · rw [decide_eq_false hi, decide_eq_false (by omega)]
      have fin : ∀ (w'' : World), (∀ y ∈ F, y.2.2 s (slot b y.2.1) w' → y.2.2 (s + 1) (slot b y.2.1) w'') →
          (∀ j q d, n0 ≤ j → j < n → j ∈ fl → D j = true → ops[j]? = some q → q.dst = some d → ∀ y ∈ F, y.1 = j → ∀ s', StP cs (also D i) s' → y.2.2 s' (slot b d) w'') := fun w'' hk j q d hj hj' hjf hD hq hd' y hy hyj s' hs' => by
        rw [hs'.uniq hsP']
        have hdy := hd y hy
        rw [hyj, hq] at hdy
        have hdd : y.2.1 = d := Option.some.inj (hdy.symm.trans hd')
        subst hdd
        exact hk y hy (hold j q _ hj hj' hjf hD hq hd' y hy hyj s hsP)
      rcases hres with ⟨w'', hr, hx', hph', hk⟩ | ⟨f, args, hr, hc⟩
      · exact ⟨hw, .inr (.inr ⟨hdn, .inl ⟨w'', hr, hx', fin w'' hk, s + 1, hsP', hph'⟩⟩)⟩
      · exact ⟨hw, .inr (.inr ⟨hdn, .inr ⟨f, args, hr, hc.mono fun e w'' ⟨v, he, hx', hph', hk⟩ => ⟨v, he, hx', fin w'' hk, s + 1, hsP', hph'⟩⟩⟩)⟩
  · have hall : StP cs (fun k => fl.contains k && decide (k < n)) cs.length := ⟨Nat.le_refl _, fun i c hc => by
      have h3 := hc1 c (List.mem_of_getElem? hc)
      have h1 := (hinfl c h3).2
      have h2 := (List.getElem?_eq_some_iff.1 hc).1
      rw [decide_eq_true h2]
      show (fl.contains c && decide (c < n)) = true
      rw [decide_eq_true h1]
      simpa using h3⟩
    refine hA.2.2 b w' hx (fr_heldU (fl := fl) (st := st) (hdst := fun i hi => (hst i hi).2.2.2.2) (M := n0) (n := n) hfl hd hs hdf hF hsl) (fun x hxF => ?_) ?_
    · have hdx := hd x hxF
      cases hp : ops[x.1]? with
      | none => rw [hp] at hdx; cases hdx
      | some p =>
        rw [hp] at hdx
        exact hr x.1 p x.2.1 (hin x hxF).1 (hin x hxF).2 hp (hmem x hxF) hdx x hxF rfl _ hall
    · obtain ⟨s, hs1, hs2⟩ := hph
      rw [← hs1.uniq hall]; exact hs2
theorem gv_nilCheckI {x : Operand} {t : TypeId} {v : Value} (ho : o.op = .nilCheck x) (hx : a.eval x = .iface t v) : Gv P o a w (.iface t v) := by
  unfold Gv execOp; rw [ho]; simp [hx]
theorem eqGuard_bool (op : BinOp) (t : TypeId) (x y : Operand) (p q : Bool) (w : World) : (eqGuard op t x y (.bool p) (.bool q)).run P w = .ok () w := by
  unfold eqGuard; split <;> rfl
theorem gv_boolEql {x y : Operand} {t t' : TypeId} {p q : Bool} (ho : o.op = .binOp .eql t x y t') (ht : P.underlying t = some .bool) (hx : a.eval x = .bool p) (hy : a.eval y = .bool q) : Gv P o a w (.bool (decide (p = q))) := by
  have he : (Op.equal t (.bool p) (.bool q)).run P w = .ok (p == q) w := by
    show (Op.equalIn (9999 + 1) t (.bool p) (.bool q)).run P w = _
    unfold Op.equalIn
    simp [run_und ht]
  unfold Gv execOp; rw [ho]
  simp only [hx, hy, binOp, Sem.run_bind, eqGuard_bool, Result.andThen_ok, he, Sem.run_pure]
  cases p <;> cases q <;> rfl
theorem gv_boolNeq {x y : Operand} {t t' : TypeId} {p q : Bool} (ho : o.op = .binOp .neq t x y t') (ht : P.underlying t = some .bool) (hx : a.eval x = .bool p) (hy : a.eval y = .bool q) : Gv P o a w (.bool (decide (p ≠ q))) := by
  have he : (Op.equal t (.bool p) (.bool q)).run P w = .ok (p == q) w := by
    show (Op.equalIn (9999 + 1) t (.bool p) (.bool q)).run P w = _
    unfold Op.equalIn
    simp [run_und ht]
  unfold Gv execOp; rw [ho]
  simp only [hx, hy, binOp, Sem.run_bind, eqGuard_bool, Result.andThen_ok, he, Sem.run_pure]
  cases p <;> cases q <;> rfl
end
end Go.Fw
