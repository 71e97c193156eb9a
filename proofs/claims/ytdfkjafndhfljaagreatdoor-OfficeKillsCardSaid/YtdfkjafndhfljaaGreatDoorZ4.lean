/- What is proved: the evaluator's operations on two operands are the model's. And what follows from it: the evaluator's conversions are the model's. the evaluator's slices are the model's. len, cap, min, max and interfaces of the evaluator are the model's. structs and arrays that the evaluator builds are the model's. rows of zeros, makeSlice. slices that the evaluator builds are the model's. what is appended or copied, copy. -/
import Derived.Test.YtdfkjafndhfljaaGreatDoorZ3
import Derived.Stop.BytesEq
import Derived.Laws.StructEq
import Derived.Laws.IdiomStrings
import Derived.Laws.BytesArg
import Derived.Laws.AppendOwn
import Derived.Laws.MakeOwn
import Derived.ArgAppend
set_option linter.unusedVariables false
set_option linter.unusedSimpArgs false
namespace Go.Ev
open Go Go.Fw

section
variable {P : Program} {o : Oper} {a : Act} {w : World} {f : F} {s s' : S} {ρ : Rho} {N : Nat} {r : AV}
/-! ### Whole numbers, texts, comparisons -/
theorem unN_eq (k : IntKind) (x : Int) : unN k x = (BitVec.ofInt k.bits x).toNat := by
  have h := uMod_eq (kMod_pos k) x
  rw [BitVec.toNat_ofInt, unN]
  rw [kMod_eq] at h ⊢
  omega
theorem wr_rv {k : IntKind} {n : Int} : RV ρ (wr k n) (.int k (k.wrap n)) := by rw [wr_eq]; exact rfl
theorem int_bin {op : BinOp} {k : IntKind} {x y : Int} {t : TypeId} {r : AV} (h : intOp op k x y = some r) : ∃ v, (∀ w, (binOp op t (.int k x) (.int k y)).run P w = .ok v w) ∧ RV ρ r v := by
  cases op <;> simp only [intOp, bits2, cmp1, Option.some.injEq] at h
  case add => subst h; exact ⟨.int k (k.wrap (x + y)), fun w => by simp [binOp, Op.intArith], wr_rv⟩
  case sub => subst h; exact ⟨.int k (k.wrap (x - y)), fun w => by simp [binOp, Op.intArith], wr_rv⟩
  case mul => subst h; exact ⟨.int k (k.wrap (x * y)), fun w => by simp [binOp, Op.intArith], wr_rv⟩
  case quo =>
    unfold divOp at h
    rw [iEq_dec] at h
    by_cases hy : y = 0
    · rw [hy] at h; cases h
    · rw [decide_eq_false hy] at h
      injection h with h
      subst h
      exact ⟨.int k (k.wrap (x.tdiv y)), fun w => by simp [binOp, Op.intDiv, hy], wr_rv⟩
  case rem =>
    unfold divOp at h
    rw [iEq_dec] at h
    by_cases hy : y = 0
    · rw [hy] at h; cases h
    · rw [decide_eq_false hy] at h
      injection h with h
      subst h
      exact ⟨_, fun w => by simp [binOp, Op.intDiv, hy], rfl⟩
  case and =>
    subst h
    refine ⟨.int k (k.wrap ((BitVec.ofInt k.bits x &&& BitVec.ofInt k.bits y).toNat : Int)), fun w => by simp [binOp, Op.intBits], ?_⟩
    rw [BitVec.toNat_and, ← unN_eq, ← unN_eq]
    exact wr_rv
  case or =>
    subst h
    refine ⟨.int k (k.wrap ((BitVec.ofInt k.bits x ||| BitVec.ofInt k.bits y).toNat : Int)), fun w => by simp [binOp, Op.intBits], ?_⟩
    rw [BitVec.toNat_or, ← unN_eq, ← unN_eq]
    exact wr_rv
  case xor =>
    subst h
    refine ⟨.int k (k.wrap ((BitVec.ofInt k.bits x ^^^ BitVec.ofInt k.bits y).toNat : Int)), fun w => by simp [binOp, Op.intBits], ?_⟩
    rw [BitVec.toNat_xor, ← unN_eq, ← unN_eq]
    exact wr_rv
  case andNot =>
    subst h
    refine ⟨.int k (k.wrap ((BitVec.ofInt k.bits x &&& ~~~ BitVec.ofInt k.bits y).toNat : Int)), fun w => by simp [binOp, Op.intBits], ?_⟩
    have e : BitVec.ofInt k.bits x &&& ~~~ BitVec.ofInt k.bits y = BitVec.ofInt k.bits x ^^^ (BitVec.ofInt k.bits x &&& BitVec.ofInt k.bits y) := by
      apply BitVec.eq_of_getElem_eq
      intro i hi
      simp only [BitVec.getElem_and, BitVec.getElem_not, BitVec.getElem_xor]
      cases (BitVec.ofInt k.bits x)[i] <;> cases (BitVec.ofInt k.bits y)[i] <;> rfl
    rw [e, BitVec.toNat_xor, BitVec.toNat_and, ← unN_eq, ← unN_eq]
    exact wr_rv
  case shl => cases h
  case shr => cases h
  case eql => subst h; exact ⟨_, fun w => by simp [binOp, Op.intCmp]; rfl, by rw [iEq_dec]; rfl⟩
  case neq => subst h; exact ⟨_, fun w => by simp [binOp, Op.intCmp]; rfl, by rw [iEq_dec]; rfl⟩
  case lss => subst h; exact ⟨_, fun w => by simp [binOp, Op.intCmp]; rfl, by rw [iLt_dec]; rfl⟩
  case leq => subst h; exact ⟨_, fun w => by simp [binOp, Op.intCmp]; rfl, by rw [iLt_dec, ← decide_not]; show _ = Value.bool _; congr 1; exact decide_eq_decide.2 Int.not_lt.symm⟩
  case gtr => subst h; exact ⟨_, fun w => by simp [binOp, Op.intCmp]; rfl, by rw [iLt_dec]; rfl⟩
  case geq => subst h; exact ⟨_, fun w => by simp [binOp, Op.intCmp]; rfl, by rw [iLt_dec, ← decide_not]; show _ = Value.bool _; congr 1; exact decide_eq_decide.2 Int.not_lt.symm⟩
theorem sh_bin {b : Bool} {k j : IntKind} {x y : Int} {t : TypeId} {r : AV} (h : shOp b k x y = some r) : ∃ v, (∀ w, (binOp (if b then .shl else .shr) t (.int k x) (.int j y)).run P w = .ok v w) ∧ RV ρ r v := by
  cases y with
  | negSucc m => cases h
  | ofNat m =>
    have hb : kBits k = k.bits := by cases k <;> rfl
    have hmin : (bif Nat.ble (kBits k) m then kBits k else m) = min m k.bits := by
      rw [cble, hb]
      split <;> omega
    simp only [shOp, hmin] at h
    have hy : ¬ ((Int.ofNat m) < 0) := by simp
    have hn : (Int.ofNat m).toNat = m := rfl
    cases b with
    | true =>
      injection h with h
      subst h
      refine ⟨.int k (k.wrap (x * 2 ^ (min m k.bits))), ?_, ?_⟩
      · intro w
        show (Op.shift .shl k x j (Int.ofNat m)).run P w = _
        simp [Op.shift, hy, hn]
        exact fun h => absurd h (by omega)
      · cases x with
        | ofNat a =>
          show RV ρ (wr k (.ofNat (a <<< (min m k.bits)))) _
          rw [wr_eq, Nat.shiftLeft_eq]
          show Value.int k _ = _
          simp
        | negSucc a =>
          show RV ρ (wr k (Int.mul (.negSucc a) (.ofNat (2 ^ (min m k.bits))))) _
          rw [wr_eq]
          show Value.int k (k.wrap (Int.negSucc a * ((2 ^ min m k.bits : Nat) : Int))) = _
          simp
    | false =>
      injection h with h
      subst h
      refine ⟨.int k (x.fdiv (2 ^ (min m k.bits))), ?_, ?_⟩
      · intro w
        show (Op.shift .shr k x j (Int.ofNat m)).run P w = _
        simp [Op.shift, hy, hn]
        exact fun h => absurd h (by omega)
      · have e : (2 : Int) ^ (min m k.bits) = ((2 ^ (min m k.bits) : Nat) : Int) := by simp
        rw [e]
        cases x with
        | ofNat a =>
          show Value.int k _ = Value.int k (.ofNat (a >>> (min m k.bits)))
          rw [Nat.shiftRight_eq_div_pow]
          congr 1
          exact (Int.ofNat_fdiv a _).symm
        | negSucc a =>
          show Value.int k _ = Value.int k (.negSucc (a >>> (min m k.bits)))
          rw [Nat.shiftRight_eq_div_pow]
          congr 1
          have hp := Nat.two_pow_pos (min m k.bits)
          generalize 2 ^ (min m k.bits) = q at hp
          cases q with
          | zero => omega
          | succ q => rfl
/-! ### Texts -/
theorem bLess_eq : ∀ (f n c m d i : Nat), i ≤ n → i ≤ m → n ≤ f + i → bLess n c m d f i = Op.bytesLess ((byL n c).drop i) ((byL m d).drop i)
  | 0, n, c, m, d, i, h1, h2, h3 => by
    rw [bLess, blt_dec]
    have : i = n := by omega
    subst this
    rw [List.drop_of_length_le (by rw [byL_len]; exact Nat.le_refl _)]
    cases hd : (byL m d).drop i with
    | nil =>
      have := congrArg List.length hd
      rw [List.length_drop, byL_len, List.length_nil] at this
      rw [decide_eq_false (by omega)]
      rfl
    | cons x l =>
      have := congrArg List.length hd
      rw [List.length_drop, byL_len, List.length_cons] at this
      rw [decide_eq_true (by omega)]
      rfl
  | f + 1, n, c, m, d, i, h1, h2, h3 => by
    rw [bLess]
    have e1 : (Nat.ble n i || Nat.ble m i) = decide (n ≤ i ∨ m ≤ i) := by
      rw [ble_dec, ble_dec]
      simp
    rw [e1]
    by_cases he : n ≤ i ∨ m ≤ i
    · rw [decide_eq_true he, cond_true, blt_dec]
      rcases he with he | he
      · have : i = n := by omega
        subst this
        rw [List.drop_of_length_le (l := byL i c) (by rw [byL_len]; exact Nat.le_refl _)]
        cases hd : (byL m d).drop i with
        | nil =>
          have := congrArg List.length hd
          rw [List.length_drop, byL_len, List.length_nil] at this
          rw [decide_eq_false (by omega)]
          rfl
        | cons x l =>
          have := congrArg List.length hd
          rw [List.length_drop, byL_len, List.length_cons] at this
          rw [decide_eq_true (by omega)]
          rfl
      · have : i = m := by omega
        subst this
        rw [List.drop_of_length_le (l := byL i d) (by rw [byL_len]; exact Nat.le_refl _), decide_eq_false (by omega)]
        cases (byL n c).drop i <;> rfl
    · rw [decide_eq_false he, cond_false]
      have hn : i < n := by omega
      have hm : i < m := by omega
      have d1 : (byL n c).drop i = UInt8.ofNat (bAt c i) :: (byL n c).drop (i + 1) := by
        rw [List.drop_eq_getElem_cons (by rw [byL_len]; exact hn)]
        congr 1
        have := byL_get n c i hn
        rw [List.getElem?_eq_getElem (by rw [byL_len]; exact hn)] at this
        exact Option.some.inj this
      have d2 : (byL m d).drop i = UInt8.ofNat (bAt d i) :: (byL m d).drop (i + 1) := by
        rw [List.drop_eq_getElem_cons (by rw [byL_len]; exact hm)]
        congr 1
        have := byL_get m d i hm
        rw [List.getElem?_eq_getElem (by rw [byL_len]; exact hm)] at this
        exact Option.some.inj this
      rw [d1, d2, Op.bytesLess, ← bLess_eq f n c m d (i + 1) hn hm (by omega), cblt, cblt]
      have b1 := bAt_lt c i
      have b2 := bAt_lt d i
      have n1 : (UInt8.ofNat (bAt c i)).toNat = bAt c i := by rw [UInt8.toNat_ofNat', Nat.mod_eq_of_lt b1]
      have n2 : (UInt8.ofNat (bAt d i)).toNat = bAt d i := by rw [UInt8.toNat_ofNat', Nat.mod_eq_of_lt b2]
      by_cases c1 : bAt c i < bAt d i
      · rw [if_pos c1]
        have : UInt8.ofNat (bAt c i) < UInt8.ofNat (bAt d i) := by rw [UInt8.lt_iff_toNat_lt, n1, n2]; exact c1
        simp [this]
      · rw [if_neg c1]
        have : ¬ UInt8.ofNat (bAt c i) < UInt8.ofNat (bAt d i) := by rw [UInt8.lt_iff_toNat_lt, n1, n2]; exact c1
        by_cases c2 : bAt d i < bAt c i
        · rw [if_pos c2]
          have hne : ¬ UInt8.ofNat (bAt c i) = UInt8.ofNat (bAt d i) := fun e => by
            have := congrArg UInt8.toNat e
            rw [n1, n2] at this
            omega
          simp [this, hne]
        · rw [if_neg c2]
          have heq : bAt c i = bAt d i := by omega
          simp [heq]
theorem str_bin {op : BinOp} {n c m d : Nat} {u v : Value} {t : TypeId} {r : AV} (h : strOp op n c m d = some r) (hu : RV ρ (.str n c) u) (hv : RV ρ (.str m d) v) : ∃ x, (∀ w, (binOp op t u v).run P w = .ok x w) ∧ RV ρ r x := by
  obtain ⟨p, rfl, hp, hp'⟩ := hu
  obtain ⟨q, rfl, hq, hq'⟩ := hv
  have lp : p.size = n := by show p.data.size = n; rw [← Array.length_toList, hp, byL_len]
  have lq : q.size = m := by show q.data.size = m; rw [← Array.length_toList, hq, byL_len]
  have tp : p.toList = byL n c := by rw [ByteArray.toList_eq, hp]
  have tq : q.toList = byL m d := by rw [ByteArray.toList_eq, hq]
  have heq : (p.toList == q.toList) = (Nat.beq n m && Nat.beq c d) := by
    rw [tp, tq, beq_dec, beq_dec, Bool.eq_iff_iff]
    simp only [beq_iff_eq, Bool.and_eq_true, decide_eq_true_eq]
    constructor
    · intro e
      have hnm := congrArg List.length e
      rw [byL_len, byL_len] at hnm
      subst hnm
      exact ⟨rfl, byL_inj hp' hq' e⟩
    · rintro ⟨rfl, rfl⟩
      rfl
  have hlt : Op.bytesLess p.toList q.toList = bLess n c m d n 0 := by
    rw [bLess_eq n n c m d 0 (Nat.zero_le _) (Nat.zero_le _) (Nat.le_refl _), List.drop_zero, List.drop_zero, tp, tq]
  have hgt : Op.bytesLess q.toList p.toList = bLess m d n c m 0 := by
    rw [bLess_eq m m d n c 0 (Nat.zero_le _) (Nat.zero_le _) (Nat.le_refl _), List.drop_zero, List.drop_zero, tp, tq]
  cases op <;> simp only [strOp] at h
  case add =>
    rw [cble] at h
    split at h
    · rename_i hfit
      have hfit' : n + m ≤ 9223372036854775807 := hfit
      injection h with h
      subst h
      refine ⟨.string (p ++ q), ?_, p ++ q, rfl, ?_, bCat_lt hp' hq'⟩
      · intro w
        simp only [binOp, Op.stringOp, lp, lq]
        rw [if_neg (by simp only [IntKind.max, IntKind.signed, IntKind.bits]; simp; omega)]
        rfl
      · show (p ++ q).data.toList = byL (n + m) (bCat n c d)
        rw [byL_cat n m c d hp', ← hp, ← hq]
        simp [ByteArray.data_append]
    · cases h
  case eql =>
    injection h with h
    subst h
    exact ⟨_, fun w => by simp only [binOp, Op.stringOp, heq]; rfl, rfl⟩
  case neq =>
    injection h with h
    subst h
    exact ⟨_, fun w => by simp only [binOp, Op.stringOp, heq]; rfl, rfl⟩
  case lss =>
    injection h with h
    subst h
    exact ⟨_, fun w => by simp only [binOp, Op.stringOp, hlt]; rfl, rfl⟩
  case leq =>
    injection h with h
    subst h
    exact ⟨_, fun w => by simp only [binOp, Op.stringOp, hlt, heq]; rfl, rfl⟩
  case gtr =>
    injection h with h
    subst h
    exact ⟨_, fun w => by simp only [binOp, Op.stringOp, hlt, heq]; rfl, rfl⟩
  case geq =>
    injection h with h
    subst h
    exact ⟨_, fun w => by simp only [binOp, Op.stringOp, hlt]; rfl, rfl⟩
  all_goals cases h
/-! ### Two operands -/
/-- What a comparison gives. -/
structure EqR (P : Program) (t : TypeId) (u v : Value) (b : Bool) : Prop where
  g : ∀ op x y w, (eqGuard op t x y u v).run P w = .ok () w
  e : ∀ w, (binOp .eql t u v).run P w = .ok (.bool b) w
  n : ∀ w, (binOp .neq t u v).run P w = .ok (.bool (!b)) w
theorem EqR.mk' {t : TypeId} {u v : Value} {b : Bool} (hg : ∀ op x y w, (eqGuard op t x y u v).run P w = .ok () w) (h1 : binOp .eql t u v = (do pure (.bool (← Op.equal t u v)))) (h2 : binOp .neq t u v = (do pure (.bool (!(← Op.equal t u v)))))
    (he : ∀ w, (Op.equalIn (9999 + 1) t u v).run P w = .ok b w) : EqR P t u v b := by
  have he' : ∀ w, (Op.equal t u v).run P w = .ok b w := he
  exact ⟨hg, fun w => by rw [h1]; simp only [Sem.run_bind, he', Result.andThen_ok, Sem.run_pure], fun w => by rw [h2]; simp only [Sem.run_bind, he', Result.andThen_ok, Sem.run_pure]⟩
theorem isU8_eq {e : Nat} (h : isU8 P e = true) : P.underlying e = some (.int .u8) := by
  unfold isU8 at h
  split at h
  · rename_i ht
    exact undT_eq ht
  · cases h
theorem isStrT_eq {t : Nat} (h : isStrT P t = true) : P.underlying t = some .string := by
  unfold isStrT at h
  split at h
  · rename_i ht
    exact undT_eq ht
  · cases h
theorem run_part_str {t : Nat} (h : P.underlying t = some .string) {xs : Array Value} {i : Nat} {v : Value} (hv : xs[i]? = some v) (w : World) : (part t xs i).run P w = .ok v w := by
  simp [part, isAgg, run_und h, hv]
theorem eqStr_run {d : Nat} : ∀ {fs : List Field} {l m : List AV} {i : Nat} {b : Bool}, eqStr P fs l m i = some b → ∀ {xs ys : Array Value}, (∀ k x, l[k]? = some x → ∃ u, xs[i + k]? = some u ∧ RV ρ x u) → (∀ k x, m[k]? = some x → ∃ u, ys[i + k]? = some u ∧ RV ρ x u) →
    ∀ w, (Op.eqFields (d + 1) xs ys fs).run P w = .ok b w
  | [], l, m, i, b, h, xs, ys, hx, hy, w => by
    cases l with
    | nil => cases m with
      | nil =>
        simp only [eqStr, Option.some.injEq] at h
        subst h
        simp [Op.eqFields]
      | cons y m => simp [eqStr] at h
    | cons x l => simp [eqStr] at h
  | f :: fs, l, m, i, b, h, xs, ys, hx, hy, w => by
    cases l with
    | nil => simp [eqStr] at h
    | cons x l =>
      cases x with
      | str n c =>
        cases m with
        | nil => simp [eqStr] at h
        | cons y m =>
          cases y with
          | str e j =>
            unfold eqStr at h
            cases hc : and (isStrT P f.type) (and (Nat.beq f.offset i) (not (f.name == "_"))) with
            | false => rw [hc] at h; cases h
            | true =>
              rw [hc] at h
              simp only [Bool.and_eq_true, Bool.not_eq_true', beq_eq_false_iff_ne] at hc
              obtain ⟨h1, h2, h3⟩ := hc
              have h2 := Nat.eq_of_beq_eq_true h2
              simp only [cond_true, Option.bind_eq_some_iff, Option.some.injEq] at h
              obtain ⟨q, hq, rfl⟩ := h
              obtain ⟨u, hu, su, rfl, g1, g2⟩ := hx 0 _ rfl
              obtain ⟨v, hv, sv, rfl, g3, g4⟩ := hy 0 _ rfl
              rw [Nat.add_zero, ← h2] at hu hv
              have ih := eqStr_run (d := d) hq (xs := xs) (ys := ys) (fun k x hk => by
                have := hx (k + 1) x hk
                rwa [show i + (k + 1) = Nat.succ i + k by omega] at this) (fun k x hk => by
                have := hy (k + 1) x hk
                rwa [show i + (k + 1) = Nat.succ i + k by omega] at this) w
              have hs := isStrT_eq h1
              have hbe : (su.toList == sv.toList) = and (Nat.beq n e) (Nat.beq c j) := by
                rw [Bool.eq_iff_iff, beq_iff_eq, Bool.and_eq_true, beq_dec, beq_dec, decide_eq_true_eq, decide_eq_true_eq, ByteArray.toList_eq, ByteArray.toList_eq, g1, g3]
                constructor
                · intro e1
                  have hl : n = e := by rw [← byL_len n c, e1, byL_len]
                  subst hl
                  exact ⟨rfl, byL_inj g2 g4 e1⟩
                · rintro ⟨rfl, rfl⟩
                  rfl
              simp only [Op.eqFields, if_pos h3, ne_eq, Sem.run_bind, run_part_str hs hu, run_part_str hs hv, Result.andThen_ok, run_equalIn_string w d f.type su sv hs, hbe, Sem.run_ite]
              cases hz : and (Nat.beq n e) (Nat.beq c j) with
              | false => simp [h3]
              | true => simp [h3, ih]
          | _ => simp [eqStr] at h
      | _ => simp [eqStr] at h
theorem eqA_run {t : TypeId} {x y : AV} {u v : Value} {b : Bool} (h : eqA P t x y = some b) (hu : RV ρ x u) (hv : RV ρ y v) : EqR P t u v b := by
  unfold eqA at h
  split at h <;> first | (injection h with h; subst h) | skip
  · rename_i p q ht
    rw [show u = _ from hu, show v = _ from hv]
    refine EqR.mk' (fun op x y w => by unfold eqGuard; split <;> rfl) rfl rfl fun w => ?_
    unfold Op.equalIn
    cases p <;> cases q <;> simp [run_und (undT_eq ht)]
  · rename_i e ht
    rw [show u = _ from hu, show v = _ from hv]
    refine EqR.mk' (fun op x y w => by unfold eqGuard; split <;> rfl) rfl rfl fun w => ?_
    unfold Op.equalIn
    simp [run_und (undT_eq ht)]
  · rename_i e i j ht
    obtain ⟨p, _, rfl⟩ := hv
    rw [show u = _ from hu]
    refine EqR.mk' (fun op x y w => by unfold eqGuard; split <;> rfl) rfl rfl fun w => ?_
    unfold Op.equalIn
    simp [run_und (undT_eq ht)]
  · rename_i e i j ht
    obtain ⟨p, _, rfl⟩ := hu
    rw [show v = _ from hv]
    refine EqR.mk' (fun op x y w => by unfold eqGuard; split <;> rfl) rfl rfl fun w => ?_
    unfold Op.equalIn
    simp [run_und (undT_eq ht)]
  · rename_i e ht
    rw [show u = _ from hu, show v = _ from hv]
    refine EqR.mk' (fun op x y w => by unfold eqGuard; split <;> rfl) rfl rfl fun w => ?_
    unfold Op.equalIn
    simp [run_und (undT_eq ht)]
  · rename_i e i j n c ht
    obtain ⟨A, n', c', rfl⟩ : ∃ A n' c', v = .slice (some A) n' c' := by
      cases c with
      | u z => obtain ⟨p, A, c', _, rfl, _⟩ := hv; exact ⟨_, _, _, rfl⟩
      | k c => obtain ⟨p, _, rfl, _⟩ := hv; exact ⟨_, _, _, rfl⟩
    rw [show u = _ from hu]
    refine EqR.mk' (fun op x y w => by unfold eqGuard; split <;> rfl) rfl rfl fun w => ?_
    unfold Op.equalIn
    simp [run_und (undT_eq ht)]
  · rename_i e i j n c ht
    obtain ⟨A, n', c', rfl⟩ : ∃ A n' c', u = .slice (some A) n' c' := by
      cases c with
      | u z => obtain ⟨p, A, c', _, rfl, _⟩ := hu; exact ⟨_, _, _, rfl⟩
      | k c => obtain ⟨p, _, rfl, _⟩ := hu; exact ⟨_, _, _, rfl⟩
    rw [show v = _ from hv]
    refine EqR.mk' (fun op x y w => by unfold eqGuard; split <;> rfl) rfl rfl fun w => ?_
    unfold Op.equalIn
    simp [run_und (undT_eq ht)]
  · rename_i ht
    rw [show u = _ from hu, show v = _ from hv]
    refine EqR.mk' (fun op x y w => by unfold eqGuard; split <;> rfl) rfl rfl fun w => ?_
    unfold Op.equalIn
    simp [run_und (undT_eq ht)]
  · rename_i ht
    obtain ⟨f', c', rfl, _⟩ := hv
    rw [show u = _ from hu]
    refine EqR.mk' (fun op x y w => by unfold eqGuard; split <;> rfl) rfl rfl fun w => ?_
    unfold Op.equalIn
    simp [run_und (undT_eq ht)]
  · rename_i ht
    obtain ⟨f', c', rfl, _⟩ := hu
    rw [show v = _ from hv]
    refine EqR.mk' (fun op x y w => by unfold eqGuard; split <;> rfl) rfl rfl fun w => ?_
    unfold Op.equalIn
    simp [run_und (undT_eq ht)]
  · rename_i ht
    obtain ⟨w', rfl, _⟩ := hv
    rw [show u = _ from hu]
    refine EqR.mk' (fun op x y w => by unfold eqGuard; split <;> rfl) rfl rfl fun w => ?_
    unfold Op.equalIn
    simp [run_und (undT_eq ht)]
  · rename_i ht
    obtain ⟨w', rfl, _⟩ := hu
    rw [show v = _ from hv]
    refine EqR.mk' (fun op x y w => by unfold eqGuard; split <;> rfl) rfl rfl fun w => ?_
    unfold Op.equalIn
    simp [run_und (undT_eq ht)]
  · rename_i fs l m ht
    cases hc : or (P.stoodInHeld t) (P.eqGuardType P.depth t) with
    | true => rw [hc] at h; cases h
    | false =>
      rw [hc] at h
      rw [Bool.or_eq_false_iff] at hc
      obtain ⟨xs, rfl, hx, _⟩ := hu
      obtain ⟨ys, rfl, hy, _⟩ := hv
      have hfo : P.fieldsOf t = fs := by unfold Program.fieldsOf; rw [undT_eq ht]
      refine EqR.mk' (fun op x y w => run_eqGuard_agg w op t x y _ _ hc.2) rfl rfl fun w => ?_
      rw [run_equalIn_struct w 9999 t _ _ (by rw [hfo]; exact undT_eq ht) hc.1, hfo]
      exact eqStr_run (d := 9998) h (fun k x hk => by
        obtain ⟨u, h1, h2⟩ := hx.get hk
        exact ⟨u, by rw [Nat.zero_add, ← Array.getElem?_toList]; exact h1, h2⟩) (fun k x hk => by
        obtain ⟨u, h1, h2⟩ := hy.get hk
        exact ⟨u, by rw [Nat.zero_add, ← Array.getElem?_toList]; exact h1, h2⟩) w
  · rename_i n e m c k d ht
    cases hc : eqBag P t n e m k with
    | false => rw [hc] at h; cases h
    | true =>
      rw [hc] at h
      injection h with h
      subst h
      simp only [eqBag, Bool.and_eq_true] at hc
      obtain ⟨h1, h2, h3, h4, h5⟩ := hc
      have hm := Nat.eq_of_beq_eq_true h3
      have hk := Nat.eq_of_beq_eq_true h4
      subst hm
      subst hk
      have hq : P.eqGuardType P.depth t = false := by simpa using h5
      have hz : (P.info? e).map (·.size) = some 1 := by
        cases hs : sizeT P e with
        | none => rw [hs] at h2; cases h2
        | some z => rw [hs] at h2; rw [sizeT_eq hs, Nat.eq_of_beq_eq_true h2]
      obtain ⟨rfl, hcb⟩ := hu
      obtain ⟨rfl, hdb⟩ := hv
      have hb : Nat.beq c d = (byL k c == byL k d) := by
        rw [beq_dec, Bool.eq_iff_iff]
        simp only [decide_eq_true_eq, beq_iff_eq]
        exact ⟨fun e => by rw [e], fun e => byL_inj hcb hdb e⟩
      rw [hb]
      refine EqR.mk' (fun op x y w => ?_) rfl rfl fun w => ?_
      · cases op <;> simp [eqGuard, hq]
      · exact run_equalIn_bytes (P := P) w 9998 t e k (undT_eq ht) (isU8_eq h1) (fun w => Fw.run_sizeOf hz w) (byL k c) (byL k d) (byL_len _ _) (byL_len _ _)
  · rename_i e i o j q ht
    rw [cbeq] at h
    split at h
    · rename_i hij
      subst hij
      simp only [Option.bind_eq_some_iff] at h
      obtain ⟨z, hz, h⟩ := h
      rw [cbeq] at h
      split at h
      · cases h
      · rename_i hz0
        injection h with h
        subst h
        obtain ⟨p, hp, rfl⟩ := hu
        obtain ⟨p', hp', rfl⟩ := hv
        rw [hp] at hp'
        injection hp' with hp'
        subst hp'
        refine EqR.mk' (fun op x y w => by unfold eqGuard; split <;> rfl) rfl rfl fun w => ?_
        unfold Op.equalIn
        have e1 : ((⟨p.b, p.o + o, none⟩ : Addr) == ⟨p.b, p.o + q, none⟩) = Nat.beq o q := by
          rw [beq_dec, Bool.eq_iff_iff]
          simp only [beq_iff_eq, decide_eq_true_eq]
          constructor
          · intro h
            injection h with _ h
            omega
          · intro h
            rw [h]
        simp only [run_und (undT_eq ht), Sem.run_bind, Result.andThen_ok, Fw.run_sizeOf (sizeT_eq hz)]
        rw [if_pos hz0]
        simp [sameAddr, e1]
    · cases h
  · rename_i k e ht
    rw [show u = _ from hu, show v = _ from hv]
    refine EqR.mk' (fun op x y w => by unfold eqGuard; split <;> rfl) rfl rfl fun w => ?_
    unfold Op.equalIn
    simp [run_und (undT_eq ht)]
  · rename_i k e i ht
    obtain ⟨p, _, rfl⟩ := hv
    rw [show u = _ from hu]
    refine EqR.mk' (fun op x y w => by unfold eqGuard; split <;> rfl) rfl rfl fun w => ?_
    unfold Op.equalIn
    simp [run_und (undT_eq ht)]
  · rename_i k e i ht
    obtain ⟨p, _, rfl⟩ := hu
    rw [show v = _ from hv]
    refine EqR.mk' (fun op x y w => by unfold eqGuard; split <;> rfl) rfl rfl fun w => ?_
    unfold Op.equalIn
    simp [run_und (undT_eq ht)]
  · cases h
theorem kNo_inj : ∀ {k j : IntKind}, kNo k = kNo j → k = j := by
  intro k j
  cases k <;> cases j <;> simp [kNo]
theorem intB_run {op : BinOp} {k j : IntKind} {p q : Int} {t : TypeId} {r : AV} (h : intB op k j p q = some r) : ∃ v, (∀ w, (binOp op t (.int k p) (.int j q)).run P w = .ok v w) ∧ RV ρ r v := by
  have gen : ∀ op, (bif Nat.beq (kNo k) (kNo j) then intOp op k p q else none) = some r → ∃ v, (∀ w, (binOp op t (.int k p) (.int j q)).run P w = .ok v w) ∧ RV ρ r v := fun op g => by
    rw [cbeq] at g
    split at g
    · rename_i e
      have := kNo_inj e
      subst this
      exact int_bin g
    · cases g
  cases op <;> first | exact gen _ h | exact sh_bin (b := true) h | exact sh_bin (b := false) h
theorem op_bin {op : BinOp} {t t' : Nat} {x y : Operand} (ho : o.op = .binOp op t x y t') (h : oBin P f s op t x y = some (r, s')) (hF : FO ρ f a o) : OpG P o a ρ s r s' := by
  simp only [oBin, Option.bind_eq_some_iff] at h
  obtain ⟨u, hu, v, hv, h⟩ := h
  have h2 := ret1_some h
  clear h
  obtain ⟨h, rfl⟩ := h2
  have hu' := hF.opd (by rw [ho]; simp [Op.operands]) hu
  have hv' := hF.opd (by rw [ho]; simp [Op.operands]) hv
  have fin : ∀ z, (∀ w, (eqGuard op t x y (a.eval x) (a.eval y)).run P w = .ok () w) → (∀ w, (binOp op t (a.eval x) (a.eval y)).run P w = .ok z w) → RV ρ r z → OpG P o a ρ s' r s' := fun z g1 g2 g3 => by
    refine OpG.gv (fun w => ?_) g3
    unfold Gv execOp
    rw [ho]
    simp only [Sem.run_bind, g1, Result.andThen_ok, g2, Sem.run_pure]
  unfold binN at h
  split at h
  · rename_i q hq
    injection h with h
    subst h
    unfold nilEq at hq
    split at hq
    · cases hc : and (isIfc P t) (or (isK x) (isK y)) with
      | false => rw [hc] at hq; cases hq
      | true =>
        rw [hc, cond_true] at hq
        rw [Bool.and_eq_true, Bool.or_eq_true] at hc
        obtain ⟨c1, c2⟩ := hc
        have e1 : a.eval x = .nilIface := hu'
        have e2 : a.eval y = .nilIface := hv'
        obtain ⟨ms, ht⟩ : ∃ ms, P.underlying t = some (.interface ms) := by
          unfold isIfc at c1
          split at c1
          · rename_i ms ht; exact ⟨ms, undT_eq ht⟩
          · cases c1
        have hg : ∀ w, (eqGuard op t x y (a.eval x) (a.eval y)).run P w = .ok () w := fun w => by
          rw [e1, e2]
          clear hu hv hu' hv' e1 e2 ho fin hF
          rcases c2 with c2 | c2
          · cases x with
            | const c =>
              unfold eqGuard
              simp
            | _ => cases c2
          · cases y with
            | const c =>
              unfold eqGuard
              simp
            | _ => cases c2
        have he : ∀ w, (Op.equal t .nilIface .nilIface).run P w = .ok true w := fun w => by
          show (Op.equalIn (9999 + 1) t _ _).run P w = _
          unfold Op.equalIn
          simp [run_und ht]
        split at hq
        · injection hq with hq
          subst hq
          refine fin (.bool true) hg (fun w => ?_) rfl
          rw [e1, e2]
          show ((do pure (.bool (← Op.equal t .nilIface .nilIface)) : Sem Value)).run P w = _
          simp only [Sem.run_bind, he, Result.andThen_ok, Sem.run_pure]
        · injection hq with hq
          subst hq
          refine fin (.bool false) hg (fun w => ?_) rfl
          rw [e1, e2]
          show ((do pure (.bool (!(← Op.equal t .nilIface .nilIface))) : Sem Value)).run P w = _
          simp only [Sem.run_bind, he, Result.andThen_ok, Sem.run_pure]
          rfl
        · cases hq
    · cases hq
  rename_i hqn
  clear hqn
  unfold binA at h
  split at h
  · rename_i k p j q
    have e1 : a.eval x = .int k p := hu'
    have e2 : a.eval y = .int j q := hv'
    obtain ⟨z, hz, hr⟩ := intB_run (P := P) (ρ := ρ) (t := t) h
    refine fin z (fun w => ?_) (fun w => by rw [e1, e2]; exact hz w) hr
    rw [e1, e2]
    unfold eqGuard; split <;> rfl
  · rename_i n c m d
    obtain ⟨z, hz, hr⟩ := str_bin (P := P) (ρ := ρ) (t := t) h hu' hv'
    refine fin z (fun w => ?_) hz hr
    obtain ⟨_, e1, _⟩ := hu'
    obtain ⟨_, e2, _⟩ := hv'
    rw [e1, e2]
    unfold eqGuard; split <;> rfl
  · unfold eqOp at h
    split at h
    · simp only [Option.bind_eq_some_iff, Option.some.injEq] at h
      obtain ⟨b, hb, rfl⟩ := h
      have hq := eqA_run hb hu' hv'
      exact fin _ (hq.g _ _ _) hq.e rfl
    · simp only [Option.bind_eq_some_iff, Option.some.injEq] at h
      obtain ⟨b, hb, rfl⟩ := h
      have hq := eqA_run hb hu' hv'
      exact fin _ (hq.g _ _ _) hq.n rfl
    · cases h
theorem op_un {op : UnOp} {t : Nat} {x : Operand} (ho : o.op = .unOp op t x) (h : oUn f s op x = some (r, s')) (hF : FO ρ f a o) : OpG P o a ρ s r s' := by
  simp only [oUn, Option.bind_eq_some_iff] at h
  obtain ⟨u, hu, h⟩ := h
  have h2 := ret1_some h
  clear h
  obtain ⟨h, rfl⟩ := h2
  have hu' := hF.opd (by rw [ho]; simp [Op.operands]) hu
  unfold unA at h
  split at h
  · rename_i k n
    injection h with h
    subst h
    have e : a.eval x = .int k n := hu'
    refine OpG.gv (v := .int k (k.wrap (-n))) (fun w => ?_) wr_rv
    unfold Gv execOp
    rw [ho]
    simp [e, Op.unary, Op.intArith]
  · rename_i k n
    injection h with h
    subst h
    have e : a.eval x = .int k n := hu'
    refine OpG.gv (v := .int k (k.wrap ((BitVec.ofInt k.bits (if k.signed then -1 else k.max) ^^^ BitVec.ofInt k.bits n).toNat : Int))) (fun w => ?_) ?_
    · unfold Gv execOp
      rw [ho]
      simp [e, Op.unary, Op.intBits]
    · have e1 : BitVec.ofInt k.bits (if k.signed then -1 else k.max) = BitVec.allOnes k.bits := by cases k <;> decide
      rw [e1, BitVec.allOnes_xor, BitVec.toNat_not, ← unN_eq, ← kMod_eq]
      exact wr_rv
  · rename_i b
    injection h with h
    subst h
    have e : a.eval x = .bool b := hu'
    refine OpG.gv (v := .bool (!b)) (fun w => ?_) rfl
    unfold Gv execOp
    rw [ho]
    simp [e, Op.unary]
  · cases h
end
end Go.Ev
set_option linter.unusedVariables false
set_option linter.unusedSimpArgs false
namespace Go.Ev
open Go Go.Fw

section
variable {P : Program} {o : Oper} {a : Act} {w : World} {f : F} {s s' : S} {ρ : Rho} {N : Nat} {r : AV}
theorem liesAt_self {P : Program} {e cnt off n : Nat} (hd : 0 < P.depth) (hs : 0 < P.cellsOf e) (hm : off % P.cellsOf e = 0) (hn : off / P.cellsOf e + n ≤ cnt) : liesAt P P.depth e cnt off e n = true := by
  obtain ⟨d, hd'⟩ : ∃ d, P.depth = d + 1 := ⟨P.depth - 1, by omega⟩
  have hsame : sameLayout P P.depth e e = true := by
    rw [hd']
    unfold sameLayout
    simp
  have hrow : rowAt P (sameLayout P P.depth · e) P.depth e cnt off n = true := by
    rw [hd'] at hsame ⊢
    unfold rowAt
    simp only
    rw [if_neg (by omega)]
    simp [hm, hn, hsame]
  rw [hd'] at hrow ⊢
  unfold liesAt
  rw [hd', hrow]
  rfl
theorem RV.sl_ {i k n : Nat} {c : Cap} {v : Value} (h : RV ρ (.sl i k n c) v) : ∃ A c' p, v = .slice (some A) n c' ∧ n ≤ c' ∧ ρ i = some p ∧ (0 < n → A = ⟨p.b, p.o + k, none⟩) := by
  cases c with
  | u z =>
    obtain ⟨p, A, c', hp, rfl, hn, hor⟩ := h
    refine ⟨A, c', p, rfl, hn, hp, fun h0 => ?_⟩
    rcases hor with ⟨e, _⟩ | e
    · exact e
    · omega
  | k c =>
    obtain ⟨p, hp, rfl, hn⟩ := h
    exact ⟨_, c, p, rfl, hn, hp, fun _ => rfl⟩
theorem slBytes_read {i k n x : Nat} (h : slBytes s i k n = some x) : ∃ row, s.h.get i = some row ∧ row ≠ .dead ∧ readRow row k n = some (.bag n x) := by
  simp only [slBytes, Option.bind_eq_some_iff] at h
  obtain ⟨row, hrow, h⟩ := h
  refine ⟨row, hrow, ?_⟩
  cases row with
  | bytes e m q c =>
    simp only [readRow] at h ⊢
    rw [cble] at h ⊢
    split at h
    · rename_i hfit
      injection h with h
      subst h
      rw [if_pos hfit]
      exact ⟨by simp, rfl⟩
    · cases h
  | _ => cases h
theorem run_toStr {src dst e : TypeId} (hs : P.underlying src = some (.slice e)) (he : P.underlying e = some (.int .u8)) (hd : P.underlying dst = some .string) {i k n x : Nat} {c : Cap} {v : Value} (hv : RV ρ (.sl i k n c) v) (hl : Rel ρ s w) (h : slBytes s i k n = some x) :
    ∃ u, (convert src dst v).run P w = .ok u w ∧ RV ρ (.str n x) u := by
  obtain ⟨row, hrow, hnd, hread⟩ := slBytes_read h
  obtain ⟨A, c', p, rfl, hn, hp, hA⟩ := hv.sl_
  obtain ⟨p', hp', hra⟩ := hl.row i row hrow hnd
  rw [hp] at hp'
  injection hp' with hp'
  subst hp'
  obtain ⟨vs, hlen, hcs, hru⟩ := hra.cells_ hread
  obtain ⟨e1, e2⟩ := hru
  have e3 : vs = (byL n x).map vU := by
    injection e1 with e1
    simpa using congrArg Array.toList e1
  subst e3
  by_cases h0 : 0 < n
  · have hA' := hA h0
    subst hA'
    have hrun := run_convert_bytes_arg (P := P) w src e hs he p.b (p.o + k) n c' ((byL n x).map fun z => (z.toNat : Int)) (by rw [List.length_map, byL_len]) (fun j hj => by
      have hg : (byL n x)[j]? = some ((byL n x)[j]'(by rw [byL_len]; exact hj)) := List.getElem?_eq_getElem _
      have := hcs j (vU ((byL n x)[j]'(by rw [byL_len]; exact hj))) (by rw [List.getElem?_map, hg]; rfl)
      rw [this]
      simp [vU, List.getD_eq_getElem?_getD, List.getElem?_map, hg]) dst hd
    refine ⟨_, hrun, _, rfl, ?_, e2⟩
    simp [strOfNums, Function.comp_def]
  · have hn0 : n = 0 := by omega
    subst hn0
    rw [run_convert_bytes_string w src dst e _ _ _ hs he hd]
    have hz := run_bytesToString (P := P) w A 0 c' [] (by rfl)
    exact ⟨_, hz, _, rfl, rfl, e2⟩
theorem op_convert {src dst : Nat} {x : Operand} (ho : o.op = .convert src dst x) (h : oConv P f s src dst x = some (r, s')) (hF : FO ρ f a o) (hl : Rel ρ s w) : OpS P o a w ρ s r s' := by
  simp only [oConv, Option.bind_eq_some_iff] at h
  obtain ⟨v, hv, h⟩ := h
  have hc := hF.opd (by rw [ho]; simp [Op.operands]) hv
  have fin : ∀ {z w' ρ'}, (convert src dst (a.eval x)).run P w = .ok z w' → RV ρ' r z → Goes ρ s w ρ' s' w' → OpS P o a w ρ s r s' := fun {z w' ρ'} g1 g2 g3 => by
    refine ⟨z, ρ', w', .inl ?_, g2, g3⟩
    unfold execOp
    rw [ho]
    simp [g1]
  unfold convA at h
  split at h
  · rename_i k k' k2 n hs hd
    injection h with h
    injection h with h1 h2
    subst h1 h2
    have e : a.eval x = .int k2 n := hc
    refine fin (z := .int k' (k'.wrap n)) (w' := w) ?_ wr_rv (Goes.refl hl)
    rw [e]
    simp [convert, run_und (undT_eq hs), run_und (undT_eq hd), Conv.intToInt]
  · rename_i d n c hs hd
    injection h with h
    injection h with h1 h2
    subst h1 h2
    obtain ⟨b, e, hb⟩ := hc
    refine fin (z := .string b) (w' := w) ?_ ⟨b, rfl, hb⟩ (Goes.refl hl)
    rw [e]
    cases d <;> simp [convert, run_und (undT_eq hs), run_und (undT_eq hd)]
  · rename_i e hs hd
    cases hU : isU8 P e with
    | false => rw [hU] at h; cases h
    | true =>
      rw [hU] at h
      injection h with h
      injection h with h1 h2
      subst h1 h2
      have he : a.eval x = .slice none 0 0 := hc
      refine fin (w' := w) (by rw [he]; exact run_convert_bytes_nil w src e (undT_eq hs) (isU8_eq hU) 0 0 dst (undT_eq hd)) ⟨_, rfl, rfl, by decide⟩ (Goes.refl hl)
  · rename_i e i k n c hs hd
    cases hU : isU8 P e with
    | false => rw [hU] at h; cases h
    | true =>
      rw [hU] at h
      simp only [cond_true, Option.bind_eq_some_iff, Option.some.injEq, Prod.mk.injEq] at h
      obtain ⟨q, hq, rfl, rfl⟩ := h
      obtain ⟨u, hu, hr⟩ := run_toStr (undT_eq hs) (isU8_eq hU) (undT_eq hd) hc hl hq
      exact fin hu hr (Goes.refl hl)
  · rename_i e' e i k n c hs hd
    cases hU : and (isU8 P e) (and (Nat.beq src dst) (Nat.blt 0 n)) with
    | false => rw [hU] at h; cases h
    | true =>
      rw [hU] at h
      simp only [Bool.and_eq_true] at hU
      obtain ⟨hU, hsd, h0⟩ := hU
      have hsd := Nat.eq_of_beq_eq_true hsd
      subst hsd
      have h0 : 0 < n := by rw [blt_dec] at h0; exact of_decide_eq_true h0
      simp only [cond_true, markA] at h
      rw [cblt] at h
      split at h
      · cases h
      rename_i h1000
      simp only [Option.bind_eq_some_iff] at h
      obtain ⟨row, hrow, h⟩ := h
      cases row with
      | bytes e2 m q d =>
        injection h with h
        injection h with h1 h2
        subst h1 h2
        have hc0 := hc
        obtain ⟨A, c', p, ev, hn, hp, hA⟩ := hc.sl_
        have hA' := hA h0
        subst hA'
        obtain ⟨p', hp', hra⟩ := hl.row i _ hrow (by simp)
        rw [hp] at hp'
        injection hp' with hp'
        subst hp'
        obtain ⟨hd0, arr, et, fr, hb, hsz, ⟨hfr, hty⟩, h4, h5, h6⟩ := hra
        have hsh : w.shape? p.b = some (et, arr.size) := by
          unfold World.shape?
          rw [hb]
        have hrun : (convert src src (a.eval x)).run P w = .ok (a.eval x) (w.freeze ⟨p.b, arr.size, none⟩ 1) := by
          rw [ev]
          simp [convert, run_und (undT_eq hd), run_und (isU8_eq hU), markStringish, hsh]
        have hp1 : (w.freeze ⟨p.b, arr.size, none⟩ 1).heap[p.b]? = some (.cells arr et (if fr.1 == fr.2 then (arr.size, arr.size + 1) else (min fr.1 arr.size, max fr.2 (arr.size + 1)))) := by
          simp [World.freeze, Array.getElem?_modify, hb]
        refine fin hrun hc0 (goes_put hl (by omega) hrow (by simp) hp (by simp [World.freeze]) rfl rfl rfl (fun b hb' => ?_) fun _ => ⟨hd0, arr, et, _, hp1, hsz, ⟨?_, hty⟩, h4, h5, h6⟩)
        · have hne' : ¬ p.b = b := fun e => hb' e.symm
          simp [World.freeze, Array.getElem?_modify, hne']
        · rcases hfr with hfr | hfr
          · rw [hfr, beq_self_eq_true, if_pos rfl]
            right
            show p.sz ≤ arr.size
            omega
          · split
            · right
              show p.sz ≤ arr.size
              omega
            · right
              show p.sz ≤ min fr.1 arr.size
              omega
      | _ => cases h
  · rename_i e n c hs hd
    cases hU : isU8 P e with
    | false => rw [hU] at h; cases h
    | true =>
      rw [hU] at h
      simp only [cond_true, ret2, Option.bind_eq_some_iff, Option.some.injEq, Prod.mk.injEq] at h
      obtain ⟨row, rfl, rfl, rfl⟩ := h
      obtain ⟨b, ev, hb, hcl⟩ := hc
      have hbs : b.size = n := by
        show b.data.size = n
        rw [← Array.length_toList, hb, byL_len]
      have hge := grownCap_ge w b.size 0 e
      have hrun := run_bytes_of_string (P := P) w src dst e b (undT_eq hs) (undT_eq hd) (isU8_eq hU)
      obtain ⟨C, hC⟩ : ∃ C, C = grownCap w b.size 0 e := ⟨_, rfl⟩
      rw [← hC] at hrun hge
      have hsize : (bytesRow b C).size = C := by
        simp [bytesRow]
        show b.data.size + (C - b.size) = C
        have : b.data.size = b.size := rfl
        omega
      have hh : (w.drew.alloc (.cells (bytesRow b C) e ((bytesRow b C).size, (bytesRow b C).size + 1))).heap = w.heap.push (.cells (bytesRow b C) e ((bytesRow b C).size, (bytesRow b C).size + 1)) := rfl
      refine fin (w' := w.drew.alloc (.cells (bytesRow b C) e ((bytesRow b C).size, (bytesRow b C).size + 1))) (ρ' := ρ.set s.nx ⟨w.heap.size, 0, C⟩) (by rw [ev]; exact hrun) ⟨⟨w.heap.size, 0, C⟩, ⟨w.heap.size, 0, none⟩, C, if_pos rfl, by rw [hbs], by omega, .inl ⟨rfl, by show 0 + 0 + C * 1 = C; omega⟩⟩
        (goes_new hl (by rw [hh, Array.size_push]; omega) rfl rfl rfl (fun j hj => by rw [hh, Array.getElem?_push, if_neg (Nat.ne_of_lt hj)]) fun ρ' _ => ⟨hcl, _, e, _, by rw [hh, Array.getElem?_push, if_pos rfl], hsize, ⟨.inr (by show C ≤ (bytesRow b C).size; omega), .inr rfl⟩, by show 0 + n ≤ C; omega, (fun h => absurd h (by decide)), fun j y hy => ?_⟩)
      rw [Nat.zero_add]
      have hj : j < n := by have := (List.getElem?_eq_some_iff.1 hy).1; rwa [byL_len] at this
      rw [← hb] at hy
      simp only [bytesRow]
      rw [Array.getElem?_append_left (by rw [Array.size_map]; show j < b.data.size; have : b.data.size = b.size := rfl; omega), Array.getElem?_map, ← Array.getElem?_toList, hy]
      rfl
  · rename_i t i o hs hd
    simp only [Option.bind_eq_some_iff] at h
    obtain ⟨z, hz, h⟩ := h
    rw [cbeq] at h
    split at h
    · cases h
    · rename_i hz0
      simp only [Option.bind_eq_some_iff, Option.some.injEq, Prod.mk.injEq] at h
      obtain ⟨row, hrow, v, hv, rfl, rfl⟩ := h
      obtain ⟨p, hp, e⟩ := hc
      have hnd : row ≠ .dead := by rintro rfl; cases hv
      obtain ⟨p', hp', hra⟩ := hl.row i row hrow hnd
      rw [hp] at hp'
      injection hp' with hp'
      subst hp'
      obtain ⟨u, hu, _⟩ := hra.cell hv
      refine fin (w' := w) ?_ ⟨p, hp, rfl⟩ (Goes.refl hl)
      rw [e]
      refine run_convert_to_unsafe (undT_eq hs) (undT_eq hd) ?_ hu
      obtain ⟨ti, hti, hts⟩ := Option.map_eq_some_iff.1 (sizeT_eq hz)
      rw [hti]
      simp [hts, hz0]
  · rename_i u i o hs hd
    simp only [Option.bind_eq_some_iff] at h
    obtain ⟨z, hz, row, hrow, h⟩ := h
    cases row with
    | cells e m l =>
      cases m with
      | true => cases h
      | false =>
        simp only at h
        cases hB : and (Nat.blt 0 P.depth) (and (Nat.blt 0 e) (and (Nat.beq e u) (and (Nat.blt 0 (P.cellsOf e)) (and (Nat.beq (Nat.mod o (P.cellsOf e)) 0) (Nat.ble (Nat.succ (Nat.div o (P.cellsOf e))) (Nat.div (lenL l) (P.cellsOf e))))))) with
        | false => rw [hB] at h; cases h
        | true =>
          rw [hB] at h
          injection h with h
          injection h with h1 h2
          subst h1 h2
          simp only [Bool.and_eq_true] at hB
          obtain ⟨b1, b2, b3, b4, b5, b6⟩ := hB
          rw [blt_dec] at b1 b2 b4
          have b1 := of_decide_eq_true b1
          have b2 := of_decide_eq_true b2
          have b4 := of_decide_eq_true b4
          have b3 := Nat.eq_of_beq_eq_true b3
          subst b3
          have b5 : o % P.cellsOf e = 0 := Nat.eq_of_beq_eq_true b5
          have b6 : o / P.cellsOf e + 1 ≤ lenL l / P.cellsOf e := Nat.le_of_ble_eq_true b6
          obtain ⟨p, hp, ev⟩ := hc
          obtain ⟨p', hp', hra⟩ := hl.row i _ hrow (by rintro ⟨⟩)
          rw [hp] at hp'
          injection hp' with hp'
          subst hp'
          obtain ⟨arr, et, fr, g1, g2, g3, g4, g5, g6⟩ := hra
          obtain ⟨g55, g7⟩ := g5 rfl
          rcases g7 with g7 | ⟨g7, g8⟩
          · omega
          subst g7
          have hsh : w.shape? p.b = some (et, arr.size) := by
            unfold World.shape?
            rw [g1]
          have hlies : liesAt P P.depth et (arr.size / P.cellsOf et) (p.o + o) et 1 = true := liesAt_self b1 b4 (by rw [g8, Nat.zero_add]; exact b5) (by rw [g8, Nat.zero_add, g2, ← g55, g8, Nat.zero_add, ← lenL_eq]; exact b6)
          have hzz := Fw.run_sizeOf (sizeT_eq hz)
          refine fin (w' := w) (z := .pointer (some ⟨p.b, p.o + o, none⟩)) ?_ ⟨p, hp, rfl⟩ (Goes.refl hl)
          rw [ev]
          simp [convert, Conv.unsafePointer, Conv.seenAt, viewAt, variablesAt, run_und (undT_eq hs), run_und (undT_eq hd), hzz, hsh, hlies]
    | _ => cases h
  · cases h
end
end Go.Ev
set_option linter.unusedVariables false
set_option linter.unusedSimpArgs false
namespace Go.Ev
open Go Go.Fw

section
variable {P : Program} {o : Oper} {a : Act} {w : World} {f : F} {s s' : S} {ρ : Rho} {N : Nat} {r : AV}
def W0 : World := default
def ORV (ρ : Rho) : Option AV → Option Value → Prop
  | none, v => v = none
  | some x, v => ∃ u, v = some u ∧ RV ρ x u
theorem opdO_rv {x : Option Operand} {v : Option AV} (h : ∀ y, x = some y → ∀ v, opd f y = some v → RV ρ v (a.eval y)) (hx : opdO f x = some v) : ORV ρ v (x.map a.eval) := by
  cases x with
  | none =>
    injection hx with hx
    subst hx
    rfl
  | some y =>
    simp only [opdO, Option.map_eq_some_iff] at hx
    obtain ⟨u, hu, rfl⟩ := hx
    exact ⟨_, rfl, h y rfl u hu⟩
theorem slBd_none {y d n : Nat} (h : slBd none y d = some n) : n = d := by
  injection h with h
  exact h.symm
theorem slBd_some {x : AV} {u : Value} {y d n : Nat} (h : slBd (some x) y d = some n) (hr : RV ρ x u) : n ≤ y ∧ ∀ y', y ≤ y' → ∀ code, (Instr.sliceBound u y' code).run P w = .ok n w := by
  simp only [slBd, Option.bind_eq_some_iff] at h
  obtain ⟨q, hq, h⟩ := h
  rw [cble] at h
  split at h
  · rename_i hle
    injection h with h
    subst h
    obtain ⟨k, rfl⟩ := natI_some hq hr
    refine ⟨hle, fun y' hy code => ?_⟩
    have h1 : (0 : Int) ≤ (q : Int) ∧ (q : Int) ≤ (y' : Int) := ⟨by omega, by omega⟩
    simp [Instr.sliceBound, asIntOf, h1]
  · cases h
/-- The bounds of a slice; the room may be more than is known. -/
theorem bounds_run1 {lo hi mx : Option AV} {vlo vhi vmx : Option Value} {b : Bool} {len cap cap' m h l : Nat} (hm : slBd mx cap cap' = some m) (hh : slBd hi m len = some h ) (hlo : slBd lo h 0 = some l) (r1 : ORV ρ mx vmx) (r2 : ORV ρ hi vhi) (r3 : ORV ρ lo vlo)
    (hc : cap ≤ cap') (hno : and mx.isSome hi.isNone = false) (hlen : mx = none → len ≤ cap') : (Instr.sliceBounds b len cap' vlo vhi vmx).run P w = .ok (l, h, m) w ∧ l ≤ h ∧ h ≤ m ∧ m ≤ cap' := by
  have M : (vmx = none ∧ m = cap' ∧ mx = none) ∨ (∃ u, vmx = some u ∧ (mx.isSome = true) ∧ m ≤ cap ∧ ∀ code, (Instr.sliceBound u cap' code).run P w = .ok m w) := by
    cases mx with
    | none => exact .inl ⟨r1, slBd_none hm, rfl⟩
    | some x =>
      obtain ⟨u, hu, hr⟩ := r1
      obtain ⟨h1, h2⟩ := slBd_some (P := P) (w := w) hm hr
      exact .inr ⟨u, hu, rfl, h1, h2 cap' hc⟩
  have H : (vhi = none ∧ h = len ∧ hi = none) ∨ (∃ u, vhi = some u ∧ h ≤ m ∧ ∀ code, (Instr.sliceBound u m code).run P w = .ok h w) := by
    cases hi with
    | none => exact .inl ⟨r2, slBd_none hh, rfl⟩
    | some x =>
      obtain ⟨u, hu, hr⟩ := r2
      obtain ⟨h1, h2⟩ := slBd_some (P := P) (w := w) hh hr
      exact .inr ⟨u, hu, h1, h2 m (Nat.le_refl _)⟩
  have L : (vlo = none ∧ l = 0) ∨ (∃ u, vlo = some u ∧ l ≤ h ∧ ∀ code, (Instr.sliceBound u h code).run P w = .ok l w) := by
    cases lo with
    | none => exact .inl ⟨r3, slBd_none hlo⟩
    | some x =>
      obtain ⟨u, hu, hr⟩ := r3
      obtain ⟨h1, h2⟩ := slBd_some (P := P) (w := w) hlo hr
      exact .inr ⟨u, hu, h1, h2 h (Nat.le_refl _)⟩
  rcases M with ⟨rfl, rfl, rfl⟩ | ⟨um, rfl, hms, hmc, hmr⟩ <;> rcases H with ⟨rfl, rfl, rfl⟩ | ⟨uh, rfl, hhm, hhr⟩ <;> rcases L with ⟨rfl, rfl⟩ | ⟨ul, rfl, hlh, hlr⟩
  all_goals first
    | (have hlen' := hlen rfl; refine ⟨?_, by omega, by omega, by omega⟩; simp [Instr.sliceBounds, *]; done)
    | (refine ⟨?_, by omega, by omega, by omega⟩; simp [Instr.sliceBounds, *]; done)
    | (exfalso; rw [hms] at hno; cases hno)
theorem bounds_run {lo hi mx : Option AV} {vlo vhi vmx : Option Value} {b : Bool} {len cap cap' m h l : Nat} (hm : slBd mx cap cap' = some m) (hh : slBd hi m len = some h ) (hlo : slBd lo h 0 = some l) (r1 : ORV ρ mx vmx) (r2 : ORV ρ hi vhi) (r3 : ORV ρ lo vlo)
    (hc : cap ≤ cap') (hno : and mx.isSome hi.isNone = false) (hlen : mx = none → len ≤ cap') : (∀ w, (Instr.sliceBounds b len cap' vlo vhi vmx).run P w = .ok (l, h, m) w) ∧ l ≤ h ∧ h ≤ m ∧ m ≤ cap' :=
  ⟨fun w => (bounds_run1 (w := w) hm hh hlo r1 r2 r3 hc hno hlen).1, (bounds_run1 (P := P) (b := b) (w := W0) hm hh hlo r1 r2 r3 hc hno hlen).2⟩
theorem op_slice {t : Nat} {x : Operand} {lo hi mx : Option Operand} (ho : o.op = .slice t x lo hi mx) (h : oSlice P f s t x lo hi mx = some (r, s')) (hF : FO ρ f a o) : OpG P o a ρ s r s' := by
  simp only [oSlice, Option.bind_eq_some_iff] at h
  obtain ⟨v, hv, vl, hvl, vh, hvh, vm, hvm, h⟩ := h
  have hc := hF.opd (by rw [ho]; simp [Op.operands]) hv
  have rl := opdO_rv (fun y hy v hv => hF.opd (by rw [ho]; simp [Op.operands, hy]) hv) hvl
  have rh := opdO_rv (fun y hy v hv => hF.opd (by rw [ho]; simp [Op.operands, hy]) hv) hvh
  have rm := opdO_rv (fun y hy v hv => hF.opd (by rw [ho]; simp [Op.operands, hy]) hv) hvm
  have fin : ∀ {z}, (∀ w, (Instr.sliceAt t (a.eval x) (lo.map a.eval) (hi.map a.eval) (mx.map a.eval)).run P w = .ok z w) → RV ρ r z → s' = s → OpG P o a ρ s r s' := fun {z} g1 g2 g3 => by
    subst g3
    refine OpG.gv (fun w => ?_) g2
    unfold Gv execOp
    rw [ho]
    simp [g1]
  unfold sliceA at h
  split at h
  · rename_i n c ht
    cases vm with
    | some _ => cases h
    | none =>
      simp only [Option.bind_eq_some_iff, Option.some.injEq, Prod.mk.injEq] at h
      obtain ⟨hh, hhh, ll, hll, rfl, rfl⟩ := h
      obtain ⟨b, ev, hb, hcl⟩ := hc
      have hbs : b.size = n := by
        show b.data.size = n
        rw [← Array.length_toList, hb, byL_len]
      obtain ⟨g1, g2, g3, _⟩ := bounds_run (P := P) (b := false) (mx := none) (cap := n) (cap' := n) (len := n) (vmx := none) (m := n) rfl hhh hll rfl rh rl (Nat.le_refl _) rfl (fun _ => Nat.le_refl _)
      refine fin (z := .string (b.extract ll hh)) ?_ ⟨_, rfl, ?_, bSub_lt _ _ _⟩ rfl
      · rw [show mx.map a.eval = none from rm, ev]
        simp [Instr.sliceAt, Instr.slice, run_und (undT_eq ht), hbs, g1]
      · show (b.extract ll hh).data.toList = byL (hh - ll) (bSub c ll (hh - ll))
        rw [byL_sub (n := n) (show ll + (hh - ll) ≤ n by omega), ← hb]
        simp [ByteArray.data_extract, List.extract_eq_take_drop]
  · rename_i e ht
    simp only [Option.bind_eq_some_iff] at h
    obtain ⟨m, hm, hh, hhh, ll, hll, z, hz, h⟩ := h
    cases hno : and vm.isSome vh.isNone with
    | true => rw [hno] at h; cases h
    | false =>
      rw [hno] at h
      injection h with h
      injection h with h1 h2
      subst h1 h2
      obtain ⟨g1, g2, g3, g4⟩ := bounds_run (P := P) (b := true) (len := 0) hm hhh hll rm rh rl (Nat.le_refl _) hno (fun _ => Nat.le_refl _)
      have e0 : ll = 0 ∧ hh = 0 ∧ m = 0 := by omega
      obtain ⟨rfl, rfl, rfl⟩ := e0
      have ev : a.eval x = .slice none 0 0 := hc
      refine fin (z := .slice none 0 0) ?_ rfl rfl
      rw [ev]
      simp [Instr.sliceAt, Instr.slice, run_und (undT_eq ht), g1, Fw.run_sizeOf (sizeT_eq hz)]
  · rename_i e i k n c ht
    simp only [Option.bind_eq_some_iff] at h
    obtain ⟨m, hm, hh, hhh, ll, hll, z, hz, h⟩ := h
    cases hno : and vm.isSome vh.isNone with
    | true => rw [hno] at h; cases h
    | false =>
      rw [hno] at h
      injection h with h
      injection h with h1 h2
      subst h1 h2
      obtain ⟨p, hp, ev, hnc⟩ := hc
      obtain ⟨g1, g2, g3, g4⟩ := bounds_run (P := P) (b := true) (len := n) hm hhh hll rm rh rl (Nat.le_refl _) hno (fun _ => hnc)
      refine fin (z := .slice (some ⟨p.b, p.o + (if m = ll then k else k + ll * z), none⟩) (hh - ll) (m - ll)) ?_ ?_ rfl
      · rw [ev]
        by_cases e2 : m = ll
        · simp [Instr.sliceAt, Instr.slice, run_und (undT_eq ht), g1, Fw.run_sizeOf (sizeT_eq hz), e2]
        · simp [Instr.sliceAt, Instr.slice, run_und (undT_eq ht), g1, Fw.run_sizeOf (sizeT_eq hz), e2, add_lit, Nat.add_assoc]
      · rw [cbeq]
        exact ⟨p, hp, rfl, by show hh - ll ≤ m - ll; omega⟩
  · rename_i e i k n z ht
    simp only [Option.bind_eq_some_iff] at h
    obtain ⟨y, hz, h⟩ := h
    rw [cbeq] at h
    split at h
    · rename_i hyz
      subst hyz
      obtain ⟨p, A, c', hp, ev, hnc, hor⟩ := hc
      cases vm with
      | some um =>
        cases hno : and (Nat.blt 0 n) vh.isSome with
        | false => simp only [hno] at h; cases h
        | true =>
          simp only [hno, cond_true, Option.bind_eq_some_iff, Option.some.injEq, Prod.mk.injEq] at h
          obtain ⟨m, hm, hh, hhh, ll, hll, rfl, rfl⟩ := h
          simp only [Bool.and_eq_true, blt_dec, decide_eq_true_eq] at hno
          obtain ⟨h0, hs⟩ := hno
          have hno' : and (some um).isSome vh.isNone = false := by cases vh <;> first | rfl | cases hs
          obtain ⟨g1, g2, g3, g4⟩ := bounds_run (P := P) (b := true) (len := n) (cap := n) (cap' := c') (mx := some um) hm hhh hll rm rh rl hnc hno' (fun h => by cases h)
          have hA : A = ⟨p.b, p.o + k, none⟩ := by
            rcases hor with ⟨e, _⟩ | e
            · exact e
            · omega
          subst hA
          refine fin (z := .slice (some ⟨p.b, p.o + (if m = ll then k else k + ll * y), none⟩) (hh - ll) (m - ll)) ?_ ?_ rfl
          · rw [ev]
            by_cases e2 : m = ll
            · simp [Instr.sliceAt, Instr.slice, run_und (undT_eq ht), g1, Fw.run_sizeOf (sizeT_eq hz), e2]
            · simp [Instr.sliceAt, Instr.slice, run_und (undT_eq ht), g1, Fw.run_sizeOf (sizeT_eq hz), e2, add_lit, Nat.add_assoc]
          · rw [cbeq]
            exact ⟨p, hp, rfl, by show hh - ll ≤ m - ll; omega⟩
      | none =>
        simp only [Option.bind_eq_some_iff, Option.some.injEq, Prod.mk.injEq] at h
        obtain ⟨hh, hhh, ll, hll, rfl, rfl⟩ := h
        have hhh' : slBd vh c' n = some hh := by
          cases vh with
          | none => exact hhh
          | some uh =>
            simp only [slBd, Option.bind_eq_some_iff] at hhh ⊢
            obtain ⟨q, hq, hhh⟩ := hhh
            refine ⟨q, hq, ?_⟩
            rw [cble] at hhh ⊢
            split at hhh
            · rw [if_pos (by omega)]
              exact hhh
            · cases hhh
        have hn : hh ≤ n := by
          cases vh with
          | none => exact Nat.le_of_eq (slBd_none hhh)
          | some uh =>
            obtain ⟨u, _, hr⟩ := rh
            exact (slBd_some (P := P) (w := W0) hhh hr).1
        obtain ⟨g1, g2, g3, g4⟩ := bounds_run (P := P) (b := true) (len := n) (cap := c') (cap' := c') (mx := none) (m := c') rfl hhh' hll rm rh rl (Nat.le_refl _) rfl (fun _ => hnc)
        by_cases e2 : c' = ll
        · subst e2
          refine fin (z := .slice (some A) (hh - c') (c' - c')) ?_ ⟨p, A, c' - c', hp, rfl, (by show hh - c' ≤ c' - c'; omega), .inr (by omega)⟩ rfl
          rw [ev]
          simp [Instr.sliceAt, Instr.slice, run_und (undT_eq ht), g1, Fw.run_sizeOf (sizeT_eq hz)]
        · rcases hor with ⟨rfl, hsz⟩ | e
          · refine fin (z := .slice (some ⟨p.b, p.o + (k + ll * y), none⟩) (hh - ll) (c' - ll)) ?_ ⟨p, _, c' - ll, hp, rfl, (by show hh - ll ≤ c' - ll; omega), .inl ⟨rfl, ?_⟩⟩ rfl
            · rw [ev]
              simp [Instr.sliceAt, Instr.slice, run_und (undT_eq ht), g1, Fw.run_sizeOf (sizeT_eq hz), e2, add_lit, Nat.add_assoc]
            · show p.o + (k + ll * y) + (c' - ll) * y = p.sz
              rw [← hsz, Nat.sub_mul]
              have : ll * y ≤ c' * y := Nat.mul_le_mul_right _ (by omega)
              omega
          · omega
    · cases h
  · rename_i n e i k ht
    simp only [Option.bind_eq_some_iff] at h
    obtain ⟨m, hm, hh, hhh, ll, hll, z, hz, h⟩ := h
    cases hno : and vm.isSome vh.isNone with
    | true => rw [hno] at h; cases h
    | false =>
      rw [hno] at h
      injection h with h
      injection h with h1 h2
      subst h1 h2
      obtain ⟨p, hp, ev⟩ := hc
      obtain ⟨g1, g2, g3, g4⟩ := bounds_run (P := P) (b := false) (len := n) hm hhh hll rm rh rl (Nat.le_refl _) hno (fun _ => Nat.le_refl _)
      refine fin (z := .slice (some ⟨p.b, p.o + (if m = ll then k else k + ll * z), none⟩) (hh - ll) (m - ll)) ?_ ?_ rfl
      · rw [ev]
        by_cases e2 : m = ll
        · simp [Instr.sliceAt, Instr.sureAddr, run_und (undT_eq ht), g1, Fw.run_sizeOf (sizeT_eq hz), e2]
        · simp [Instr.sliceAt, Instr.sureAddr, run_und (undT_eq ht), g1, Fw.run_sizeOf (sizeT_eq hz), e2, add_lit, Nat.add_assoc]
      · rw [cbeq]
        exact ⟨p, hp, rfl, by show hh - ll ≤ m - ll; omega⟩
  · cases h
end
end Go.Ev
set_option linter.unusedVariables false
set_option linter.unusedSimpArgs false
namespace Go.Ev
open Go Go.Fw

section
variable {P : Program} {o : Oper} {a : Act} {w : World} {f : F} {s s' : S} {ρ : Rho} {N : Nat} {r : AV}
theorem lenB_run {t : Nat} {x : AV} {v : Value} {T : Array TypeId} {A : Array Value} {ty : TypeId} (h : lenB P t x s = some (r, s')) (hv : RV ρ x v) (hT : T[0]? = some t) (hA : A[0]? = some v) : s' = s ∧ ∃ u, (∀ w, (Builtin.len_ T ty A).run P w = .ok u w) ∧ RV ρ r u := by
  unfold lenB at h
  split at h
  · rename_i n c ht
    injection h with h
    injection h with h1 h2
    subst h1 h2
    obtain ⟨b, rfl, hb, _⟩ := hv
    have hbs : b.size = n := by
      show b.data.size = n
      rw [← Array.length_toList, hb, byL_len]
    exact ⟨rfl, .int .i64 (n : Int), fun w => by simp [Builtin.len_, hT, hA, run_und (undT_eq ht), goInt, hbs], rfl⟩
  · rename_i n e ht
    injection h with h
    injection h with h1 h2
    subst h1 h2
    exact ⟨rfl, .int .i64 (n : Int), fun w => by simp [Builtin.len_, hT, hA, run_und (undT_eq ht), goInt], rfl⟩
  · rename_i e ht
    injection h with h
    injection h with h1 h2
    subst h1 h2
    have ev : v = .slice none 0 0 := hv
    exact ⟨rfl, .int .i64 (0 : Nat), fun w => by simp [Builtin.len_, hT, hA, run_und (undT_eq ht), goInt, ev], rfl⟩
  · rename_i e i k n c ht
    injection h with h
    injection h with h1 h2
    subst h1 h2
    obtain ⟨A', c', p, rfl, _⟩ := hv.sl_
    exact ⟨rfl, .int .i64 (n : Int), fun w => by simp [Builtin.len_, hT, hA, run_und (undT_eq ht), goInt], rfl⟩
  · cases h
theorem capB_run {t : Nat} {x : AV} {v : Value} {T : Array TypeId} {A : Array Value} {ty : TypeId} (h : capB P t x s = some (r, s')) (hv : RV ρ x v) (hT : T[0]? = some t) (hA : A[0]? = some v) : s' = s ∧ ∃ u, (∀ w, (Builtin.cap_ T ty A).run P w = .ok u w) ∧ RV ρ r u := by
  unfold capB at h
  split at h
  · rename_i e ht
    injection h with h
    injection h with h1 h2
    subst h1 h2
    have ev : v = .slice none 0 0 := hv
    exact ⟨rfl, .int .i64 (0 : Nat), fun w => by simp [Builtin.cap_, hT, hA, run_und (undT_eq ht), goInt, ev], rfl⟩
  · rename_i e i k n c ht
    injection h with h
    injection h with h1 h2
    subst h1 h2
    obtain ⟨p, hp, rfl, _⟩ := hv
    exact ⟨rfl, .int .i64 (c : Int), fun w => by simp [Builtin.cap_, hT, hA, run_und (undT_eq ht), goInt], rfl⟩
  · cases h
theorem minI_run {x y : AV} {u v : Value} (h : minI x y = some r) (hu : RV ρ x u) (hv : RV ρ y v) : ∃ z, (∀ w, (Builtin.min2 u v).run P w = .ok z w) ∧ RV ρ r z := by
  unfold minI at h
  split at h
  · rename_i k p j q
    injection h with h
    subst h
    rw [show u = _ from hu, show v = _ from hv, iLt_dec]
    refine ⟨.int k (if q < p then q else p), fun w => by simp [Builtin.min2], ?_⟩
    by_cases e : q < p
    · rw [decide_eq_true e, if_pos e]; rfl
    · rw [decide_eq_false e, if_neg e]; rfl
  · cases h
theorem maxI_run {x y : AV} {u v : Value} (h : maxI x y = some r) (hu : RV ρ x u) (hv : RV ρ y v) : ∃ z, (∀ w, (Builtin.max2 u v).run P w = .ok z w) ∧ RV ρ r z := by
  unfold maxI at h
  split at h
  · rename_i k p j q
    injection h with h
    subst h
    rw [show u = _ from hu, show v = _ from hv, iLt_dec]
    refine ⟨.int k (if p < q then q else p), fun w => by simp [Builtin.max2], ?_⟩
    by_cases e : p < q
    · rw [decide_eq_true e, if_pos e]; rfl
    · rw [decide_eq_false e, if_neg e]; rfl
  · cases h
theorem foldI_run {g : AV → AV → Option AV} {G : Value → Value → Sem Value} (hg : ∀ x y u v r, g x y = some r → RV ρ x u → RV ρ y v → ∃ z, (∀ w, (G u v).run P w = .ok z w) ∧ RV ρ r z) :
    ∀ {l : List AV} {vs : List Value} {x : AV} {u : Value} {r : AV}, foldI g l x = some r → RV ρ x u → RVs ρ l vs → ∃ z, (∀ w, (vs.foldlM G u).run P w = .ok z w) ∧ RV ρ r z
  | [], vs, x, u, r, h, hx, hr => by
    injection h with h
    subst h
    rw [show vs = [] from hr]
    exact ⟨u, fun _ => rfl, hx⟩
  | y :: l, vs, x, u, r, h, hx, hr => by
    obtain ⟨v, vs', rfl, hv, hr'⟩ := hr
    simp only [foldI, Option.bind_eq_some_iff] at h
    obtain ⟨q, hq, h⟩ := h
    obtain ⟨z, hz, hzr⟩ := hg _ _ _ _ _ hq hx hv
    obtain ⟨z', hz', hr2⟩ := foldI_run hg h hzr hr'
    refine ⟨z', fun w => ?_, hr2⟩
    rw [List.foldlM_cons]
    simp only [Sem.run_bind, hz, Result.andThen_ok, hz']
theorem op_iface {t : Nat} {x : Operand} (ho : o.op = .makeInterface t x) (h : oIface P f s t x = some (r, s')) (hF : FO ρ f a o) : OpG P o a ρ s r s' := by
  simp only [oIface, Option.bind_eq_some_iff] at h
  obtain ⟨v, hv, d, hd, h⟩ := h
  have hc := hF.opd (by rw [ho]; simp [Op.operands]) hv
  have gen : (∀ m, d ≠ .interface m) → (bif v.one then some (AV.ifc t v, s) else none) = some (r, s') → OpG P o a ρ s r s' := fun hne h => by
    cases h1 : v.one with
    | false => rw [h1] at h; cases h
    | true =>
      rw [h1] at h
      injection h with h
      injection h with h2 h3
      subst h2 h3
      refine OpG.gv (v := .iface t (a.eval x)) (fun w => ?_) ⟨_, rfl, hc⟩
      unfold Gv execOp
      rw [ho]
      cases d <;> first | exact absurd rfl (hne _) | simp [Instr.makeInterface, run_und (undT_eq hd)]
  cases d <;> first | exact gen (by intro m e; cases e) h | cases h
end
end Go.Ev
set_option linter.unusedVariables false
set_option linter.unusedSimpArgs false
namespace Go.Ev
open Go Go.Fw

section
variable {P : Program} {o : Oper} {a : Act} {w : World} {f : F} {s s' : S} {ρ : Rho} {N : Nat} {r : AV}
/-- Parts stand for parts. -/
def RPs (ρ : Rho) : List (Nat × AV) → List (Nat × Value) → Prop
  | [], l => l = []
  | (i, x) :: xs, l => ∃ v vs, l = (i, v) :: vs ∧ RV ρ x v ∧ RPs ρ xs vs
theorem opdsP_rv : ∀ {xs : List (Nat × Operand)} {vs : List (Nat × AV)}, (∀ x ∈ xs, ∀ v, opd f x.2 = some v → RV ρ v (a.eval x.2)) → opdsP f xs = some vs → RPs ρ vs (xs.map fun p => (p.1, a.eval p.2))
  | [], vs, _, hx => by simp [opdsP] at hx; subst hx; rfl
  | (i, x) :: xs, vs, h, hx => by
    simp only [opdsP, Option.bind_eq_some_iff, Option.map_eq_some_iff] at hx
    obtain ⟨v, hv, us, hus, rfl⟩ := hx
    exact ⟨_, _, rfl, h (i, x) (by simp) v hv, opdsP_rv (fun y hy => h y (List.mem_cons_of_mem _ hy)) hus⟩
theorem fillA_run {pl : Nat → Option (Nat × Nat)} {place : Nat → Option (Nat × Nat)} (hp : ∀ i q, pl i = some q → place i = some q) :
    ∀ {ps : List (Nat × AV)} {vs : List (Nat × Value)} {z z' : List AV} {zs : List Value}, fillA ps pl z = some z' → RPs ρ ps vs → RVs ρ z zs → (∀ x ∈ z, x.one = true) →
    ∃ zs' : List Value, Instr.fill place zs.toArray vs = some zs'.toArray ∧ RVs ρ z' zs' ∧ (∀ x ∈ z', x.one = true) ∧ z'.length = z.length
  | [], vs, z, z', zs, h, hv, hz, h1 => by
    injection h with h
    subst h
    rw [show vs = [] from hv]
    exact ⟨zs, rfl, hz, h1, rfl⟩
  | (i, x) :: ps, vs, z, z', zs, h, hv, hz, h1 => by
    obtain ⟨v, vs', rfl, hx, hps⟩ := hv
    simp only [fillA, Option.bind_eq_some_iff] at h
    obtain ⟨⟨off, k⟩, hpi, y, hy, h⟩ := h
    simp only [cbeq] at h
    split at h
    · rename_i hk
      simp only [Option.bind_eq_some_iff] at h
      obtain ⟨q, hq, h⟩ := h
      obtain ⟨c1, c2, c3⟩ := hx.cel hy
      obtain ⟨e, hfit⟩ := setL_some _ _ _ _ hq
      have hlen : v.cells.toList.length = k := by rw [← c1.len, ← lenL_eq]; exact hk
      have hq1 : RVs ρ q (splice zs off v.cells.toList) := by
        rw [e]
        have := ((hz.take off).append c1).append (hz.drop (off + y.length))
        rw [c1.len] at this ⊢
        exact this
      have hq2 : ∀ x ∈ q, x.one = true := fun x hx => by
        rw [e, List.mem_append, List.mem_append] at hx
        rcases hx with (hx | hx) | hx
        · exact h1 x (List.mem_of_mem_take hx)
        · exact c2 x hx
        · exact h1 x (List.mem_of_mem_drop hx)
      obtain ⟨zs', g1, g2, g3, g4⟩ := fillA_run hp h hps hq1 hq2
      refine ⟨zs', ?_, g2, g3, by rw [g4, setL_len hq]⟩
      rw [fill_cons (vs := v.cells.toList) (by rw [hlen]; exact hp i _ hpi) (by simp) (by rw [← c1.len, ← hz.len]; exact hfit)]
      exact g1
    · cases h
theorem plS_run : ∀ {fs : List Field} {l : List (Nat × Nat)}, plS P fs = some l → ∀ w, (fs.mapM fun f => (do pure (f.offset, ← sizeOf f.type) : Sem (Nat × Nat))).run P w = .ok l w
  | [], l, h, w => by
    injection h with h
    subst h
    rfl
  | fd :: fs, l, h, w => by
    simp only [plS, Option.bind_eq_some_iff, Option.some.injEq] at h
    obtain ⟨z, hz, r, hr, rfl⟩ := h
    rw [List.mapM_cons]
    simp only [Sem.run_bind, Fw.run_sizeOf (sizeT_eq hz), Result.andThen_ok, Sem.run_pure, plS_run hr w]
theorem op_build {t : Nat} {ps : Array (Nat × Operand)} (ho : o.op = .build t ps) (h : oBuild P f s t ps = some (r, s')) (hF : FO ρ f a o) : OpG P o a ρ s r s' := by
  simp only [oBuild, Option.bind_eq_some_iff] at h
  obtain ⟨l, hv, h⟩ := h
  have h2 := ret1_some h
  clear h
  obtain ⟨h, rfl⟩ := h2
  have hps := opdsP_rv (fun x hx v hv => hF.opd (by rw [ho]; simp only [Op.operands]; exact List.mem_map.2 ⟨x, hx, rfl⟩) hv) hv
  simp only [buildA, Option.bind_eq_some_iff] at h
  obtain ⟨z, hz, h⟩ := h
  obtain ⟨zv, hzv, hzr⟩ := zeroT_some hz
  have hz' := hzr ρ
  have fin : ∀ v, (∀ w, (Instr.build t (ps.toList.map fun p => (p.1, a.eval p.2)).toArray).run P w = .ok v w) → RV ρ r v → OpG P o a ρ s' r s' := fun v g1 g2 =>
    OpG.gv (fun w => gv_build (l := ps.toList) (by rw [ho, Array.toArray_toList]) rfl (g1 w)) g2
  have gen : ∀ (place : Nat → Option (Nat × Nat)) (pl : Nat → Option (Nat × Nat)), (∀ i q, pl i = some q → place i = some q) → (z.cel.bind fun c => (fillA l pl c).bind (normT P t)) = some r →
      ∃ cs : Array Value, Instr.fill place zv.cells (ps.toList.map fun p => (p.1, a.eval p.2)) = some cs ∧ RV ρ r (.agg cs) := fun place pl hp h => by
    simp only [Option.bind_eq_some_iff] at h
    obtain ⟨c, hc, q, hq, h⟩ := h
    obtain ⟨c1, c2, _⟩ := hz'.cel hc
    obtain ⟨zs', g1, g2, g3, _⟩ := fillA_run hp hq hps c1 c2
    exact ⟨zs'.toArray, by simpa using g1, normT_rv h g2 (allOne_of g3)⟩
  split at h
  · rename_i fs ht
    simp only [Option.bind_eq_some_iff] at h
    obtain ⟨pl, hpl, h⟩ := h
    obtain ⟨cs, g1, g2⟩ := gen (fun i => pl.toArray[i]?) (nth pl) (fun i q hi => by rw [nth_eq] at hi; simpa using hi) (by simpa only [Option.bind_eq_some_iff] using h)
    refine fin _ (fun w => run_buildStr (places := pl.toArray) (undT_eq ht) hzv rfl (fun w => ?_) g1) g2
    have := plS_run hpl w
    rw [← Array.toArray_toList (xs := fs), List.mapM_toArray]
    simp only [map_eq_pure_bind, Sem.run_bind, this, Result.andThen_ok, Sem.run_pure]
  · rename_i n e ht
    simp only [Option.bind_eq_some_iff] at h
    obtain ⟨sz, hsz, h⟩ := h
    split at h
    · injection h with h
      subst h
      rw [show (ps.toList.map fun p => (p.1, a.eval p.2)) = [] from hps] at fin
      obtain ⟨ev, hb⟩ := hz'
      refine fin _ (fun w => run_buildArr (undT_eq ht) (sizeT_eq hsz) hzv rfl rfl) ?_
      rw [ev]
      exact ⟨rfl, hb⟩
    · obtain ⟨cs, g1, g2⟩ := gen (fun i => some (i * sz, sz)) (fun i => some (Nat.mul i sz, sz)) (fun i q hi => hi) (by simpa only [Option.bind_eq_some_iff] using h)
      exact fin _ (fun w => run_buildArr (undT_eq ht) (sizeT_eq hsz) hzv rfl g1) g2
  · cases h
end
end Go.Ev
set_option linter.unusedVariables false
set_option linter.unusedSimpArgs false
namespace Go.Ev
open Go Go.Fw

section
variable {P : Program} {o : Oper} {a : Act} {w : World} {f : F} {s s' : S} {ρ : Rho} {N : Nat} {r : AV}
/-- So many of a list. -/
def reps {α : Type} : Nat → List α → List α
  | 0, _ => []
  | n + 1, l => l ++ reps n l
theorem reps_len {α : Type} (l : List α) : ∀ n, (reps n l).length = n * l.length
  | 0 => by simp [reps]
  | n + 1 => by rw [reps, List.length_append, reps_len l n, Nat.succ_mul, Nat.add_comm]
theorem reps_get {α : Type} (l : List α) : ∀ (n j : Nat), j < n * l.length → (reps n l)[j]? = l[j % l.length]?
  | 0, j, h => by rw [Nat.zero_mul] at h; omega
  | n + 1, j, h => by
    rw [Nat.succ_mul] at h
    rw [reps]
    by_cases hj : j < l.length
    · rw [List.getElem?_append_left hj, Nat.mod_eq_of_lt hj]
    · rw [List.getElem?_append_right (by omega), reps_get l n (j - l.length) (by omega)]
      congr 1
      rw [Nat.mod_eq_sub_mod (by omega : j ≥ l.length)]
theorem repl_reps : ∀ (n : Nat) (l : List AV), repl n l = reps n l
  | 0, _ => rfl
  | n + 1, l => by rw [repl, reps, repl_reps n l]
theorem RVs.reps {l : List AV} {vs : List Value} (h : RVs ρ l vs) : ∀ n, RVs ρ (Ev.reps n l) (Ev.reps n vs)
  | 0 => rfl
  | n + 1 => h.append (RVs.reps h n)
theorem byL_zero : ∀ n, byL n 0 = List.replicate n 0
  | 0 => rfl
  | n + 1 => by rw [byL, List.replicate_succ, show 0 / 256 = 0 from rfl, byL_zero n]; rfl
theorem reps_replicate {α : Type} (x : α) (m : Nat) : ∀ n, reps n (List.replicate m x) = List.replicate (n * m) x
  | 0 => by rw [Nat.zero_mul]; rfl
  | n + 1 => by rw [reps, reps_replicate x m n, List.replicate_append_replicate, Nat.succ_mul, Nat.add_comm]
/-- Zeros stand for zeros. -/
theorem zerosT_rv {e k : Nat} {x : AV} (h : zerosT P e k = some x) : ∃ z, (P.info? e).map (·.zero) = some (some z) ∧ RV ρ x (.agg (reps k z.cells.toList).toArray) := by
  simp only [zerosT, Option.bind_eq_some_iff] at h
  obtain ⟨y, hy, h⟩ := h
  obtain ⟨z, hz, hzr⟩ := zeroT_some hy
  have hr := hzr ρ
  refine ⟨z, hz, ?_⟩
  split at h
  · rename_i n c
    rw [cbeq] at h
    split at h
    · rename_i hc
      subst hc
      injection h with h
      subst h
      obtain ⟨rfl, _⟩ := hr
      refine ⟨?_, Nat.two_pow_pos _⟩
      show Value.agg (reps k ((byL n 0).map vU)).toArray = Value.agg ((byL (k * n) 0).map vU).toArray
      rw [byL_zero, byL_zero, List.map_replicate, List.map_replicate, reps_replicate]
    · cases h
  · rename_i q
    rw [iEq_dec] at h
    by_cases hq : q = 0
    · subst hq
      rw [decide_eq_true rfl] at h
      injection h with h
      subst h
      rw [show z = .int .u8 0 from hr]
      refine ⟨?_, Nat.two_pow_pos _⟩
      show Value.agg (reps k [Value.int .u8 0]).toArray = Value.agg ((byL k 0).map vU).toArray
      rw [byL_zero, List.map_replicate, show [Value.int .u8 0] = List.replicate 1 (Value.int .u8 0) from rfl, reps_replicate, Nat.mul_one]
      rfl
    · rw [decide_eq_false hq] at h
      cases h
  · simp only [Option.bind_eq_some_iff, Option.some.injEq] at h
    obtain ⟨c, hc, rfl⟩ := h
    obtain ⟨c1, c2, _⟩ := hr.cel hc
    rw [repl_reps]
    refine ⟨_, rfl, c1.reps k, allOne_of fun x hx => ?_⟩
    obtain ⟨j, hj⟩ := List.getElem?_of_mem hx
    have hlt := (List.getElem?_eq_some_iff.1 hj).1
    rw [reps_len] at hlt
    rw [reps_get _ _ _ hlt] at hj
    exact c2 x (List.mem_of_getElem? hj)
theorem madeCells_reps (z : Array Value) (k : Nat) : (madeCells z (k * z.size)).toList = reps k z.toList := by
  apply List.ext_getElem?
  intro j
  by_cases hj : j < k * z.size
  · rw [reps_get _ _ _ (by simpa using hj)]
    have hz : 0 < z.size := by
      rcases Nat.eq_zero_or_pos z.size with h | h
      · rw [h, Nat.mul_zero] at hj; omega
      · exact h
    have hm := Nat.mod_lt j hz
    simp [madeCells, hj, hm, getElem!_pos, List.getElem?_range]
  · rw [List.getElem?_eq_none (by simp [madeCells]; omega), List.getElem?_eq_none (by rw [reps_len]; simp; omega)]
theorem okZ_eq {e : Nat} (h : okZ P e = true) : ∃ i z, P.info? e = some i ∧ i.zero = some z ∧ z.cells.size = i.size ∧ (P.info? e).map (·.zero) = some (some z) := by
  unfold okZ at h
  split at h
  · rename_i x n hx hn
    simp only [Bool.and_eq_true] at h
    obtain ⟨h1, h2⟩ := h
    have h2 := Nat.eq_of_beq_eq_true h2
    obtain ⟨z, hz, hr⟩ := zeroT_some hx
    have hs := sizeT_eq hn
    cases hi : P.info? e with
    | none => rw [hi] at hz; cases hz
    | some i =>
      rw [hi] at hz hs
      simp only [Option.map_some, Option.some.injEq] at hz hs
      have hc := (hr (fun _ => none)).cnt (by intro e; rw [e] at h1; cases h1)
      exact ⟨i, z, rfl, hz, by rw [hc, h2, hs], by rw [Option.map_some, hz]⟩
  · cases h
theorem fits_eq {e k : Nat} (h : fits P e k = true) : ∃ i, P.info? e = some i ∧ i.bytes * k ≤ 140737488355328 := by
  unfold fits at h
  split at h
  · rename_i i hi
    exact ⟨i, infoT_eq hi, by rw [ble_dec] at h; exact of_decide_eq_true h⟩
  · cases h
theorem ret2_some {v : Option Row} {k n : Nat} {c : Cap} {s s' : S} {r : AV} (h : ret2 v k n c s = some (r, s')) : ∃ row, v = some row ∧ r = .sl s.nx k n c ∧ s' = ⟨s.h.set s.nx row, s.nx + 1⟩ := by
  simp only [ret2, Option.bind_eq_some_iff, Option.some.injEq, Prod.mk.injEq] at h
  obtain ⟨u, hu, rfl, rfl⟩ := h
  exact ⟨u, hu, rfl, rfl⟩
theorem op_makeSlice {t : Nat} {x y : Operand} (ho : o.op = .makeSlice t x y) (h : oMakeSlice P f s t x y = some (r, s')) (hF : FO ρ f a o) : OpN P o a ρ s r s' := by
  simp only [oMakeSlice, Option.bind_eq_some_iff] at h
  obtain ⟨u, hu, v, hv, h⟩ := h
  have hu' := hF.opd (by rw [ho]; simp [Op.operands]) hu
  have hv' := hF.opd (by rw [ho]; simp [Op.operands]) hv
  unfold makeSliceA at h
  split at h
  · rename_i e ht
    simp only [Option.bind_eq_some_iff] at h
    obtain ⟨n, hn, c, hc, h⟩ := h
    cases hb : and (Nat.ble n c) (and (fits P e c) (and (okZ P e) (Nat.ble c 140737488355328))) with
    | false => rw [hb] at h; cases h
    | true =>
      rw [hb] at h
      simp only [Bool.and_eq_true, ble_dec, decide_eq_true_eq] at hb
      obtain ⟨hnc, hfit, hok, hcm⟩ := hb
      obtain ⟨row, hrow, rfl, rfl⟩ := ret2_some h
      obtain ⟨kn, en⟩ := natI_some hn hu'
      obtain ⟨kc, ec⟩ := natI_some hc hv'
      obtain ⟨i, z, hi, hz, hzs, hzz⟩ := okZ_eq hok
      obtain ⟨i', hi', hby⟩ := fits_eq hfit
      rw [hi] at hi'
      injection hi' with hi'
      subst hi'
      refine ⟨row, .sl n c, rfl, rfl, fun w => ?_⟩
      have hrun := run_make (P := P) w t e i z (undT_eq ht) hi hz kn kc (n : Int) (c : Int) (by omega) (by omega) (by
        have : ((i.bytes * c : Nat) : Int) ≤ 140737488355328 := by omega
        rw [Int.natCast_mul] at this
        omega) (by omega)
      simp only [Int.toNat_natCast] at hrun
      rw [← hzs] at hrun
      simp only [zeroRow, Option.bind_eq_some_iff] at hrow
      obtain ⟨x', hx', hrow⟩ := hrow
      obtain ⟨z', hz', hrv⟩ := zerosT_rv (ρ := ρ) hx'
      rw [hzz] at hz'
      injection hz' with hz'
      injection hz' with hz'
      subst hz'
      obtain ⟨h1, h2, h3⟩ := heap_push w (.cells (madeCells z.cells (c * z.cells.size)) e)
      refine ⟨.slice (some ⟨w.heap.size, 0, none⟩) n c, w.alloc (.cells (madeCells z.cells (c * z.cells.size)) e), c * z.cells.size, ?_, h3, rfl, rfl, rfl, h1, (rowOf_at hrow hrv (pad := []) h2 (by rw [madeCells_reps]; simp [Value.cells]) (size_madeCells _ _) (frok0 _) (fun _ => rfl) rfl), fun ρ' i hi => ⟨_, hi, rfl, hnc⟩⟩
      unfold execOp
      rw [ho]
      simp [en, ec, hrun]
  · cases h
end
end Go.Ev
set_option linter.unusedVariables false
set_option linter.unusedSimpArgs false
namespace Go.Ev
open Go Go.Fw

section
variable {P : Program} {o : Oper} {a : Act} {w : World} {f : F} {s s' : S} {ρ : Rho} {N : Nat} {r : AV}
theorem run_bslice {t e n sz : Nat} {z : Value} {pl : List (Nat × Value)} {cs : Array Value} (ht : P.underlying t = some (.slice e)) (hs : (P.info? e).map (·.size) = some sz) (hz : (P.info? e).map (·.zero) = some (some z)) (h : n * sz ≤ 16777216)
    (hf : Instr.fill (fun i => some (i * sz, sz)) (madeCells z.cells (n * sz)) pl = some cs) : (Instr.buildSlice t n pl.toArray).run P w = .ok (.slice (some ⟨w.heap.size, 0, none⟩) n n) (w.alloc (.cells cs e)) := by
  unfold madeCells at hf
  by_cases h0 : n * sz = 0
  · rw [h0] at hf
    have hf' : Instr.fill (fun i => some (i * sz, sz)) #[] pl = some cs := by simpa [Array.range_zero'] using hf
    simp [Instr.buildSlice, run_und ht, Fw.run_sizeOf hs, h0, Array.range_zero', hf', newRow]
  · have hn : ¬ 2 ^ 24 < n * sz := by omega
    simp [Instr.buildSlice, run_und ht, Fw.run_sizeOf hs, h0, hn, run_zeroValue hz, hf, newRow]
theorem op_buildSlice {t n : Nat} {ps : Array (Nat × Operand)} (ho : o.op = .buildSlice t n ps) (h : oBuildSlice P f s t n ps = some (r, s')) (hF : FO ρ f a o) : OpN P o a ρ s r s' := by
  simp only [oBuildSlice, Option.bind_eq_some_iff] at h
  obtain ⟨l, hv, h⟩ := h
  have hps := opdsP_rv (fun x hx v hv => hF.opd (by rw [ho]; simp only [Op.operands]; exact List.mem_map.2 ⟨x, hx, rfl⟩) hv) hv
  unfold buildSliceA at h
  split at h
  · rename_i e ht
    simp only [Option.bind_eq_some_iff] at h
    obtain ⟨y, hy, c, hc, sz, hsz, h⟩ := h
    cases hb : and (okZ P e) (Nat.ble (Nat.mul n sz) 16777216) with
    | false => rw [hb] at h; cases h
    | true =>
      rw [hb] at h
      simp only [Bool.and_eq_true, ble_dec, decide_eq_true_eq] at hb
      obtain ⟨hok, hcm⟩ := hb
      simp only [cond_true, Option.bind_eq_some_iff] at h
      obtain ⟨q, hq, h⟩ := h
      obtain ⟨row, hrow, rfl, rfl⟩ := ret2_some h
      obtain ⟨i, z, hi, hz, hzs, hzz⟩ := okZ_eq hok
      obtain ⟨z', hz', hzr⟩ := zeroT_some hy
      rw [hzz] at hz'
      injection hz' with hz'
      injection hz' with hz'
      subst hz'
      obtain ⟨c1, c2, _⟩ := (hzr ρ).cel hc
      have hsz' := sizeT_eq hsz
      have hsi : i.size = sz := by rw [hi] at hsz'; simpa using hsz'
      rw [repl_reps] at hq
      obtain ⟨zs', g1, g2, g3, g4⟩ := fillA_run (place := fun i => some (i * sz, sz)) (fun i q hi => hi) hq hps (c1.reps n) (fun x hx => by
        obtain ⟨j, hj⟩ := List.getElem?_of_mem hx
        have hlt := (List.getElem?_eq_some_iff.1 hj).1
        rw [reps_len] at hlt
        rw [reps_get _ _ _ hlt] at hj
        exact c2 x (List.mem_of_getElem? hj))
      have hm : (reps n z.cells.toList).toArray = madeCells z.cells (n * sz) := by
        rw [← hsi, ← hzs, ← madeCells_reps]
      rw [hm] at g1
      refine ⟨row, .sl n n, rfl, rfl, fun w => ?_⟩
      have hrun := run_bslice (w := w) (undT_eq ht) hsz' hzz hcm g1
      obtain ⟨h1, h2, h3⟩ := heap_push w (.cells zs'.toArray e)
      refine ⟨.slice (some ⟨w.heap.size, 0, none⟩) n n, w.alloc (.cells zs'.toArray e), zs'.toArray.size, ?_, h3, rfl, rfl, rfl, h1, (rowOf_at hrow (v := .agg zs'.toArray) ⟨_, rfl, g2, allOne_of g3⟩ (pad := []) h2 (by simp [Value.cells]) rfl (frok0 _) (fun _ => rfl) rfl), fun ρ' i hi => ⟨_, hi, rfl, Nat.le_refl _⟩⟩
      unfold execOp
      rw [ho]
      have e1 : ps.map (fun x => match x with | (i, x) => (i, a.eval x)) = (ps.toList.map fun p => (p.1, a.eval p.2)).toArray := by
        apply Array.ext'
        simp
      simp only [e1, Sem.run_bind, hrun, Result.andThen_ok, Sem.run_pure]
  · cases h
end
end Go.Ev
set_option linter.unusedVariables false
set_option linter.unusedSimpArgs false
namespace Go.Ev
open Go Go.Fw

section
variable {P : Program} {o : Oper} {a : Act} {w : World} {f : F} {s s' : S} {ρ : Rho} {N : Nat} {r : AV}
theorem lenA_run {x : AV} {u : Value} {n : Nat} (h : lenA x = some n) (hv : RV ρ x u) : (Builtin.lenOf u).run P w = .ok n w := by
  cases x with
  | str m c =>
    injection h with h
    subst h
    obtain ⟨b, rfl, hb, _⟩ := hv
    have hbs : b.size = m := by
      show b.data.size = m
      rw [← Array.length_toList, hb, byL_len]
    simp [Builtin.lenOf, hbs]
  | slN =>
    injection h with h
    subst h
    rw [show u = _ from hv]
    rfl
  | sl i o m c =>
    injection h with h
    subst h
    obtain ⟨A', c', p, rfl, _⟩ := hv.sl_
    rfl
  | _ => cases h
theorem first0 {x : AV} {u : Value} {n z : Nat} (h : lenA x = some n) (hv : RV ρ x u) : (Builtin.firstCells z 0 u).run P w = .ok #[] w := by
  cases x with
  | str m c =>
    obtain ⟨b, rfl, hb, _⟩ := hv
    simp [Builtin.firstCells]
  | slN =>
    rw [show u = _ from hv]
    rfl
  | sl i o m c =>
    obtain ⟨A', c', p, rfl, _⟩ := hv.sl_
    exact run_firstCells_some (P := P) w z 0 A' m c' [] (by simp) (fun j u hj => by simp at hj)
  | _ => cases h
theorem srcA_run {x v : AV} {u : Value} {z k : Nat} (h : srcA s x z k = some v) (hv : RV ρ x u) (hl : Rel ρ s w) : ∃ cs : Array Value, (∀ w2 : World, w2.heap = w.heap → (Builtin.firstCells z k u).run P w2 = .ok cs w2) ∧ RV ρ v (.agg cs) := by
  unfold srcA at h
  split at h
  · rename_i n c
    rw [cble] at h
    split at h
    · rename_i hk
      injection h with h
      subst h
      obtain ⟨b, rfl, hb, hc⟩ := hv
      refine ⟨(b.extract 0 k).data.map fun b => .int .u8 b.toNat, fun _ _ => rfl, ?_, bSub_lt _ _ _⟩
      rw [byL_sub (n := n) (show 0 + k ≤ n by omega), List.drop_zero, ← hb]
      congr 1
      apply Array.ext'
      simp [ByteArray.data_extract, List.extract_eq_take_drop]
      rfl
    · cases h
  · rw [cbeq] at h
    split at h
    · injection h with h
      subst h
      rw [show u = _ from hv]
      exact ⟨#[], fun _ _ => rfl, #[], rfl, rfl, rfl⟩
    · cases h
  · rename_i i q n c
    rw [cble] at h
    split at h
    · rename_i hk
      simp only [Option.bind_eq_some_iff] at h
      obtain ⟨row, hrow, h⟩ := h
      have hnd : row ≠ .dead := by rintro rfl; cases h
      obtain ⟨A, c', p, rfl, hn, hp, hA⟩ := hv.sl_
      obtain ⟨p', hp', hra⟩ := hl.row i row hrow hnd
      rw [hp] at hp'
      injection hp' with hp'
      subst hp'
      obtain ⟨vs, hlen, hcs, hru⟩ := hra.cells_ h
      refine ⟨vs.toArray, fun w2 hw2 => ?_, hru⟩
      by_cases h0 : 0 < n
      · rw [hA h0]
        exact run_firstCells_some (P := P) w2 z k ⟨p.b, p.o + q, none⟩ n c' vs hlen (fun j u hj => by rw [Addr.add_lit]; have := hcs j u hj; unfold World.cell? at this ⊢; rw [hw2]; exact this)
      · have hk0 : k = 0 := by omega
        subst hk0
        have hv0 : vs = [] := List.length_eq_zero_iff.1 (by rw [hlen]; show 0 * z = 0; omega)
        subst hv0
        exact run_firstCells_some (P := P) w2 z 0 A n c' [] (by simp) (fun j u hj => by simp at hj)
    · cases h
  · cases h
theorem copyA_run {t : Nat} {x y : AV} {u v : Value} {T : Array TypeId} {A : Array Value} {ty : TypeId} (h : copyA P t x y s = some (r, s')) (hu : RV ρ x u) (hv : RV ρ y v) (hl : Rel ρ s w) (hT : T[0]? = some t) (hA : A[0]? = some u) (hA1 : A[1]? = some v) :
    ∃ z w', (Builtin.copy_ T ty A).run P w = .ok z w' ∧ RV ρ r z ∧ Goes ρ s w ρ s' w' := by
  unfold copyA at h
  split at h
  · rename_i e ht
    simp only [Option.bind_eq_some_iff] at h
    obtain ⟨z, hz, k, hk, h⟩ := h
    have hk' := lenA_run (P := P) (w := w) hk hv
    cases x with
    | slN =>
      injection h with h
      injection h with h1 h2
      subst h1 h2
      have eu : u = .slice none 0 0 := hu
      refine ⟨.int .i64 (0 : Nat), w, ?_, rfl, Goes.refl hl⟩
      simp [Builtin.copy_, hT, hA, hA1, run_und (undT_eq ht), eu, hk', Fw.run_sizeOf (sizeT_eq hz), first0 (P := P) (w := w) (z := z) hk hv, goInt]
    | sl i o n c =>
      have hm : (bif Nat.ble k n then k else n) = min k n := by
        rw [cble]
        split <;> omega
      simp only [hm, cbeq] at h
      obtain ⟨B, c', p, rfl, hn, hp, hB⟩ := hu.sl_
      split at h
      · rename_i h0
        injection h with h
        injection h with h1 h2
        subst h1 h2
        refine ⟨.int .i64 (0 : Nat), w, ?_, rfl, Goes.refl hl⟩
        simp [Builtin.copy_, hT, hA, hA1, run_und (undT_eq ht), hk', Fw.run_sizeOf (sizeT_eq hz), h0, first0 (P := P) (w := w) (z := z) hk hv, goInt, storeCells]
      · rename_i h0
        simp only [Option.bind_eq_some_iff, Option.some.injEq, Prod.mk.injEq] at h
        obtain ⟨q, hq, s2, hs2, rfl, rfl⟩ := h
        obtain ⟨cs, hcs, hr⟩ := srcA_run (P := P) hq hv hl
        replace hcs := hcs w rfl
        obtain ⟨g1, g2⟩ := storeA_goes (P := P) hs2 hr hl hp
        have hB' := hB (by omega)
        subst hB'
        have g1' : (storeCells ⟨p.b, p.o + o, none⟩ cs.toList).run P w = .ok () (w.setCells p.b (p.o + o) cs.toList) := g1
        refine ⟨.int .i64 (min k n : Nat), _, ?_, rfl, g2⟩
        simp [Builtin.copy_, hT, hA, hA1, run_und (undT_eq ht), hk', Fw.run_sizeOf (sizeT_eq hz), hcs, g1', goInt, Value.cells]
    | _ => cases h
  · cases h
end
end Go.Ev
