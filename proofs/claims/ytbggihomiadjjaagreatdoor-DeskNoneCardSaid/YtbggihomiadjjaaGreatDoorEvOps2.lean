/- What is proved: the evaluator's operations on two operands are the model's. -/
import Derived.Test.YtbggihomiadjjaaGreatDoorEvOps
import Derived.Stop.BytesEq
import Derived.Laws.StructEq
set_option linter.unusedVariables false
set_option linter.unusedSimpArgs false
namespace Go.Ev
open Go Go.Fw

section
variable {P : Program} {o : Oper} {a : Act} {w : World} {f : F} {s s' : S} {ρ : Rho} {N : Nat} {r : AV}
/-! ### Whole numbers, texts, comparisons -/
theorem unN_eq (k : IntKind) (x : Int) : unN k x = (BitVec.ofInt k.bits x).toNat := by
  have h := uMod_eq (kMod_pos k) x
  rw [BitVec.toNat_ofInt, unN]
  rw [kMod_eq] at h ⊢
  omega
theorem wr_rv {k : IntKind} {n : Int} : RV ρ (wr k n) (.int k (k.wrap n)) := by rw [wr_eq]; exact rfl
theorem int_bin {op : BinOp} {k : IntKind} {x y : Int} {t : TypeId} {r : AV} (h : intOp op k x y = some r) : ∃ v, (∀ w, (binOp op t (.int k x) (.int k y)).run P w = .ok v w) ∧ RV ρ r v := by
  cases op <;> simp only [intOp, bits2, cmp1, Option.some.injEq] at h
  case add => subst h; exact ⟨.int k (k.wrap (x + y)), fun w => by simp [binOp, Op.intArith], wr_rv⟩
  case sub => subst h; exact ⟨.int k (k.wrap (x - y)), fun w => by simp [binOp, Op.intArith], wr_rv⟩
  case mul => subst h; exact ⟨.int k (k.wrap (x * y)), fun w => by simp [binOp, Op.intArith], wr_rv⟩
  case quo =>
    unfold divOp at h
    rw [iEq_dec] at h
    by_cases hy : y = 0
    · rw [hy] at h; cases h
    · rw [decide_eq_false hy] at h
      injection h with h
      subst h
      exact ⟨.int k (k.wrap (x.tdiv y)), fun w => by simp [binOp, Op.intDiv, hy], wr_rv⟩
  case rem =>
    unfold divOp at h
    rw [iEq_dec] at h
    by_cases hy : y = 0
    · rw [hy] at h; cases h
    · rw [decide_eq_false hy] at h
      injection h with h
      subst h
      exact ⟨_, fun w => by simp [binOp, Op.intDiv, hy], rfl⟩
  case and =>
    subst h
    refine ⟨.int k (k.wrap ((BitVec.ofInt k.bits x &&& BitVec.ofInt k.bits y).toNat : Int)), fun w => by simp [binOp, Op.intBits], ?_⟩
    rw [BitVec.toNat_and, ← unN_eq, ← unN_eq]
    exact wr_rv
  case or =>
    subst h
    refine ⟨.int k (k.wrap ((BitVec.ofInt k.bits x ||| BitVec.ofInt k.bits y).toNat : Int)), fun w => by simp [binOp, Op.intBits], ?_⟩
    rw [BitVec.toNat_or, ← unN_eq, ← unN_eq]
    exact wr_rv
  case xor =>
    subst h
    refine ⟨.int k (k.wrap ((BitVec.ofInt k.bits x ^^^ BitVec.ofInt k.bits y).toNat : Int)), fun w => by simp [binOp, Op.intBits], ?_⟩
    rw [BitVec.toNat_xor, ← unN_eq, ← unN_eq]
    exact wr_rv
  case andNot =>
    subst h
    refine ⟨.int k (k.wrap ((BitVec.ofInt k.bits x &&& ~~~ BitVec.ofInt k.bits y).toNat : Int)), fun w => by simp [binOp, Op.intBits], ?_⟩
    have e : BitVec.ofInt k.bits x &&& ~~~ BitVec.ofInt k.bits y = BitVec.ofInt k.bits x ^^^ (BitVec.ofInt k.bits x &&& BitVec.ofInt k.bits y) := by
      apply BitVec.eq_of_getElem_eq
      intro i hi
      simp only [BitVec.getElem_and, BitVec.getElem_not, BitVec.getElem_xor]
      cases (BitVec.ofInt k.bits x)[i] <;> cases (BitVec.ofInt k.bits y)[i] <;> rfl
    rw [e, BitVec.toNat_xor, BitVec.toNat_and, ← unN_eq, ← unN_eq]
    exact wr_rv
  case shl => cases h
  case shr => cases h
  case eql => subst h; exact ⟨_, fun w => by simp [binOp, Op.intCmp]; rfl, by rw [iEq_dec]; rfl⟩
  case neq => subst h; exact ⟨_, fun w => by simp [binOp, Op.intCmp]; rfl, by rw [iEq_dec]; rfl⟩
  case lss => subst h; exact ⟨_, fun w => by simp [binOp, Op.intCmp]; rfl, by rw [iLt_dec]; rfl⟩
  case leq => subst h; exact ⟨_, fun w => by simp [binOp, Op.intCmp]; rfl, by rw [iLt_dec, ← decide_not]; show _ = Value.bool _; congr 1; exact decide_eq_decide.2 Int.not_lt.symm⟩
  case gtr => subst h; exact ⟨_, fun w => by simp [binOp, Op.intCmp]; rfl, by rw [iLt_dec]; rfl⟩
  case geq => subst h; exact ⟨_, fun w => by simp [binOp, Op.intCmp]; rfl, by rw [iLt_dec, ← decide_not]; show _ = Value.bool _; congr 1; exact decide_eq_decide.2 Int.not_lt.symm⟩
theorem sh_bin {b : Bool} {k j : IntKind} {x y : Int} {t : TypeId} {r : AV} (h : shOp b k x y = some r) : ∃ v, (∀ w, (binOp (if b then .shl else .shr) t (.int k x) (.int j y)).run P w = .ok v w) ∧ RV ρ r v := by
  cases y with
  | negSucc m => cases h
  | ofNat m =>
    have hb : kBits k = k.bits := by cases k <;> rfl
    have hmin : (bif Nat.ble (kBits k) m then kBits k else m) = min m k.bits := by
      rw [cble, hb]
      split <;> omega
    simp only [shOp, hmin] at h
    have hy : ¬ ((Int.ofNat m) < 0) := by simp
    have hn : (Int.ofNat m).toNat = m := rfl
    cases b with
    | true =>
      injection h with h
      subst h
      refine ⟨.int k (k.wrap (x * 2 ^ (min m k.bits))), ?_, ?_⟩
      · intro w
        show (Op.shift .shl k x j (Int.ofNat m)).run P w = _
        simp [Op.shift, hy, hn]
        exact fun h => absurd h (by omega)
      · cases x with
        | ofNat a =>
          show RV ρ (wr k (.ofNat (a <<< (min m k.bits)))) _
          rw [wr_eq, Nat.shiftLeft_eq]
          show Value.int k _ = _
          simp
        | negSucc a =>
          show RV ρ (wr k (Int.mul (.negSucc a) (.ofNat (2 ^ (min m k.bits))))) _
          rw [wr_eq]
          show Value.int k (k.wrap (Int.negSucc a * ((2 ^ min m k.bits : Nat) : Int))) = _
          simp
    | false =>
      injection h with h
      subst h
      refine ⟨.int k (x.fdiv (2 ^ (min m k.bits))), ?_, ?_⟩
      · intro w
        show (Op.shift .shr k x j (Int.ofNat m)).run P w = _
        simp [Op.shift, hy, hn]
        exact fun h => absurd h (by omega)
      · have e : (2 : Int) ^ (min m k.bits) = ((2 ^ (min m k.bits) : Nat) : Int) := by simp
        rw [e]
        cases x with
        | ofNat a =>
          show Value.int k _ = Value.int k (.ofNat (a >>> (min m k.bits)))
          rw [Nat.shiftRight_eq_div_pow]
          congr 1
          exact (Int.ofNat_fdiv a _).symm
        | negSucc a =>
          show Value.int k _ = Value.int k (.negSucc (a >>> (min m k.bits)))
          rw [Nat.shiftRight_eq_div_pow]
          congr 1
          have hp := Nat.two_pow_pos (min m k.bits)
          generalize 2 ^ (min m k.bits) = q at hp
          cases q with
          | zero => omega
          | succ q => rfl
/-! ### Texts -/
theorem bLess_eq : ∀ (f n c m d i : Nat), i ≤ n → i ≤ m → n ≤ f + i → bLess n c m d f i = Op.bytesLess ((byL n c).drop i) ((byL m d).drop i)
  | 0, n, c, m, d, i, h1, h2, h3 => by
    rw [bLess, blt_dec]
    have : i = n := by omega
    subst this
    rw [List.drop_of_length_le (by rw [byL_len]; exact Nat.le_refl _)]
    cases hd : (byL m d).drop i with
    | nil =>
      have := congrArg List.length hd
      rw [List.length_drop, byL_len, List.length_nil] at this
      rw [decide_eq_false (by omega)]
      rfl
    | cons x l =>
      have := congrArg List.length hd
      rw [List.length_drop, byL_len, List.length_cons] at this
      rw [decide_eq_true (by omega)]
      rfl
  | f + 1, n, c, m, d, i, h1, h2, h3 => by
    rw [bLess]
    have e1 : (Nat.ble n i || Nat.ble m i) = decide (n ≤ i ∨ m ≤ i) := by
      rw [ble_dec, ble_dec]
      simp
    rw [e1]
    by_cases he : n ≤ i ∨ m ≤ i
    · rw [decide_eq_true he, cond_true, blt_dec]
      rcases he with he | he
      · have : i = n := by omega
        subst this
        rw [List.drop_of_length_le (l := byL i c) (by rw [byL_len]; exact Nat.le_refl _)]
        cases hd : (byL m d).drop i with
        | nil =>
          have := congrArg List.length hd
          rw [List.length_drop, byL_len, List.length_nil] at this
          rw [decide_eq_false (by omega)]
          rfl
        | cons x l =>
          have := congrArg List.length hd
          rw [List.length_drop, byL_len, List.length_cons] at this
          rw [decide_eq_true (by omega)]
          rfl
      · have : i = m := by omega
        subst this
        rw [List.drop_of_length_le (l := byL i d) (by rw [byL_len]; exact Nat.le_refl _), decide_eq_false (by omega)]
        cases (byL n c).drop i <;> rfl
    · rw [decide_eq_false he, cond_false]
      have hn : i < n := by omega
      have hm : i < m := by omega
      have d1 : (byL n c).drop i = UInt8.ofNat (bAt c i) :: (byL n c).drop (i + 1) := by
        rw [List.drop_eq_getElem_cons (by rw [byL_len]; exact hn)]
        congr 1
        have := byL_get n c i hn
        rw [List.getElem?_eq_getElem (by rw [byL_len]; exact hn)] at this
        exact Option.some.inj this
      have d2 : (byL m d).drop i = UInt8.ofNat (bAt d i) :: (byL m d).drop (i + 1) := by
        rw [List.drop_eq_getElem_cons (by rw [byL_len]; exact hm)]
        congr 1
        have := byL_get m d i hm
        rw [List.getElem?_eq_getElem (by rw [byL_len]; exact hm)] at this
        exact Option.some.inj this
      rw [d1, d2, Op.bytesLess, ← bLess_eq f n c m d (i + 1) hn hm (by omega), cblt, cblt]
      have b1 := bAt_lt c i
      have b2 := bAt_lt d i
      have n1 : (UInt8.ofNat (bAt c i)).toNat = bAt c i := by rw [UInt8.toNat_ofNat', Nat.mod_eq_of_lt b1]
      have n2 : (UInt8.ofNat (bAt d i)).toNat = bAt d i := by rw [UInt8.toNat_ofNat', Nat.mod_eq_of_lt b2]
      by_cases c1 : bAt c i < bAt d i
      · rw [if_pos c1]
        have : UInt8.ofNat (bAt c i) < UInt8.ofNat (bAt d i) := by rw [UInt8.lt_iff_toNat_lt, n1, n2]; exact c1
        simp [this]
      · rw [if_neg c1]
        have : ¬ UInt8.ofNat (bAt c i) < UInt8.ofNat (bAt d i) := by rw [UInt8.lt_iff_toNat_lt, n1, n2]; exact c1
        by_cases c2 : bAt d i < bAt c i
        · rw [if_pos c2]
          have hne : ¬ UInt8.ofNat (bAt c i) = UInt8.ofNat (bAt d i) := fun e => by
            have := congrArg UInt8.toNat e
            rw [n1, n2] at this
            omega
          simp [this, hne]
        · rw [if_neg c2]
          have heq : bAt c i = bAt d i := by omega
          simp [heq]
theorem str_bin {op : BinOp} {n c m d : Nat} {u v : Value} {t : TypeId} {r : AV} (h : strOp op n c m d = some r) (hu : RV ρ (.str n c) u) (hv : RV ρ (.str m d) v) : ∃ x, (∀ w, (binOp op t u v).run P w = .ok x w) ∧ RV ρ r x := by
  obtain ⟨p, rfl, hp, hp'⟩ := hu
  obtain ⟨q, rfl, hq, hq'⟩ := hv
  have lp : p.size = n := by show p.data.size = n; rw [← Array.length_toList, hp, byL_len]
  have lq : q.size = m := by show q.data.size = m; rw [← Array.length_toList, hq, byL_len]
  have tp : p.toList = byL n c := by rw [ByteArray.toList_eq, hp]
  have tq : q.toList = byL m d := by rw [ByteArray.toList_eq, hq]
  have heq : (p.toList == q.toList) = (Nat.beq n m && Nat.beq c d) := by
    rw [tp, tq, beq_dec, beq_dec, Bool.eq_iff_iff]
    simp only [beq_iff_eq, Bool.and_eq_true, decide_eq_true_eq]
    constructor
    · intro e
      have hnm := congrArg List.length e
      rw [byL_len, byL_len] at hnm
      subst hnm
      exact ⟨rfl, byL_inj hp' hq' e⟩
    · rintro ⟨rfl, rfl⟩
      rfl
  have hlt : Op.bytesLess p.toList q.toList = bLess n c m d n 0 := by
    rw [bLess_eq n n c m d 0 (Nat.zero_le _) (Nat.zero_le _) (Nat.le_refl _), List.drop_zero, List.drop_zero, tp, tq]
  have hgt : Op.bytesLess q.toList p.toList = bLess m d n c m 0 := by
    rw [bLess_eq m m d n c 0 (Nat.zero_le _) (Nat.zero_le _) (Nat.le_refl _), List.drop_zero, List.drop_zero, tp, tq]
  cases op <;> simp only [strOp] at h
  case add =>
    rw [cble] at h
    split at h
    · rename_i hfit
      have hfit' : n + m ≤ 9223372036854775807 := hfit
      injection h with h
      subst h
      refine ⟨.string (p ++ q), ?_, p ++ q, rfl, ?_, bCat_lt hp' hq'⟩
      · intro w
        simp only [binOp, Op.stringOp, lp, lq]
        rw [if_neg (by simp only [IntKind.max, IntKind.signed, IntKind.bits]; simp; omega)]
        rfl
      · show (p ++ q).data.toList = byL (n + m) (bCat n c d)
        rw [byL_cat n m c d hp', ← hp, ← hq]
        simp [ByteArray.data_append]
    · cases h
  case eql =>
    injection h with h
    subst h
    exact ⟨_, fun w => by simp only [binOp, Op.stringOp, heq]; rfl, rfl⟩
  case neq =>
    injection h with h
    subst h
    exact ⟨_, fun w => by simp only [binOp, Op.stringOp, heq]; rfl, rfl⟩
  case lss =>
    injection h with h
    subst h
    exact ⟨_, fun w => by simp only [binOp, Op.stringOp, hlt]; rfl, rfl⟩
  case leq =>
    injection h with h
    subst h
    exact ⟨_, fun w => by simp only [binOp, Op.stringOp, hlt, heq]; rfl, rfl⟩
  case gtr =>
    injection h with h
    subst h
    exact ⟨_, fun w => by simp only [binOp, Op.stringOp, hlt, heq]; rfl, rfl⟩
  case geq =>
    injection h with h
    subst h
    exact ⟨_, fun w => by simp only [binOp, Op.stringOp, hlt]; rfl, rfl⟩
  all_goals cases h
/-! ### Two operands -/
/-- What a comparison gives. -/
structure EqR (P : Program) (t : TypeId) (u v : Value) (b : Bool) : Prop where
  g : ∀ op x y w, (eqGuard op t x y u v).run P w = .ok () w
  e : ∀ w, (binOp .eql t u v).run P w = .ok (.bool b) w
  n : ∀ w, (binOp .neq t u v).run P w = .ok (.bool (!b)) w
theorem EqR.mk' {t : TypeId} {u v : Value} {b : Bool} (hg : ∀ op x y w, (eqGuard op t x y u v).run P w = .ok () w) (h1 : binOp .eql t u v = (do pure (.bool (← Op.equal t u v)))) (h2 : binOp .neq t u v = (do pure (.bool (!(← Op.equal t u v)))))
    (he : ∀ w, (Op.equalIn (9999 + 1) t u v).run P w = .ok b w) : EqR P t u v b := by
  have he' : ∀ w, (Op.equal t u v).run P w = .ok b w := he
  exact ⟨hg, fun w => by rw [h1]; simp only [Sem.run_bind, he', Result.andThen_ok, Sem.run_pure], fun w => by rw [h2]; simp only [Sem.run_bind, he', Result.andThen_ok, Sem.run_pure]⟩
theorem isU8_eq {e : Nat} (h : isU8 P e = true) : P.underlying e = some (.int .u8) := by
  unfold isU8 at h
  split at h
  · rename_i ht
    exact undT_eq ht
  · cases h
theorem eqA_run {t : TypeId} {x y : AV} {u v : Value} {b : Bool} (h : eqA P t x y = some b) (hu : RV ρ x u) (hv : RV ρ y v) : EqR P t u v b := by
  unfold eqA at h
  split at h <;> first | (injection h with h; subst h) | skip
  · rename_i p q ht
    rw [show u = _ from hu, show v = _ from hv]
    refine EqR.mk' (fun op x y w => by unfold eqGuard; split <;> rfl) rfl rfl fun w => ?_
    unfold Op.equalIn
    cases p <;> cases q <;> simp [run_und (undT_eq ht)]
  · rename_i e ht
    rw [show u = _ from hu, show v = _ from hv]
    refine EqR.mk' (fun op x y w => by unfold eqGuard; split <;> rfl) rfl rfl fun w => ?_
    unfold Op.equalIn
    simp [run_und (undT_eq ht)]
  · rename_i e i j ht
    obtain ⟨p, _, rfl⟩ := hv
    rw [show u = _ from hu]
    refine EqR.mk' (fun op x y w => by unfold eqGuard; split <;> rfl) rfl rfl fun w => ?_
    unfold Op.equalIn
    simp [run_und (undT_eq ht)]
  · rename_i e i j ht
    obtain ⟨p, _, rfl⟩ := hu
    rw [show v = _ from hv]
    refine EqR.mk' (fun op x y w => by unfold eqGuard; split <;> rfl) rfl rfl fun w => ?_
    unfold Op.equalIn
    simp [run_und (undT_eq ht)]
  · rename_i e ht
    rw [show u = _ from hu, show v = _ from hv]
    refine EqR.mk' (fun op x y w => by unfold eqGuard; split <;> rfl) rfl rfl fun w => ?_
    unfold Op.equalIn
    simp [run_und (undT_eq ht)]
  · rename_i e i j n c ht
    obtain ⟨A, n', c', rfl⟩ : ∃ A n' c', v = .slice (some A) n' c' := by
      cases c with
      | u z => obtain ⟨p, A, c', _, rfl, _⟩ := hv; exact ⟨_, _, _, rfl⟩
      | k c => obtain ⟨p, _, rfl, _⟩ := hv; exact ⟨_, _, _, rfl⟩
    rw [show u = _ from hu]
    refine EqR.mk' (fun op x y w => by unfold eqGuard; split <;> rfl) rfl rfl fun w => ?_
    unfold Op.equalIn
    simp [run_und (undT_eq ht)]
  · rename_i e i j n c ht
    obtain ⟨A, n', c', rfl⟩ : ∃ A n' c', u = .slice (some A) n' c' := by
      cases c with
      | u z => obtain ⟨p, A, c', _, rfl, _⟩ := hu; exact ⟨_, _, _, rfl⟩
      | k c => obtain ⟨p, _, rfl, _⟩ := hu; exact ⟨_, _, _, rfl⟩
    rw [show v = _ from hv]
    refine EqR.mk' (fun op x y w => by unfold eqGuard; split <;> rfl) rfl rfl fun w => ?_
    unfold Op.equalIn
    simp [run_und (undT_eq ht)]
  · rename_i ht
    rw [show u = _ from hu, show v = _ from hv]
    refine EqR.mk' (fun op x y w => by unfold eqGuard; split <;> rfl) rfl rfl fun w => ?_
    unfold Op.equalIn
    simp [run_und (undT_eq ht)]
  · rename_i ht
    obtain ⟨f', c', rfl, _⟩ := hv
    rw [show u = _ from hu]
    refine EqR.mk' (fun op x y w => by unfold eqGuard; split <;> rfl) rfl rfl fun w => ?_
    unfold Op.equalIn
    simp [run_und (undT_eq ht)]
  · rename_i ht
    obtain ⟨f', c', rfl, _⟩ := hu
    rw [show v = _ from hv]
    refine EqR.mk' (fun op x y w => by unfold eqGuard; split <;> rfl) rfl rfl fun w => ?_
    unfold Op.equalIn
    simp [run_und (undT_eq ht)]
  · rename_i ht
    obtain ⟨w', rfl, _⟩ := hv
    rw [show u = _ from hu]
    refine EqR.mk' (fun op x y w => by unfold eqGuard; split <;> rfl) rfl rfl fun w => ?_
    unfold Op.equalIn
    simp [run_und (undT_eq ht)]
  · rename_i ht
    obtain ⟨w', rfl, _⟩ := hu
    rw [show v = _ from hv]
    refine EqR.mk' (fun op x y w => by unfold eqGuard; split <;> rfl) rfl rfl fun w => ?_
    unfold Op.equalIn
    simp [run_und (undT_eq ht)]
  · rename_i n e m c k d ht
    cases hc : eqBag P t n e m k with
    | false => rw [hc] at h; cases h
    | true =>
      rw [hc] at h
      injection h with h
      subst h
      simp only [eqBag, Bool.and_eq_true] at hc
      obtain ⟨h1, h2, h3, h4, h5⟩ := hc
      have hm := Nat.eq_of_beq_eq_true h3
      have hk := Nat.eq_of_beq_eq_true h4
      subst hm
      subst hk
      have hq : P.eqGuardType P.depth t = false := by simpa using h5
      have hz : (P.info? e).map (·.size) = some 1 := by
        cases hs : sizeT P e with
        | none => rw [hs] at h2; cases h2
        | some z => rw [hs] at h2; rw [sizeT_eq hs, Nat.eq_of_beq_eq_true h2]
      obtain ⟨rfl, hcb⟩ := hu
      obtain ⟨rfl, hdb⟩ := hv
      have hb : Nat.beq c d = (byL k c == byL k d) := by
        rw [beq_dec, Bool.eq_iff_iff]
        simp only [decide_eq_true_eq, beq_iff_eq]
        exact ⟨fun e => by rw [e], fun e => byL_inj hcb hdb e⟩
      rw [hb]
      refine EqR.mk' (fun op x y w => ?_) rfl rfl fun w => ?_
      · cases op <;> simp [eqGuard, hq]
      · exact run_equalIn_bytes (P := P) w 9998 t e k (undT_eq ht) (isU8_eq h1) (fun w => Fw.run_sizeOf hz w) (byL k c) (byL k d) (byL_len _ _) (byL_len _ _)
  · cases h
theorem kNo_inj : ∀ {k j : IntKind}, kNo k = kNo j → k = j := by
  intro k j
  cases k <;> cases j <;> simp [kNo]
theorem intB_run {op : BinOp} {k j : IntKind} {p q : Int} {t : TypeId} {r : AV} (h : intB op k j p q = some r) : ∃ v, (∀ w, (binOp op t (.int k p) (.int j q)).run P w = .ok v w) ∧ RV ρ r v := by
  have gen : ∀ op, (bif Nat.beq (kNo k) (kNo j) then intOp op k p q else none) = some r → ∃ v, (∀ w, (binOp op t (.int k p) (.int j q)).run P w = .ok v w) ∧ RV ρ r v := fun op g => by
    rw [cbeq] at g
    split at g
    · rename_i e
      have := kNo_inj e
      subst this
      exact int_bin g
    · cases g
  cases op <;> first | exact gen _ h | exact sh_bin (b := true) h | exact sh_bin (b := false) h
theorem op_bin {op : BinOp} {t t' : Nat} {x y : Operand} (ho : o.op = .binOp op t x y t') (h : oBin P f s op t x y = some (r, s')) (hF : FO ρ f a o) : OpG P o a ρ s r s' := by
  simp only [oBin, Option.bind_eq_some_iff] at h
  obtain ⟨u, hu, v, hv, h⟩ := h
  have h2 := ret1_some h
  clear h
  obtain ⟨h, rfl⟩ := h2
  have hu' := hF.opd (by rw [ho]; simp [Op.operands]) hu
  have hv' := hF.opd (by rw [ho]; simp [Op.operands]) hv
  have fin : ∀ z, (∀ w, (eqGuard op t x y (a.eval x) (a.eval y)).run P w = .ok () w) → (∀ w, (binOp op t (a.eval x) (a.eval y)).run P w = .ok z w) → RV ρ r z → OpG P o a ρ s' r s' := fun z g1 g2 g3 => by
    refine OpG.gv (fun w => ?_) g3
    unfold Gv execOp
    rw [ho]
    simp only [Sem.run_bind, g1, Result.andThen_ok, g2, Sem.run_pure]
  unfold binA at h
  split at h
  · rename_i k p j q
    have e1 : a.eval x = .int k p := hu'
    have e2 : a.eval y = .int j q := hv'
    obtain ⟨z, hz, hr⟩ := intB_run (P := P) (ρ := ρ) (t := t) h
    refine fin z (fun w => ?_) (fun w => by rw [e1, e2]; exact hz w) hr
    rw [e1, e2]
    unfold eqGuard; split <;> rfl
  · rename_i n c m d
    obtain ⟨z, hz, hr⟩ := str_bin (P := P) (ρ := ρ) (t := t) h hu' hv'
    refine fin z (fun w => ?_) hz hr
    obtain ⟨_, e1, _⟩ := hu'
    obtain ⟨_, e2, _⟩ := hv'
    rw [e1, e2]
    unfold eqGuard; split <;> rfl
  · unfold eqOp at h
    split at h
    · simp only [Option.bind_eq_some_iff, Option.some.injEq] at h
      obtain ⟨b, hb, rfl⟩ := h
      have hq := eqA_run hb hu' hv'
      exact fin _ (hq.g _ _ _) hq.e rfl
    · simp only [Option.bind_eq_some_iff, Option.some.injEq] at h
      obtain ⟨b, hb, rfl⟩ := h
      have hq := eqA_run hb hu' hv'
      exact fin _ (hq.g _ _ _) hq.n rfl
    · cases h
theorem op_un {op : UnOp} {t : Nat} {x : Operand} (ho : o.op = .unOp op t x) (h : oUn f s op x = some (r, s')) (hF : FO ρ f a o) : OpG P o a ρ s r s' := by
  simp only [oUn, Option.bind_eq_some_iff] at h
  obtain ⟨u, hu, h⟩ := h
  have h2 := ret1_some h
  clear h
  obtain ⟨h, rfl⟩ := h2
  have hu' := hF.opd (by rw [ho]; simp [Op.operands]) hu
  unfold unA at h
  split at h
  · rename_i k n
    injection h with h
    subst h
    have e : a.eval x = .int k n := hu'
    refine OpG.gv (v := .int k (k.wrap (-n))) (fun w => ?_) wr_rv
    unfold Gv execOp
    rw [ho]
    simp [e, Op.unary, Op.intArith]
  · rename_i k n
    injection h with h
    subst h
    have e : a.eval x = .int k n := hu'
    refine OpG.gv (v := .int k (k.wrap ((BitVec.ofInt k.bits (if k.signed then -1 else k.max) ^^^ BitVec.ofInt k.bits n).toNat : Int))) (fun w => ?_) ?_
    · unfold Gv execOp
      rw [ho]
      simp [e, Op.unary, Op.intBits]
    · have e1 : BitVec.ofInt k.bits (if k.signed then -1 else k.max) = BitVec.allOnes k.bits := by cases k <;> decide
      rw [e1, BitVec.allOnes_xor, BitVec.toNat_not, ← unN_eq, ← kMod_eq]
      exact wr_rv
  · rename_i b
    injection h with h
    subst h
    have e : a.eval x = .bool b := hu'
    refine OpG.gv (v := .bool (!b)) (fun w => ?_) rfl
    unfold Gv execOp
    rw [ho]
    simp [e, Op.unary]
  · cases h
end
end Go.Ev
