/- What is proved: the two tables of package digest, that the row lists, lie in memory as the evaluator has them. -/
import Derived.Test.YtbggihomiadjjaaGreatDoorRows
import Derived.Test.YtbggihomiadjjaaGreatDoorFwLaid
import Derived.Test.YtbggihomiadjjaaGreatDoorEvEnd
import Derived.KernelRfl
set_option linter.unusedVariables false
set_option linter.unusedSimpArgs false
namespace Go.Proofs.YtbggihomiadjjaaGreatDoor
open Go Go.RowKit Go.Fw Go.Ev

def stL : List UInt64 := [7640891576956012808, 13503953896175478587, 4354685564936845355, 11912009170470909681, 5840696475078001361, 11170449401992604703, 2270897969802886507, 6620516959819538809]
def spL : List UInt64 := [4794697086780616226, 8158064640168781261, 13096744586834688815, 16840607885511220156, 4131703408338449720, 6480981068601479193, 10538285296894168987, 12329834152419229976, 15566598209576043074, 1334009975649890238, 2608012711638119052, 6128411473006802146, 8268148722764581231, 9286055187155687089, 11230858885718282805, 13951009754708518548, 16472876342353939154, 17275323862435702243, 1135362057144423861, 2597628984639134821, 3308224258029322869, 5365058923640841347, 6679025012923562964, 8573033837759648693, 10970295158949994411, 12119686244451234320, 12683024718118986047, 13788192230050041572, 14330467153632333762, 15395433587784984357, 489312712824947311, 1452737877330783856, 2861767655752347644, 3322285676063803686, 5560940570517711597, 5996557281743188959, 7280758554555802590, 8532644243296465576, 9350256976987008742, 10552545826968843579, 11727347734174303076, 12113106623233404929, 14000437183269869457, 14369950271660146224, 15101387698204529176, 15463397548674623760, 17586052441742319658, 1182934255886127544, 1847814050463011016, 2177327727835720531, 2830643537854262169, 3796741975233480872, 4115178125766777443, 5681478168544905931, 6601373596472566643, 7507060721942968483, 8399075790359081724, 8693463985226723168, 9568029438360202098, 10144078919501101548, 10430055236837252648, 11840083180663258601, 13761210420658862357, 14299343276471374635, 14566680578165727644, 15097957966210449927, 16922976911328602910, 17689382322260857208, 500013540394364858, 748580250866718886, 1242879168328830382, 1977374033974150939, 2944078676154940804, 3659926193048069267, 4368137639120453308, 4836135668995329356, 5532061633213252278, 6448918945643986474, 6902733635092675308, 7801388544844847127]
def rowU (l : List UInt64) : Row := .cells 0 true (l.map fun x => .int .u64 (Int.ofNat x.toNat))
noncomputable def s0 : S := ⟨((T.full 13).set 0 (rowU stL)).set 1 (rowU spL), 1000⟩
abbrev laidL : List (String × DataW Unit) := [("tabulary/digest.steps", Rows.laid_tabulary_digest_steps), ("tabulary/digest.starts", Rows.laid_tabulary_digest_starts), ("unicode/utf8.acceptRanges", Rows.laid_unicode_utf8_acceptRanges), ("unicode/utf8.first", Rows.laid_unicode_utf8_first)]
theorem gSteps : Tryz.prog.globalNamed "tabulary/digest.steps" = some 1 := by kernel_rfl
theorem gStarts : Tryz.prog.globalNamed "tabulary/digest.starts" = some 0 := by kernel_rfl
theorem tSteps : (Tryz.prog.globals[1]?).map (·.type) = some 240 := by kernel_rfl
theorem tStarts : (Tryz.prog.globals[0]?).map (·.type) = some 236 := by kernel_rfl
theorem eSteps {H : Type} : (Rows.laid_tabulary_digest_steps : DataW H) = .agg (spL.map fun x => .lit (.int .u64 (x.toNat : Int))) := by kernel_rfl
theorem eStarts {H : Type} : (Rows.laid_tabulary_digest_starts : DataW H) = .agg (stL.map fun x => .lit (.int .u64 (x.toNat : Int))) := by kernel_rfl
theorem rowU_at {ρ : Rho} {w : World} {g n : Nat} {l : List UInt64} {c : Array Value} {t : TypeId} (hb : w.heap[g]? = some (.cells c t (0, 0))) (hn : l.length = n) (h : ∀ i, i < n → c[i]? = some (vD (l.getD i 0))) : RowAt ρ w ⟨g, 0, c.size⟩ (rowU l) := by
  have hle : 0 + (l.map fun x => (AV.int .u64 (Int.ofNat x.toNat))).length ≤ c.size := by
    rw [List.length_map, Nat.zero_add, hn]
    apply Nat.le_of_not_lt
    intro hlt
    have := h c.size hlt
    rw [Array.getElem?_eq_none (Nat.le_refl _)] at this
    cases this
  refine ⟨c, t, (0, 0), hb, rfl, .inl rfl, hle, (fun h => by cases h), fun k v hv => ?_⟩
  rw [List.getElem?_map] at hv
  obtain ⟨x, hx, rfl⟩ := Option.map_eq_some_iff.1 hv
  have hk : k < n := by rw [← hn]; exact (List.getElem?_eq_some_iff.1 hx).1
  refine ⟨rfl, _, ?_, rfl⟩
  rw [Nat.zero_add, h k hk, List.getD_eq_getElem?_getD, hx]
  rfl
/-- The blocks' sizes. -/
def gsz (w : World) : Nat → Nat := fun i => match w.heap[i]? with
  | some (.cells c _ _) => c.size
  | _ => 0
theorem s0_get {i : Nat} {r : Row} (h : s0.h.get i = some r) : (i = 1 ∧ r = rowU spL) ∨ (i = 0 ∧ r = rowU stL) := by
  have h : (((T.full 13).set 0 (rowU stL)).set 1 (rowU spL)).get i = some r := h
  rcases T.get_set h with ⟨h1, h2⟩ | ⟨_, h⟩
  · exact .inl ⟨h1, h2⟩
  · rcases T.get_set h with ⟨h1, h2⟩ | ⟨_, h⟩
    · exact .inr ⟨h1, h2⟩
    · rw [T.get_full] at h; cases h
theorem s0_low : Low s0 := fun i r h => by rcases s0_get h with ⟨h, _⟩ | ⟨h, _⟩ <;> omega
theorem mem_row {g n : Nat} (hn : 0 < n) : MemPlace.cell g 0 ∈ MemPlace.row ⟨g, 0, none⟩ n := by
  unfold MemPlace.row
  first
    | exact List.mem_map.2 ⟨0, List.mem_range.2 hn, rfl⟩
    | (simp; exact ⟨0, hn, rfl⟩)
theorem glob_rel {W : World} (h : laidMetH Tryz.prog laidL W) : Rel (rho0 (gsz W)) s0 W := by
  rw [MakeChecks.laidMetH_plain _ _ _ (by kernel_rfl)] at h
  obtain ⟨ps, ⟨g0, t0, cs0, f0, p0, q0, hg0, ht0, hv0, hd0, ⟨g1, t1, cs1, f1, p1, q1, hg1, ht1, hv1, hd1, _, hq0⟩, hps⟩, _, hfr⟩ := h
  obtain rfl := Option.some.inj (gSteps.symm.trans hg0)
  obtain rfl := Option.some.inj (gStarts.symm.trans hg1)
  obtain rfl := Option.some.inj (tSteps.symm.trans ht0)
  obtain rfl := Option.some.inj (tStarts.symm.trans ht1)
  rw [eSteps] at hd0
  rw [eStarts] at hd1
  have k1 := table_u64 Tryz.underlying236 Tryz.underlying134 (by kernel_rfl) rfl hd1
  have k0 := table_u64 Tryz.underlying240 Tryz.underlying134 (by kernel_rfl) rfl hd0
  have n0 : 0 < cs0.size := by
    have := k0 0 (by decide)
    have := (List.getElem?_eq_some_iff.1 this).1
    simpa using this
  have n1 : 0 < cs1.size := by
    have := k1 0 (by decide)
    have := (List.getElem?_eq_some_iff.1 this).1
    simpa using this
  obtain ⟨⟨c0, u0, hb0⟩, _⟩ := hfr 1 0 (by rw [hps]; exact List.mem_append.2 (.inl (List.mem_append.2 (.inl (mem_row n0)))))
  obtain ⟨⟨c1, u1, hb1⟩, _⟩ := hfr 0 0 (by rw [hps, hq0]; exact List.mem_append.2 (.inr (List.mem_append.2 (.inl (List.mem_append.2 (.inl (mem_row n1)))))))
  have ec0 : c0 = cs0 := by
    unfold World.var? at hv0
    rw [gSteps, Option.bind_some, hb0] at hv0
    injection hv0
  have ec1 : c1 = cs1 := by
    unfold World.var? at hv1
    rw [gStarts, Option.bind_some, hb1] at hv1
    injection hv1
  subst ec0
  subst ec1
  refine rel0 rfl s0_low fun i r hr => ?_
  rcases s0_get hr with ⟨rfl, rfl⟩ | ⟨rfl, rfl⟩
  · have : gsz W 1 = c0.size := by unfold gsz; rw [hb0]
    rw [this]
    exact rowU_at (n := 80) hb0 rfl fun i hi => by
      have := k0 i hi
      rwa [Array.getElem?_toList] at this
  · have : gsz W 0 = c1.size := by unfold gsz; rw [hb1]
    rw [this]
    exact rowU_at (n := 8) hb1 rfl fun i hi => by
      have := k1 i hi
      rwa [Array.getElem?_toList] at this
theorem prOk : PrOk Tryz.prog := ⟨by kernel_rfl, fun fn h => by
  have h2 : (Tryz.prog.funcs.toList.all fun f => !(f.name == "runtime.NumGoroutine")) = true := by kernel_rfl
  have := List.all_eq_true.1 h2 fn h
  simpa using this⟩
end Go.Proofs.YtbggihomiadjjaaGreatDoor
