/- What is proved: the tables of whole numbers that the row lists lie in memory as the evaluator has them; bytealg.MaxLen holds some whole number. -/
import Derived.Test.YtdfkjafndhfljaaGreatDoorRows
import Derived.Test.YtdfkjafndhfljaaGreatDoorZ7
import Derived.KernelRfl
set_option linter.unusedVariables false
set_option linter.unusedSimpArgs false
namespace Go.Proofs.YtdfkjafndhfljaaGreatDoor
open Go Go.RowKit Go.Fw Go.Ev

def stL : List Int := [7640891576956012808, 13503953896175478587, 4354685564936845355, 11912009170470909681, 5840696475078001361, 11170449401992604703, 2270897969802886507, 6620516959819538809]
def spL : List Int := [4794697086780616226, 8158064640168781261, 13096744586834688815, 16840607885511220156, 4131703408338449720, 6480981068601479193, 10538285296894168987, 12329834152419229976, 15566598209576043074, 1334009975649890238, 2608012711638119052, 6128411473006802146, 8268148722764581231, 9286055187155687089, 11230858885718282805, 13951009754708518548, 16472876342353939154, 17275323862435702243, 1135362057144423861, 2597628984639134821, 3308224258029322869, 5365058923640841347, 6679025012923562964, 8573033837759648693, 10970295158949994411, 12119686244451234320, 12683024718118986047, 13788192230050041572, 14330467153632333762, 15395433587784984357, 489312712824947311, 1452737877330783856, 2861767655752347644, 3322285676063803686, 5560940570517711597, 5996557281743188959, 7280758554555802590, 8532644243296465576, 9350256976987008742, 10552545826968843579, 11727347734174303076, 12113106623233404929, 14000437183269869457, 14369950271660146224, 15101387698204529176, 15463397548674623760, 17586052441742319658, 1182934255886127544, 1847814050463011016, 2177327727835720531, 2830643537854262169, 3796741975233480872, 4115178125766777443, 5681478168544905931, 6601373596472566643, 7507060721942968483, 8399075790359081724, 8693463985226723168, 9568029438360202098, 10144078919501101548, 10430055236837252648, 11840083180663258601, 13761210420658862357, 14299343276471374635, 14566680578165727644, 15097957966210449927, 16922976911328602910, 17689382322260857208, 500013540394364858, 748580250866718886, 1242879168328830382, 1977374033974150939, 2944078676154940804, 3659926193048069267, 4368137639120453308, 4836135668995329356, 5532061633213252278, 6448918945643986474, 6902733635092675308, 7801388544844847127]
def p10L : List Int := [1, 10, 100, 1000, 10000, 100000, 1000000, 10000000, 100000000, 1000000000, 10000000000, 100000000000, 1000000000000, 10000000000000, 100000000000000, 1000000000000000, 10000000000000000, 100000000000000000, 1000000000000000000, 10000000000000000000]
def d64N : Nat := 315684040783403026461198565492879320519372303033823910828724750665742568755751545437592878574175936176031276695822391845783248645128493468529036736594176
def d32N : Nat := 4088518913827626597285369242834745541130067489702375943734699084159095931136
def spcN : Nat := 115792089237316195423570985008687907853269984686002512504281526212021469577216
/-- Rows of the tables; the room of bytealg.MaxLen is 0. -/
def tabL : List (Nat × Row) := [(3, rowI .u64 stL), (4, rowI .u64 spL), (5, rowI .u64 p10L), (9, .bytes 0 true 64 d64N), (8, .bytes 0 true 32 d32N), (1, .bytes 0 true 256 spcN)]
noncomputable def s0 (v : Value) : S := ⟨setG ((0, .cells 0 true [.val 7 v]) :: tabL), 1000⟩
abbrev laidL : List (String × DataW Unit) := [("tabulary/digest.starts", Rows.laid_tabulary_digest_starts), ("tabulary/digest.steps", Rows.laid_tabulary_digest_steps), ("unicode/utf8.first", Rows.laid_unicode_utf8_first), ("unicode/utf8.acceptRanges", Rows.laid_unicode_utf8_acceptRanges), ("internal/strconv.uint64pow10", Rows.laid_internal_strconv_uint64pow10), ("math/bits.deBruijn32tab", Rows.laid_math_bits_deBruijn32tab), ("math/bits.deBruijn64tab", Rows.laid_math_bits_deBruijn64tab), ("strings.asciiSpace", Rows.laid_strings_asciiSpace), ("unicode.White_Space", Rows.laid_unicode_White_Space), ("strconv.ErrSyntax", Rows.laid_strconv_ErrSyntax), ("strconv.ErrRange", Rows.laid_strconv_ErrRange)]
theorem laid_handles : (laidL.all fun x => x.2.handleName?.isNone) = true := by kernel_rfl
theorem t0 : Tryz.prog.underlying 340 = some (.array 8 149) ∧ Tryz.prog.underlying 344 = some (.array 80 149) ∧ Tryz.prog.underlying 374 = some (.array 20 149) := ⟨by kernel_rfl, by kernel_rfl, by kernel_rfl⟩
theorem t1 : Tryz.prog.underlying 195 = some (.array 64 5) ∧ Tryz.prog.underlying 267 = some (.array 32 5) ∧ Tryz.prog.underlying 236 = some (.array 256 5) := ⟨by kernel_rfl, by kernel_rfl, by kernel_rfl⟩
theorem t2 : Tryz.prog.underlying 149 = some (.int .u64) ∧ Tryz.prog.underlying 5 = some (.int .u8) ∧ Tryz.prog.cellsOf 149 = 1 ∧ Tryz.prog.cellsOf 5 = 1 := ⟨by kernel_rfl, by kernel_rfl, by kernel_rfl, by kernel_rfl⟩
theorem n0 : Tryz.prog.globalNamed "tabulary/digest.starts" = some 3 ∧ Tryz.prog.globalNamed "tabulary/digest.steps" = some 4 ∧ Tryz.prog.globalNamed "internal/strconv.uint64pow10" = some 5 := ⟨by kernel_rfl, by kernel_rfl, by kernel_rfl⟩
theorem n1 : Tryz.prog.globalNamed "math/bits.deBruijn64tab" = some 9 ∧ Tryz.prog.globalNamed "math/bits.deBruijn32tab" = some 8 ∧ Tryz.prog.globalNamed "strings.asciiSpace" = some 1 := ⟨by kernel_rfl, by kernel_rfl, by kernel_rfl⟩
theorem g0 : (Tryz.prog.globals[3]?).map (·.type) = some 340 ∧ (Tryz.prog.globals[4]?).map (·.type) = some 344 ∧ (Tryz.prog.globals[5]?).map (·.type) = some 374 := ⟨by kernel_rfl, by kernel_rfl, by kernel_rfl⟩
theorem g1 : (Tryz.prog.globals[9]?).map (·.type) = some 195 ∧ (Tryz.prog.globals[8]?).map (·.type) = some 267 ∧ (Tryz.prog.globals[1]?).map (·.type) = some 236 := ⟨by kernel_rfl, by kernel_rfl, by kernel_rfl⟩
theorem eST : (Rows.laid_tabulary_digest_starts : DataW Unit) = .agg (stL.map fun x => .lit (.int .u64 x)) := by kernel_rfl
theorem eSP : (Rows.laid_tabulary_digest_steps : DataW Unit) = .agg (spL.map fun x => .lit (.int .u64 x)) := by kernel_rfl
theorem eP10 : (Rows.laid_internal_strconv_uint64pow10 : DataW Unit) = .agg (p10L.map fun x => .lit (.int .u64 x)) := by kernel_rfl
theorem eD64 : (Rows.laid_math_bits_deBruijn64tab : DataW Unit) = .agg ((byI 64 d64N).map fun x => .lit (.int .u8 x)) := by kernel_rfl
theorem eD32 : (Rows.laid_math_bits_deBruijn32tab : DataW Unit) = .agg ((byI 32 d32N).map fun x => .lit (.int .u8 x)) := by kernel_rfl
theorem eSPC : (Rows.laid_strings_asciiSpace : DataW Unit) = .agg ((byI 256 spcN).map fun x => .lit (.int .u8 x)) := by kernel_rfl
/-- The blocks' sizes. -/
def gsz (w : World) : Nat → Nat := fun i => match w.heap[i]? with
  | some (.cells c _ _) => c.size
  | _ => 0
theorem gsz_at {w : World} {g : Nat} {c : Array Value} {t : TypeId} {fr : Nat × Nat} (h : w.heap[g]? = some (.cells c t fr)) : gsz w g = c.size := by unfold gsz; rw [h]
theorem tab_rows {W : World} (h : laidMetH Tryz.prog laidL W) : ∀ x ∈ tabL, RowAt (rho0 (gsz W)) W ⟨x.1, 0, gsz W x.1⟩ x.2 := by
  rw [MakeChecks.laidMetH_plain _ _ _ laid_handles] at h
  intro x hx
  simp only [tabL, List.mem_cons, List.mem_nil_iff, or_false] at hx
  rcases hx with rfl | rfl | rfl | rfl | rfl | rfl
  · obtain ⟨c, t, hb, hl, hv⟩ := laid_table h (k := .u64) (l := stL) (by rw [← eST]; simp [laidL]) n0.1 g0.1 t0.1 t2.1 t2.2.2.1 rfl (by decide)
    rw [gsz_at hb]
    exact rowI_at hb hl hv
  · obtain ⟨c, t, hb, hl, hv⟩ := laid_table h (k := .u64) (l := spL) (by rw [← eSP]; simp [laidL]) n0.2.1 g0.2.1 t0.2.1 t2.1 t2.2.2.1 rfl (by decide)
    rw [gsz_at hb]
    exact rowI_at hb hl hv
  · obtain ⟨c, t, hb, hl, hv⟩ := laid_table h (k := .u64) (l := p10L) (by rw [← eP10]; simp [laidL]) n0.2.2 g0.2.2 t0.2.2 t2.1 t2.2.2.1 rfl (by decide)
    rw [gsz_at hb]
    exact rowI_at hb hl hv
  · obtain ⟨c, t, hb, hl, hv⟩ := laid_table h (k := .u8) (l := byI 64 d64N) (by rw [← eD64]; simp [laidL]) n1.1 g1.1 t1.1 t2.2.1 t2.2.2.2 (byI_len _ _) (by decide)
    rw [gsz_at hb]
    exact rowB_at (by decide +kernel) hb hl hv
  · obtain ⟨c, t, hb, hl, hv⟩ := laid_table h (k := .u8) (l := byI 32 d32N) (by rw [← eD32]; simp [laidL]) n1.2.1 g1.2.1 t1.2.1 t2.2.1 t2.2.2.2 (byI_len _ _) (by decide)
    rw [gsz_at hb]
    exact rowB_at (by decide +kernel) hb hl hv
  · obtain ⟨c, t, hb, hl, hv⟩ := laid_table h (k := .u8) (l := byI 256 spcN) (by rw [← eSPC]; simp [laidL]) n1.2.2 g1.2.2 t1.2.2 t2.2.1 t2.2.2.2 (byI_len _ _) (by decide)
    rw [gsz_at hb]
    exact rowB_at (by decide +kernel) hb hl hv
/-- What is known of bytealg.MaxLen. -/
def MaxAt (W : World) (m : Int) : Prop := ∃ c t, W.heap[0]? = some (.cells c t (0, 0)) ∧ c[0]? = some (.int .i64 m)
theorem s0_low (v : Value) : Low (s0 v) := fun i r hr => by
  have hr : (setG ((0, .cells 0 true [.val 7 v]) :: tabL)).get i = some r := hr
  have hr := setG_get hr
  simp only [tabL, List.mem_cons, List.mem_nil_iff, or_false, Prod.mk.injEq] at hr
  omega
theorem glob_rel {W : World} (h : laidMetH Tryz.prog laidL W) {m : Int} (hm : MaxAt W m) : Rel (rho0 (gsz W)) (s0 (.int .i64 m)) W := by
  refine rel0 rfl (s0_low _) fun i r hr => ?_
  have hr : (setG ((0, .cells 0 true [.val 7 (.int .i64 m)]) :: tabL)).get i = some r := hr
  rcases List.mem_cons.1 (setG_get hr) with e | hmem
  · injection e with e1 e2
    subst e1 e2
    obtain ⟨c, t, hb, hc⟩ := hm
    rw [gsz_at hb]
    exact rowV_at hb hc rfl rfl 7
  · exact tab_rows h _ hmem
theorem prOk : PrOk Tryz.prog := ⟨by kernel_rfl, fun fn h => by
  have h2 : (Tryz.prog.funcs.toList.all fun f => !(f.name == "runtime.NumGoroutine")) = true := by kernel_rfl
  have := List.all_eq_true.1 h2 fn h
  simpa using this⟩
end Go.Proofs.YtdfkjafndhfljaaGreatDoor
