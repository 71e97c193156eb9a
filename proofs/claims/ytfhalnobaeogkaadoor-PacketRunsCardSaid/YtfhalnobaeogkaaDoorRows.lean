/-
  NARROWER THAN 'FOR EVERY INPUT', by the rows' own cells (each row's printed sentence says how): PacketNone: laid · PacketSizes: laid · PacketRuns: laid · PacketBack: laid · PacketApart: laid · VaultOne: laid · VaultFull: laid · VaultTurns: laid · VaultRuns: laid · VaultCrashes: laid · VaultNone: laid.
  DERIVED. THE GIVEN ROWS OF THIS SEAT. 11 by the template 'for every input the law returns true; each argument reads behind the call as it read before'; 0 by the template 'total and deterministic' (their statements: YtfhalnobaeogkaaDoorTotals.lean).
  GIVEN WITH THE SEED: the statements are not yours to turn. If you find one false, say at which input.
  Laid BY PROGRAM, IN A SANDBOX (cutbox-rows.mjs): the forced cells as the released guide's own fill.sh prints them over the translation a94ecfdf66243413… (all of the seat's roots in one cut). By AI agents, Wed Nov 11 2026. No macro, syntax, notation, axiom, sorry.
-/
import Derived.Test.YtfhalnobaeogkaaDoorChecked
import GoSem.Claim
import GoSem.ClaimJoined
import GoSem.ClaimMapViews
import Derived.JoinedTies
import Derived.KernelRfl
namespace Go.Proofs.YtfhalnobaeogkaaDoor
/- THE CELL 'sum', in the pinned program and in every row, IS THE sha256 OF THE DUMP (.gsa) THAT YtfhalnobaeogkaaDoorProg.lean LOADS. Nothing in Lean hashes anything: it is a label: what it is worth is what the hold of that sum in a sandbox is worth. -/
noncomputable def Tryd.pinned : Pinned := { name := "ytfhalnobaeogkaadoor", sum := "a94ecfdf6624341391f3496b34cb0a5670c34cfa2901d3cda4611b8390665922", checked := Tryd.checked }
namespace Rows
def none {H : Type} : Left H := { results := [], args := [] }

/- WHAT THE LISTED PACKAGE-LEVEL VARIABLES READ AS WHEN THE CALL BEGINS. Each datum BY PROGRAM (the guide's laid-datum.mjs) off the statement by which the dump's own 'gosem.cut.vars' lays the variable. In a bare row this is a premise. The card (YtfhalnobaeogkaaDoorCards.lean) ties it to the program's text. -/
def laid_tabulary_digest_steps {H : Type} : DataW H := .agg [.lit (.int .u64 4794697086780616226), .lit (.int .u64 8158064640168781261), .lit (.int .u64 13096744586834688815), .lit (.int .u64 16840607885511220156), .lit (.int .u64 4131703408338449720), .lit (.int .u64 6480981068601479193), .lit (.int .u64 10538285296894168987), .lit (.int .u64 12329834152419229976), .lit (.int .u64 15566598209576043074), .lit (.int .u64 1334009975649890238), .lit (.int .u64 2608012711638119052), .lit (.int .u64 6128411473006802146), .lit (.int .u64 8268148722764581231), .lit (.int .u64 9286055187155687089), .lit (.int .u64 11230858885718282805), .lit (.int .u64 13951009754708518548), .lit (.int .u64 16472876342353939154), .lit (.int .u64 17275323862435702243), .lit (.int .u64 1135362057144423861), .lit (.int .u64 2597628984639134821), .lit (.int .u64 3308224258029322869), .lit (.int .u64 5365058923640841347), .lit (.int .u64 6679025012923562964), .lit (.int .u64 8573033837759648693), .lit (.int .u64 10970295158949994411), .lit (.int .u64 12119686244451234320), .lit (.int .u64 12683024718118986047), .lit (.int .u64 13788192230050041572), .lit (.int .u64 14330467153632333762), .lit (.int .u64 15395433587784984357), .lit (.int .u64 489312712824947311), .lit (.int .u64 1452737877330783856), .lit (.int .u64 2861767655752347644), .lit (.int .u64 3322285676063803686), .lit (.int .u64 5560940570517711597), .lit (.int .u64 5996557281743188959), .lit (.int .u64 7280758554555802590), .lit (.int .u64 8532644243296465576), .lit (.int .u64 9350256976987008742), .lit (.int .u64 10552545826968843579), .lit (.int .u64 11727347734174303076), .lit (.int .u64 12113106623233404929), .lit (.int .u64 14000437183269869457), .lit (.int .u64 14369950271660146224), .lit (.int .u64 15101387698204529176), .lit (.int .u64 15463397548674623760), .lit (.int .u64 17586052441742319658), .lit (.int .u64 1182934255886127544), .lit (.int .u64 1847814050463011016), .lit (.int .u64 2177327727835720531), .lit (.int .u64 2830643537854262169), .lit (.int .u64 3796741975233480872), .lit (.int .u64 4115178125766777443), .lit (.int .u64 5681478168544905931), .lit (.int .u64 6601373596472566643), .lit (.int .u64 7507060721942968483), .lit (.int .u64 8399075790359081724), .lit (.int .u64 8693463985226723168), .lit (.int .u64 9568029438360202098), .lit (.int .u64 10144078919501101548), .lit (.int .u64 10430055236837252648), .lit (.int .u64 11840083180663258601), .lit (.int .u64 13761210420658862357), .lit (.int .u64 14299343276471374635), .lit (.int .u64 14566680578165727644), .lit (.int .u64 15097957966210449927), .lit (.int .u64 16922976911328602910), .lit (.int .u64 17689382322260857208), .lit (.int .u64 500013540394364858), .lit (.int .u64 748580250866718886), .lit (.int .u64 1242879168328830382), .lit (.int .u64 1977374033974150939), .lit (.int .u64 2944078676154940804), .lit (.int .u64 3659926193048069267), .lit (.int .u64 4368137639120453308), .lit (.int .u64 4836135668995329356), .lit (.int .u64 5532061633213252278), .lit (.int .u64 6448918945643986474), .lit (.int .u64 6902733635092675308), .lit (.int .u64 7801388544844847127)]
def laid_tabulary_digest_starts {H : Type} : DataW H := .agg [.lit (.int .u64 7640891576956012808), .lit (.int .u64 13503953896175478587), .lit (.int .u64 4354685564936845355), .lit (.int .u64 11912009170470909681), .lit (.int .u64 5840696475078001361), .lit (.int .u64 11170449401992604703), .lit (.int .u64 2270897969802886507), .lit (.int .u64 6620516959819538809)]

/-- 'tabularylaw07.PacketNone': WHATEVER THE INPUT: true; the input reads as it did. -/
def packetNoneSpec : ChangeSpec := { name := "packetNone", fn := fun _ => fun
  | [d1, d2] => { results := [.lit (.bool true)], args := [d1, d2] }
  | _ => none }
def packetNoneRow : OpenClaim := { program := "ytfhalnobaeogkaadoor", sum := "a94ecfdf6624341391f3496b34cb0a5670c34cfa2901d3cda4611b8390665922", func := "tabulary/tabularylaw07.PacketNone", spec := "packetNone", named := ["tabulary/digest.starts", "tabulary/digest.steps"], apart := false, laid := [("tabulary/digest.steps", laid_tabulary_digest_steps), ("tabulary/digest.starts", laid_tabulary_digest_starts)] }
def PacketNoneSaid : Prop := packetNoneRow.holds Tryd.pinned (OpenSpec.ofChange packetNoneSpec)

/-- ITS FALSE NEIGHBOUR: 'it returns false'. Refute it at one input. -/
def packetNoneWrong : ChangeSpec := { name := "packetNone", fn := fun _ => fun
  | [d1, d2] => { results := [.lit (.bool false)], args := [d1, d2] }
  | _ => none }
def PacketNoneWrongFalsely : Prop := packetNoneRow.holds Tryd.pinned (OpenSpec.ofChange packetNoneWrong)

/-- 'tabularylaw07.PacketSizes': WHATEVER THE INPUT: true; the input reads as it did. -/
def packetSizesSpec : ChangeSpec := { name := "packetSizes", fn := fun _ => fun
  | [d1, d2, d3] => { results := [.lit (.bool true)], args := [d1, d2, d3] }
  | _ => none }
def packetSizesRow : OpenClaim := { program := "ytfhalnobaeogkaadoor", sum := "a94ecfdf6624341391f3496b34cb0a5670c34cfa2901d3cda4611b8390665922", func := "tabulary/tabularylaw07.PacketSizes", spec := "packetSizes", named := ["tabulary/digest.starts", "tabulary/digest.steps"], apart := false, laid := [("tabulary/digest.steps", laid_tabulary_digest_steps), ("tabulary/digest.starts", laid_tabulary_digest_starts)] }
def PacketSizesSaid : Prop := packetSizesRow.holds Tryd.pinned (OpenSpec.ofChange packetSizesSpec)

/-- ITS FALSE NEIGHBOUR: 'it returns false'. Refute it at one input. -/
def packetSizesWrong : ChangeSpec := { name := "packetSizes", fn := fun _ => fun
  | [d1, d2, d3] => { results := [.lit (.bool false)], args := [d1, d2, d3] }
  | _ => none }
def PacketSizesWrongFalsely : Prop := packetSizesRow.holds Tryd.pinned (OpenSpec.ofChange packetSizesWrong)

/-- 'tabularylaw07.PacketRuns': WHATEVER THE INPUT: true; the input reads as it did. -/
def packetRunsSpec : ChangeSpec := { name := "packetRuns", fn := fun _ => fun
  | [d1, d2] => { results := [.lit (.bool true)], args := [d1, d2] }
  | _ => none }
def packetRunsRow : OpenClaim := { program := "ytfhalnobaeogkaadoor", sum := "a94ecfdf6624341391f3496b34cb0a5670c34cfa2901d3cda4611b8390665922", func := "tabulary/tabularylaw07.PacketRuns", spec := "packetRuns", named := ["tabulary/digest.starts", "tabulary/digest.steps"], apart := false, laid := [("tabulary/digest.steps", laid_tabulary_digest_steps), ("tabulary/digest.starts", laid_tabulary_digest_starts)] }
def PacketRunsSaid : Prop := packetRunsRow.holds Tryd.pinned (OpenSpec.ofChange packetRunsSpec)

/-- ITS FALSE NEIGHBOUR: 'it returns false'. Refute it at one input. -/
def packetRunsWrong : ChangeSpec := { name := "packetRuns", fn := fun _ => fun
  | [d1, d2] => { results := [.lit (.bool false)], args := [d1, d2] }
  | _ => none }
def PacketRunsWrongFalsely : Prop := packetRunsRow.holds Tryd.pinned (OpenSpec.ofChange packetRunsWrong)

/-- 'tabularylaw07.PacketBack': WHATEVER THE INPUT: true; the input reads as it did. -/
def packetBackSpec : ChangeSpec := { name := "packetBack", fn := fun _ => fun
  | [d] => { results := [.lit (.bool true)], args := [d] }
  | _ => none }
def packetBackRow : OpenClaim := { program := "ytfhalnobaeogkaadoor", sum := "a94ecfdf6624341391f3496b34cb0a5670c34cfa2901d3cda4611b8390665922", func := "tabulary/tabularylaw07.PacketBack", spec := "packetBack", named := ["tabulary/digest.starts", "tabulary/digest.steps"], apart := false, laid := [("tabulary/digest.steps", laid_tabulary_digest_steps), ("tabulary/digest.starts", laid_tabulary_digest_starts)] }
def PacketBackSaid : Prop := packetBackRow.holds Tryd.pinned (OpenSpec.ofChange packetBackSpec)

/-- ITS FALSE NEIGHBOUR: 'it returns false'. Refute it at one input. -/
def packetBackWrong : ChangeSpec := { name := "packetBack", fn := fun _ => fun
  | [d] => { results := [.lit (.bool false)], args := [d] }
  | _ => none }
def PacketBackWrongFalsely : Prop := packetBackRow.holds Tryd.pinned (OpenSpec.ofChange packetBackWrong)

/-- 'tabularylaw07.PacketApart': WHATEVER THE INPUT: true; the input reads as it did. -/
def packetApartSpec : ChangeSpec := { name := "packetApart", fn := fun _ => fun
  | [d] => { results := [.lit (.bool true)], args := [d] }
  | _ => none }
def packetApartRow : OpenClaim := { program := "ytfhalnobaeogkaadoor", sum := "a94ecfdf6624341391f3496b34cb0a5670c34cfa2901d3cda4611b8390665922", func := "tabulary/tabularylaw07.PacketApart", spec := "packetApart", named := ["tabulary/digest.starts", "tabulary/digest.steps"], apart := false, laid := [("tabulary/digest.steps", laid_tabulary_digest_steps), ("tabulary/digest.starts", laid_tabulary_digest_starts)] }
def PacketApartSaid : Prop := packetApartRow.holds Tryd.pinned (OpenSpec.ofChange packetApartSpec)

/-- ITS FALSE NEIGHBOUR: 'it returns false'. Refute it at one input. -/
def packetApartWrong : ChangeSpec := { name := "packetApart", fn := fun _ => fun
  | [d] => { results := [.lit (.bool false)], args := [d] }
  | _ => none }
def PacketApartWrongFalsely : Prop := packetApartRow.holds Tryd.pinned (OpenSpec.ofChange packetApartWrong)

/-- 'tabularylaw18.VaultOne': WHATEVER THE INPUT: true; the input reads as it did. -/
def vaultOneSpec : ChangeSpec := { name := "vaultOne", fn := fun _ => fun
  | [d1, d2, d3] => { results := [.lit (.bool true)], args := [d1, d2, d3] }
  | _ => none }
def vaultOneRow : OpenClaim := { program := "ytfhalnobaeogkaadoor", sum := "a94ecfdf6624341391f3496b34cb0a5670c34cfa2901d3cda4611b8390665922", func := "tabulary/tabularylaw18.VaultOne", spec := "vaultOne", unfollowed := true, recurses := true, named := ["tabulary/digest.starts", "tabulary/digest.steps"], apart := false, laid := [("tabulary/digest.steps", laid_tabulary_digest_steps), ("tabulary/digest.starts", laid_tabulary_digest_starts)] }
def VaultOneSaid : Prop := vaultOneRow.holds Tryd.pinned (OpenSpec.ofChange vaultOneSpec)

/-- ITS FALSE NEIGHBOUR: 'it returns false'. Refute it at one input. -/
def vaultOneWrong : ChangeSpec := { name := "vaultOne", fn := fun _ => fun
  | [d1, d2, d3] => { results := [.lit (.bool false)], args := [d1, d2, d3] }
  | _ => none }
def VaultOneWrongFalsely : Prop := vaultOneRow.holds Tryd.pinned (OpenSpec.ofChange vaultOneWrong)

/-- 'tabularylaw18.VaultFull': WHATEVER THE INPUT: true; the input reads as it did. -/
def vaultFullSpec : ChangeSpec := { name := "vaultFull", fn := fun _ => fun
  | [d1, d2] => { results := [.lit (.bool true)], args := [d1, d2] }
  | _ => none }
def vaultFullRow : OpenClaim := { program := "ytfhalnobaeogkaadoor", sum := "a94ecfdf6624341391f3496b34cb0a5670c34cfa2901d3cda4611b8390665922", func := "tabulary/tabularylaw18.VaultFull", spec := "vaultFull", unfollowed := true, recurses := true, named := ["tabulary/digest.starts", "tabulary/digest.steps"], apart := false, laid := [("tabulary/digest.steps", laid_tabulary_digest_steps), ("tabulary/digest.starts", laid_tabulary_digest_starts)] }
def VaultFullSaid : Prop := vaultFullRow.holds Tryd.pinned (OpenSpec.ofChange vaultFullSpec)

/-- ITS FALSE NEIGHBOUR: 'it returns false'. Refute it at one input. -/
def vaultFullWrong : ChangeSpec := { name := "vaultFull", fn := fun _ => fun
  | [d1, d2] => { results := [.lit (.bool false)], args := [d1, d2] }
  | _ => none }
def VaultFullWrongFalsely : Prop := vaultFullRow.holds Tryd.pinned (OpenSpec.ofChange vaultFullWrong)

/-- 'tabularylaw18.VaultTurns': WHATEVER THE INPUT: true; the input reads as it did. -/
def vaultTurnsSpec : ChangeSpec := { name := "vaultTurns", fn := fun _ => fun
  | [d] => { results := [.lit (.bool true)], args := [d] }
  | _ => none }
def vaultTurnsRow : OpenClaim := { program := "ytfhalnobaeogkaadoor", sum := "a94ecfdf6624341391f3496b34cb0a5670c34cfa2901d3cda4611b8390665922", func := "tabulary/tabularylaw18.VaultTurns", spec := "vaultTurns", unfollowed := true, recurses := true, named := ["tabulary/digest.starts", "tabulary/digest.steps"], apart := false, laid := [("tabulary/digest.steps", laid_tabulary_digest_steps), ("tabulary/digest.starts", laid_tabulary_digest_starts)] }
def VaultTurnsSaid : Prop := vaultTurnsRow.holds Tryd.pinned (OpenSpec.ofChange vaultTurnsSpec)

/-- ITS FALSE NEIGHBOUR: 'it returns false'. Refute it at one input. -/
def vaultTurnsWrong : ChangeSpec := { name := "vaultTurns", fn := fun _ => fun
  | [d] => { results := [.lit (.bool false)], args := [d] }
  | _ => none }
def VaultTurnsWrongFalsely : Prop := vaultTurnsRow.holds Tryd.pinned (OpenSpec.ofChange vaultTurnsWrong)

/-- 'tabularylaw18.VaultRuns': WHATEVER THE INPUT: true; the input reads as it did. -/
def vaultRunsSpec : ChangeSpec := { name := "vaultRuns", fn := fun _ => fun
  | [d1, d2] => { results := [.lit (.bool true)], args := [d1, d2] }
  | _ => none }
def vaultRunsRow : OpenClaim := { program := "ytfhalnobaeogkaadoor", sum := "a94ecfdf6624341391f3496b34cb0a5670c34cfa2901d3cda4611b8390665922", func := "tabulary/tabularylaw18.VaultRuns", spec := "vaultRuns", unfollowed := true, recurses := true, named := ["tabulary/digest.starts", "tabulary/digest.steps"], apart := false, laid := [("tabulary/digest.steps", laid_tabulary_digest_steps), ("tabulary/digest.starts", laid_tabulary_digest_starts)] }
def VaultRunsSaid : Prop := vaultRunsRow.holds Tryd.pinned (OpenSpec.ofChange vaultRunsSpec)

/-- ITS FALSE NEIGHBOUR: 'it returns false'. Refute it at one input. -/
def vaultRunsWrong : ChangeSpec := { name := "vaultRuns", fn := fun _ => fun
  | [d1, d2] => { results := [.lit (.bool false)], args := [d1, d2] }
  | _ => none }
def VaultRunsWrongFalsely : Prop := vaultRunsRow.holds Tryd.pinned (OpenSpec.ofChange vaultRunsWrong)

/-- 'tabularylaw18.VaultCrashes': WHATEVER THE INPUT: true; the input reads as it did. -/
def vaultCrashesSpec : ChangeSpec := { name := "vaultCrashes", fn := fun _ => fun
  | [d1, d2, d3] => { results := [.lit (.bool true)], args := [d1, d2, d3] }
  | _ => none }
def vaultCrashesRow : OpenClaim := { program := "ytfhalnobaeogkaadoor", sum := "a94ecfdf6624341391f3496b34cb0a5670c34cfa2901d3cda4611b8390665922", func := "tabulary/tabularylaw18.VaultCrashes", spec := "vaultCrashes", unfollowed := true, recurses := true, named := ["tabulary/digest.starts", "tabulary/digest.steps"], apart := false, laid := [("tabulary/digest.steps", laid_tabulary_digest_steps), ("tabulary/digest.starts", laid_tabulary_digest_starts)] }
def VaultCrashesSaid : Prop := vaultCrashesRow.holds Tryd.pinned (OpenSpec.ofChange vaultCrashesSpec)

/-- ITS FALSE NEIGHBOUR: 'it returns false'. Refute it at one input. -/
def vaultCrashesWrong : ChangeSpec := { name := "vaultCrashes", fn := fun _ => fun
  | [d1, d2, d3] => { results := [.lit (.bool false)], args := [d1, d2, d3] }
  | _ => none }
def VaultCrashesWrongFalsely : Prop := vaultCrashesRow.holds Tryd.pinned (OpenSpec.ofChange vaultCrashesWrong)

/-- 'tabularylaw18.VaultNone': WHATEVER THE INPUT: true; the input reads as it did. -/
def vaultNoneSpec : ChangeSpec := { name := "vaultNone", fn := fun _ => fun
  | [d1, d2] => { results := [.lit (.bool true)], args := [d1, d2] }
  | _ => none }
def vaultNoneRow : OpenClaim := { program := "ytfhalnobaeogkaadoor", sum := "a94ecfdf6624341391f3496b34cb0a5670c34cfa2901d3cda4611b8390665922", func := "tabulary/tabularylaw18.VaultNone", spec := "vaultNone", unfollowed := true, recurses := true, named := ["tabulary/digest.starts", "tabulary/digest.steps"], apart := false, laid := [("tabulary/digest.steps", laid_tabulary_digest_steps), ("tabulary/digest.starts", laid_tabulary_digest_starts)] }
def VaultNoneSaid : Prop := vaultNoneRow.holds Tryd.pinned (OpenSpec.ofChange vaultNoneSpec)

/-- ITS FALSE NEIGHBOUR: 'it returns false'. Refute it at one input. -/
def vaultNoneWrong : ChangeSpec := { name := "vaultNone", fn := fun _ => fun
  | [d1, d2] => { results := [.lit (.bool false)], args := [d1, d2] }
  | _ => none }
def VaultNoneWrongFalsely : Prop := vaultNoneRow.holds Tryd.pinned (OpenSpec.ofChange vaultNoneWrong)

/- THE SECOND FORM. 'bulk': how many values and letters a reading holds, each counted each time it is reached (what is shared counts as often as it is met; a slice's spare places count too). A statement '..UptoSaid' is the law's where the arguments, and the package variables that the reading takes, are together of bulk at most 1048576: NARROWER than '..Said'. Prove '..Said' where nothing that the law and all that it calls make is longer than what came in: it says more and counts as full. Else prove '..UptoSaid'. A law counts once. -/
mutual
def uptoBulk {H : Type} : DataW H → Nat
  | .lit (.string bytes) => bytes.length + 1
  | .lit _ => 1
  | .nil => 1
  | .ptr d => uptoBulk d + 1
  | .slice elems spare => uptoBulkAll elems + uptoBulkAll spare + 1
  | .agg parts => uptoBulkAll parts + 1
  | .iface _ d => uptoBulk d + 1
  | .map entries => uptoBulkEntries entries + 1
  | .held _ => 1
def uptoBulkAll {H : Type} : List (DataW H) → Nat
  | [] => 0
  | d :: r => uptoBulk d + uptoBulkAll r
def uptoBulkEntries {H : Type} : List (Lit × DataW H) → Nat
  | [] => 0
  | x :: r => uptoBulkEntry x + uptoBulkEntries r
def uptoBulkEntry {H : Type} : Lit × DataW H → Nat
  | (.string bytes, d) => bytes.length + uptoBulk d + 1
  | (_, d) => uptoBulk d + 1
 end
def uptoSmall : (H : Type) → List (DataW H) → Bool := fun _ ds => decide (uptoBulkAll ds ≤ 1048576)
def OpenSpec.upto (s : _root_.Go.ChangeSpec) : _root_.Go.OpenSpec := { _root_.Go.OpenSpec.ofChange s with cond := some uptoSmall }

/-- 'tabularylaw07.PacketNone', WHERE WHAT IT READS IS OF BULK AT MOST 1048576: true; the input reads as it did. -/
def packetNoneUptoRow : OpenClaim := { program := "ytfhalnobaeogkaadoor", sum := "a94ecfdf6624341391f3496b34cb0a5670c34cfa2901d3cda4611b8390665922", func := "tabulary/tabularylaw07.PacketNone", spec := "packetNone", named := ["tabulary/digest.starts", "tabulary/digest.steps"], apart := false, laid := [("tabulary/digest.steps", laid_tabulary_digest_steps), ("tabulary/digest.starts", laid_tabulary_digest_starts)], narrowed := true }
def PacketNoneUptoSaid : Prop := packetNoneUptoRow.holds Tryd.pinned (OpenSpec.upto packetNoneSpec)

/-- 'tabularylaw07.PacketSizes', WHERE WHAT IT READS IS OF BULK AT MOST 1048576: true; the input reads as it did. -/
def packetSizesUptoRow : OpenClaim := { program := "ytfhalnobaeogkaadoor", sum := "a94ecfdf6624341391f3496b34cb0a5670c34cfa2901d3cda4611b8390665922", func := "tabulary/tabularylaw07.PacketSizes", spec := "packetSizes", named := ["tabulary/digest.starts", "tabulary/digest.steps"], apart := false, laid := [("tabulary/digest.steps", laid_tabulary_digest_steps), ("tabulary/digest.starts", laid_tabulary_digest_starts)], narrowed := true }
def PacketSizesUptoSaid : Prop := packetSizesUptoRow.holds Tryd.pinned (OpenSpec.upto packetSizesSpec)

/-- 'tabularylaw07.PacketRuns', WHERE WHAT IT READS IS OF BULK AT MOST 1048576: true; the input reads as it did. -/
def packetRunsUptoRow : OpenClaim := { program := "ytfhalnobaeogkaadoor", sum := "a94ecfdf6624341391f3496b34cb0a5670c34cfa2901d3cda4611b8390665922", func := "tabulary/tabularylaw07.PacketRuns", spec := "packetRuns", named := ["tabulary/digest.starts", "tabulary/digest.steps"], apart := false, laid := [("tabulary/digest.steps", laid_tabulary_digest_steps), ("tabulary/digest.starts", laid_tabulary_digest_starts)], narrowed := true }
def PacketRunsUptoSaid : Prop := packetRunsUptoRow.holds Tryd.pinned (OpenSpec.upto packetRunsSpec)

/-- 'tabularylaw07.PacketBack', WHERE WHAT IT READS IS OF BULK AT MOST 1048576: true; the input reads as it did. -/
def packetBackUptoRow : OpenClaim := { program := "ytfhalnobaeogkaadoor", sum := "a94ecfdf6624341391f3496b34cb0a5670c34cfa2901d3cda4611b8390665922", func := "tabulary/tabularylaw07.PacketBack", spec := "packetBack", named := ["tabulary/digest.starts", "tabulary/digest.steps"], apart := false, laid := [("tabulary/digest.steps", laid_tabulary_digest_steps), ("tabulary/digest.starts", laid_tabulary_digest_starts)], narrowed := true }
def PacketBackUptoSaid : Prop := packetBackUptoRow.holds Tryd.pinned (OpenSpec.upto packetBackSpec)

/-- 'tabularylaw07.PacketApart', WHERE WHAT IT READS IS OF BULK AT MOST 1048576: true; the input reads as it did. -/
def packetApartUptoRow : OpenClaim := { program := "ytfhalnobaeogkaadoor", sum := "a94ecfdf6624341391f3496b34cb0a5670c34cfa2901d3cda4611b8390665922", func := "tabulary/tabularylaw07.PacketApart", spec := "packetApart", named := ["tabulary/digest.starts", "tabulary/digest.steps"], apart := false, laid := [("tabulary/digest.steps", laid_tabulary_digest_steps), ("tabulary/digest.starts", laid_tabulary_digest_starts)], narrowed := true }
def PacketApartUptoSaid : Prop := packetApartUptoRow.holds Tryd.pinned (OpenSpec.upto packetApartSpec)

/-- 'tabularylaw18.VaultOne', WHERE WHAT IT READS IS OF BULK AT MOST 1048576: true; the input reads as it did. -/
def vaultOneUptoRow : OpenClaim := { program := "ytfhalnobaeogkaadoor", sum := "a94ecfdf6624341391f3496b34cb0a5670c34cfa2901d3cda4611b8390665922", func := "tabulary/tabularylaw18.VaultOne", spec := "vaultOne", unfollowed := true, recurses := true, named := ["tabulary/digest.starts", "tabulary/digest.steps"], apart := false, laid := [("tabulary/digest.steps", laid_tabulary_digest_steps), ("tabulary/digest.starts", laid_tabulary_digest_starts)], narrowed := true }
def VaultOneUptoSaid : Prop := vaultOneUptoRow.holds Tryd.pinned (OpenSpec.upto vaultOneSpec)

/-- 'tabularylaw18.VaultFull', WHERE WHAT IT READS IS OF BULK AT MOST 1048576: true; the input reads as it did. -/
def vaultFullUptoRow : OpenClaim := { program := "ytfhalnobaeogkaadoor", sum := "a94ecfdf6624341391f3496b34cb0a5670c34cfa2901d3cda4611b8390665922", func := "tabulary/tabularylaw18.VaultFull", spec := "vaultFull", unfollowed := true, recurses := true, named := ["tabulary/digest.starts", "tabulary/digest.steps"], apart := false, laid := [("tabulary/digest.steps", laid_tabulary_digest_steps), ("tabulary/digest.starts", laid_tabulary_digest_starts)], narrowed := true }
def VaultFullUptoSaid : Prop := vaultFullUptoRow.holds Tryd.pinned (OpenSpec.upto vaultFullSpec)

/-- 'tabularylaw18.VaultTurns', WHERE WHAT IT READS IS OF BULK AT MOST 1048576: true; the input reads as it did. -/
def vaultTurnsUptoRow : OpenClaim := { program := "ytfhalnobaeogkaadoor", sum := "a94ecfdf6624341391f3496b34cb0a5670c34cfa2901d3cda4611b8390665922", func := "tabulary/tabularylaw18.VaultTurns", spec := "vaultTurns", unfollowed := true, recurses := true, named := ["tabulary/digest.starts", "tabulary/digest.steps"], apart := false, laid := [("tabulary/digest.steps", laid_tabulary_digest_steps), ("tabulary/digest.starts", laid_tabulary_digest_starts)], narrowed := true }
def VaultTurnsUptoSaid : Prop := vaultTurnsUptoRow.holds Tryd.pinned (OpenSpec.upto vaultTurnsSpec)

/-- 'tabularylaw18.VaultRuns', WHERE WHAT IT READS IS OF BULK AT MOST 1048576: true; the input reads as it did. -/
def vaultRunsUptoRow : OpenClaim := { program := "ytfhalnobaeogkaadoor", sum := "a94ecfdf6624341391f3496b34cb0a5670c34cfa2901d3cda4611b8390665922", func := "tabulary/tabularylaw18.VaultRuns", spec := "vaultRuns", unfollowed := true, recurses := true, named := ["tabulary/digest.starts", "tabulary/digest.steps"], apart := false, laid := [("tabulary/digest.steps", laid_tabulary_digest_steps), ("tabulary/digest.starts", laid_tabulary_digest_starts)], narrowed := true }
def VaultRunsUptoSaid : Prop := vaultRunsUptoRow.holds Tryd.pinned (OpenSpec.upto vaultRunsSpec)

/-- 'tabularylaw18.VaultCrashes', WHERE WHAT IT READS IS OF BULK AT MOST 1048576: true; the input reads as it did. -/
def vaultCrashesUptoRow : OpenClaim := { program := "ytfhalnobaeogkaadoor", sum := "a94ecfdf6624341391f3496b34cb0a5670c34cfa2901d3cda4611b8390665922", func := "tabulary/tabularylaw18.VaultCrashes", spec := "vaultCrashes", unfollowed := true, recurses := true, named := ["tabulary/digest.starts", "tabulary/digest.steps"], apart := false, laid := [("tabulary/digest.steps", laid_tabulary_digest_steps), ("tabulary/digest.starts", laid_tabulary_digest_starts)], narrowed := true }
def VaultCrashesUptoSaid : Prop := vaultCrashesUptoRow.holds Tryd.pinned (OpenSpec.upto vaultCrashesSpec)

/-- 'tabularylaw18.VaultNone', WHERE WHAT IT READS IS OF BULK AT MOST 1048576: true; the input reads as it did. -/
def vaultNoneUptoRow : OpenClaim := { program := "ytfhalnobaeogkaadoor", sum := "a94ecfdf6624341391f3496b34cb0a5670c34cfa2901d3cda4611b8390665922", func := "tabulary/tabularylaw18.VaultNone", spec := "vaultNone", unfollowed := true, recurses := true, named := ["tabulary/digest.starts", "tabulary/digest.steps"], apart := false, laid := [("tabulary/digest.steps", laid_tabulary_digest_steps), ("tabulary/digest.starts", laid_tabulary_digest_starts)], narrowed := true }
def VaultNoneUptoSaid : Prop := vaultNoneUptoRow.holds Tryd.pinned (OpenSpec.upto vaultNoneSpec)

end Rows
end Go.Proofs.YtfhalnobaeogkaaDoor
