/-
  No cell of these rows narrows 'for every input' (looked for: loops, veiled, ifaces, maps, wideKeys, modest, calm, conditions, laid).
  DERIVED. THE GIVEN ROWS OF THIS SEAT. 5 by the template 'for every input the law returns true; each argument reads behind the call as it read before'; 0 by the template 'total and deterministic' (their statements: YtfhalnobaeogkaaTotals.lean).
  GIVEN WITH THE SEED: the statements are not yours to turn. If you find one false, say at which input.
  Laid BY PROGRAM, IN A SANDBOX (cutbox-rows.mjs): the forced cells as the released guide's own fill.sh prints them over the translation 293614d21fd7766c… (all of the seat's roots in one cut). By AI agents, Wed Nov 11 2026. No macro, syntax, notation, axiom, sorry.
-/
import Derived.Test.YtfhalnobaeogkaaChecked
import GoSem.Claim
import GoSem.ClaimJoined
import GoSem.ClaimMapViews
import Derived.JoinedTies
import Derived.KernelRfl
namespace Go.Proofs.Ytfhalnobaeogkaa
/- THE CELL 'sum', in the pinned program and in every row, IS THE sha256 OF THE DUMP (.gsa) THAT YtfhalnobaeogkaaProg.lean LOADS. Nothing in Lean hashes anything: it is a label: what it is worth is what the hold of that sum in a sandbox is worth. -/
noncomputable def Try.pinned : Pinned := { name := "ytfhalnobaeogkaa", sum := "293614d21fd7766cbc497dfe4a2c44125b112f12f893b5f70002b9958b86acc6", checked := Try.checked }
namespace Rows
def none {H : Type} : Left H := { results := [], args := [] }

/-- 'tabularylaw06.CipherBlocks': WHATEVER THE INPUT: true; the input reads as it did. -/
def cipherBlocksSpec : ChangeSpec := { name := "cipherBlocks", fn := fun _ => fun
  | [d1, d2, d3] => { results := [.lit (.bool true)], args := [d1, d2, d3] }
  | _ => none }
def cipherBlocksRow : OpenClaim := { program := "ytfhalnobaeogkaa", sum := "293614d21fd7766cbc497dfe4a2c44125b112f12f893b5f70002b9958b86acc6", func := "tabulary/tabularylaw06.CipherBlocks", spec := "cipherBlocks", apart := false }
def CipherBlocksSaid : Prop := cipherBlocksRow.holds Try.pinned (OpenSpec.ofChange cipherBlocksSpec)

/-- ITS FALSE NEIGHBOUR: 'it returns false'. Refute it at one input. -/
def cipherBlocksWrong : ChangeSpec := { name := "cipherBlocks", fn := fun _ => fun
  | [d1, d2, d3] => { results := [.lit (.bool false)], args := [d1, d2, d3] }
  | _ => none }
def CipherBlocksWrongFalsely : Prop := cipherBlocksRow.holds Try.pinned (OpenSpec.ofChange cipherBlocksWrong)

/-- 'tabularylaw06.CipherStreams': WHATEVER THE INPUT: true; the input reads as it did. -/
def cipherStreamsSpec : ChangeSpec := { name := "cipherStreams", fn := fun _ => fun
  | [d1, d2, d3] => { results := [.lit (.bool true)], args := [d1, d2, d3] }
  | _ => none }
def cipherStreamsRow : OpenClaim := { program := "ytfhalnobaeogkaa", sum := "293614d21fd7766cbc497dfe4a2c44125b112f12f893b5f70002b9958b86acc6", func := "tabulary/tabularylaw06.CipherStreams", spec := "cipherStreams", apart := false }
def CipherStreamsSaid : Prop := cipherStreamsRow.holds Try.pinned (OpenSpec.ofChange cipherStreamsSpec)

/-- ITS FALSE NEIGHBOUR: 'it returns false'. Refute it at one input. -/
def cipherStreamsWrong : ChangeSpec := { name := "cipherStreams", fn := fun _ => fun
  | [d1, d2, d3] => { results := [.lit (.bool false)], args := [d1, d2, d3] }
  | _ => none }
def CipherStreamsWrongFalsely : Prop := cipherStreamsRow.holds Try.pinned (OpenSpec.ofChange cipherStreamsWrong)

/-- 'tabularylaw06.CipherBack': WHATEVER THE INPUT: true; the input reads as it did. -/
def cipherBackSpec : ChangeSpec := { name := "cipherBack", fn := fun _ => fun
  | [d1, d2, d3] => { results := [.lit (.bool true)], args := [d1, d2, d3] }
  | _ => none }
def cipherBackRow : OpenClaim := { program := "ytfhalnobaeogkaa", sum := "293614d21fd7766cbc497dfe4a2c44125b112f12f893b5f70002b9958b86acc6", func := "tabulary/tabularylaw06.CipherBack", spec := "cipherBack", apart := false }
def CipherBackSaid : Prop := cipherBackRow.holds Try.pinned (OpenSpec.ofChange cipherBackSpec)

/-- ITS FALSE NEIGHBOUR: 'it returns false'. Refute it at one input. -/
def cipherBackWrong : ChangeSpec := { name := "cipherBack", fn := fun _ => fun
  | [d1, d2, d3] => { results := [.lit (.bool false)], args := [d1, d2, d3] }
  | _ => none }
def CipherBackWrongFalsely : Prop := cipherBackRow.holds Try.pinned (OpenSpec.ofChange cipherBackWrong)

/-- 'tabularylaw06.CipherOwn': WHATEVER THE INPUT: true; the input reads as it did. -/
def cipherOwnSpec : ChangeSpec := { name := "cipherOwn", fn := fun _ => fun
  | [d1, d2, d3] => { results := [.lit (.bool true)], args := [d1, d2, d3] }
  | _ => none }
def cipherOwnRow : OpenClaim := { program := "ytfhalnobaeogkaa", sum := "293614d21fd7766cbc497dfe4a2c44125b112f12f893b5f70002b9958b86acc6", func := "tabulary/tabularylaw06.CipherOwn", spec := "cipherOwn", apart := false }
def CipherOwnSaid : Prop := cipherOwnRow.holds Try.pinned (OpenSpec.ofChange cipherOwnSpec)

/-- ITS FALSE NEIGHBOUR: 'it returns false'. Refute it at one input. -/
def cipherOwnWrong : ChangeSpec := { name := "cipherOwn", fn := fun _ => fun
  | [d1, d2, d3] => { results := [.lit (.bool false)], args := [d1, d2, d3] }
  | _ => none }
def CipherOwnWrongFalsely : Prop := cipherOwnRow.holds Try.pinned (OpenSpec.ofChange cipherOwnWrong)

/-- 'tabularylaw06.CipherWraps': WHATEVER THE INPUT: true; the input reads as it did. -/
def cipherWrapsSpec : ChangeSpec := { name := "cipherWraps", fn := fun _ => fun
  | [d1, d2, d3] => { results := [.lit (.bool true)], args := [d1, d2, d3] }
  | _ => none }
def cipherWrapsRow : OpenClaim := { program := "ytfhalnobaeogkaa", sum := "293614d21fd7766cbc497dfe4a2c44125b112f12f893b5f70002b9958b86acc6", func := "tabulary/tabularylaw06.CipherWraps", spec := "cipherWraps", apart := false }
def CipherWrapsSaid : Prop := cipherWrapsRow.holds Try.pinned (OpenSpec.ofChange cipherWrapsSpec)

/-- ITS FALSE NEIGHBOUR: 'it returns false'. Refute it at one input. -/
def cipherWrapsWrong : ChangeSpec := { name := "cipherWraps", fn := fun _ => fun
  | [d1, d2, d3] => { results := [.lit (.bool false)], args := [d1, d2, d3] }
  | _ => none }
def CipherWrapsWrongFalsely : Prop := cipherWrapsRow.holds Try.pinned (OpenSpec.ofChange cipherWrapsWrong)

/- THE SECOND FORM. 'bulk': how many values and letters a reading holds, each counted each time it is reached (what is shared counts as often as it is met; a slice's spare places count too). A statement '..UptoSaid' is the law's where the arguments, and the package variables that the reading takes, are together of bulk at most 1048576: NARROWER than '..Said'. Prove '..Said' where nothing that the law and all that it calls make is longer than what came in: it says more and counts as full. Else prove '..UptoSaid'. A law counts once. -/
mutual
def uptoBulk {H : Type} : DataW H → Nat
  | .lit (.string bytes) => bytes.length + 1
  | .lit _ => 1
  | .nil => 1
  | .ptr d => uptoBulk d + 1
  | .slice elems spare => uptoBulkAll elems + uptoBulkAll spare + 1
  | .agg parts => uptoBulkAll parts + 1
  | .iface _ d => uptoBulk d + 1
  | .map entries => uptoBulkEntries entries + 1
  | .held _ => 1
def uptoBulkAll {H : Type} : List (DataW H) → Nat
  | [] => 0
  | d :: r => uptoBulk d + uptoBulkAll r
def uptoBulkEntries {H : Type} : List (Lit × DataW H) → Nat
  | [] => 0
  | x :: r => uptoBulkEntry x + uptoBulkEntries r
def uptoBulkEntry {H : Type} : Lit × DataW H → Nat
  | (.string bytes, d) => bytes.length + uptoBulk d + 1
  | (_, d) => uptoBulk d + 1
 end
def uptoSmall : (H : Type) → List (DataW H) → Bool := fun _ ds => decide (uptoBulkAll ds ≤ 1048576)
def OpenSpec.upto (s : _root_.Go.ChangeSpec) : _root_.Go.OpenSpec := { _root_.Go.OpenSpec.ofChange s with cond := some uptoSmall }

/-- 'tabularylaw06.CipherBlocks', WHERE WHAT IT READS IS OF BULK AT MOST 1048576: true; the input reads as it did. -/
def cipherBlocksUptoRow : OpenClaim := { program := "ytfhalnobaeogkaa", sum := "293614d21fd7766cbc497dfe4a2c44125b112f12f893b5f70002b9958b86acc6", func := "tabulary/tabularylaw06.CipherBlocks", spec := "cipherBlocks", apart := false, narrowed := true }
def CipherBlocksUptoSaid : Prop := cipherBlocksUptoRow.holds Try.pinned (OpenSpec.upto cipherBlocksSpec)

/-- 'tabularylaw06.CipherStreams', WHERE WHAT IT READS IS OF BULK AT MOST 1048576: true; the input reads as it did. -/
def cipherStreamsUptoRow : OpenClaim := { program := "ytfhalnobaeogkaa", sum := "293614d21fd7766cbc497dfe4a2c44125b112f12f893b5f70002b9958b86acc6", func := "tabulary/tabularylaw06.CipherStreams", spec := "cipherStreams", apart := false, narrowed := true }
def CipherStreamsUptoSaid : Prop := cipherStreamsUptoRow.holds Try.pinned (OpenSpec.upto cipherStreamsSpec)

/-- 'tabularylaw06.CipherBack', WHERE WHAT IT READS IS OF BULK AT MOST 1048576: true; the input reads as it did. -/
def cipherBackUptoRow : OpenClaim := { program := "ytfhalnobaeogkaa", sum := "293614d21fd7766cbc497dfe4a2c44125b112f12f893b5f70002b9958b86acc6", func := "tabulary/tabularylaw06.CipherBack", spec := "cipherBack", apart := false, narrowed := true }
def CipherBackUptoSaid : Prop := cipherBackUptoRow.holds Try.pinned (OpenSpec.upto cipherBackSpec)

/-- 'tabularylaw06.CipherOwn', WHERE WHAT IT READS IS OF BULK AT MOST 1048576: true; the input reads as it did. -/
def cipherOwnUptoRow : OpenClaim := { program := "ytfhalnobaeogkaa", sum := "293614d21fd7766cbc497dfe4a2c44125b112f12f893b5f70002b9958b86acc6", func := "tabulary/tabularylaw06.CipherOwn", spec := "cipherOwn", apart := false, narrowed := true }
def CipherOwnUptoSaid : Prop := cipherOwnUptoRow.holds Try.pinned (OpenSpec.upto cipherOwnSpec)

/-- 'tabularylaw06.CipherWraps', WHERE WHAT IT READS IS OF BULK AT MOST 1048576: true; the input reads as it did. -/
def cipherWrapsUptoRow : OpenClaim := { program := "ytfhalnobaeogkaa", sum := "293614d21fd7766cbc497dfe4a2c44125b112f12f893b5f70002b9958b86acc6", func := "tabulary/tabularylaw06.CipherWraps", spec := "cipherWraps", apart := false, narrowed := true }
def CipherWrapsUptoSaid : Prop := cipherWrapsUptoRow.holds Try.pinned (OpenSpec.upto cipherWrapsSpec)

end Rows
end Go.Proofs.Ytfhalnobaeogkaa
