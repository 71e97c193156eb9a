/-
  DERIVED. GIVEN WITH THE SEED: THE CARDS: each row of YtdfkjafndhfljaaGreatDoorRows.lean that lists a variable, with what it lists TIED to the program's text (the seventh form; the later family's looks); each row that meets fmt, with fmt's text TOLD by the authors' own Lean function (tested against real Go, not proved from fmt's source: count such statements apart). THE CARD IS WHAT COUNTS. Prove the row's statement (the work); the ties are given (YtdfkjafndhfljaaGreatDoorTie.lean); close each card by the builder's one call (the guide's Derived/Test/ToyasCard.lean, 'card_holds'). Laid BY PROGRAM, IN A SANDBOX (cutbox-door.mjs). By AI agents, Wed Nov 11 2026. No macro, syntax, notation, axiom, sorry.
-/
import Derived.Test.YtdfkjafndhfljaaGreatDoorRows
import GoSem.ClaimSeven
namespace Go.Proofs.YtdfkjafndhfljaaGreatDoor
namespace Rows

/-- THE TIED CARD OF 'tabularylaw21.OfficeNone'. -/
def officeNoneCard : Claim7 := { stood := { row := officeNoneRow, standIns := [], harness := (true, "a708b97d8264859db57ee89335a7be16630356f32a05220e265c3816f8a91f49"), looks := true }, kinds := [], alts := [], laidByText := true, laidKinds := [.data, .data, .pinned, .data, .data, .data, .data, .data, .listed, .sentinel, .sentinel], laidTests := true, laidLooks := .later }
def OfficeNoneCardSaid : Prop := Claim7.holds Tryz.pinned (.plain (OpenSpec.ofChange officeNoneSpec)) officeNoneCard

/-- THE TIED CARD OF 'tabularylaw21.OfficeKills'. -/
def officeKillsCard : Claim7 := { stood := { row := officeKillsRow, standIns := [], harness := (true, "a708b97d8264859db57ee89335a7be16630356f32a05220e265c3816f8a91f49"), looks := true }, kinds := [], alts := [], laidByText := true, laidKinds := [.data, .data, .pinned, .data, .data, .data, .data, .data, .listed, .sentinel, .sentinel], laidTests := true, laidLooks := .later }
def OfficeKillsCardSaid : Prop := Claim7.holds Tryz.pinned (.plain (OpenSpec.ofChange officeKillsSpec)) officeKillsCard

/-- THE SECOND FORM's CARD OF 'tabularylaw21.OfficeNone'. -/
def officeNoneUptoCard : Claim7 := { stood := { row := officeNoneUptoRow, standIns := [], harness := (true, "a708b97d8264859db57ee89335a7be16630356f32a05220e265c3816f8a91f49"), looks := true }, kinds := [], alts := [], laidByText := true, laidKinds := [.data, .data, .pinned, .data, .data, .data, .data, .data, .listed, .sentinel, .sentinel], laidTests := true, laidLooks := .later }
def OfficeNoneUptoCardSaid : Prop := Claim7.holds Tryz.pinned (.plain (OpenSpec.upto officeNoneSpec)) officeNoneUptoCard

/-- THE SECOND FORM's CARD OF 'tabularylaw21.OfficeKills'. -/
def officeKillsUptoCard : Claim7 := { stood := { row := officeKillsUptoRow, standIns := [], harness := (true, "a708b97d8264859db57ee89335a7be16630356f32a05220e265c3816f8a91f49"), looks := true }, kinds := [], alts := [], laidByText := true, laidKinds := [.data, .data, .pinned, .data, .data, .data, .data, .data, .listed, .sentinel, .sentinel], laidTests := true, laidLooks := .later }
def OfficeKillsUptoCardSaid : Prop := Claim7.holds Tryz.pinned (.plain (OpenSpec.upto officeKillsSpec)) officeKillsUptoCard
end Rows
end Go.Proofs.YtdfkjafndhfljaaGreatDoor
