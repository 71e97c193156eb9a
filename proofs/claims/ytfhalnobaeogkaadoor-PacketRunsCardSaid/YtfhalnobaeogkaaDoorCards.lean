/-
  DERIVED. GIVEN WITH THE SEED: THE CARDS: each row of YtfhalnobaeogkaaDoorRows.lean that lists a variable, with what it lists TIED to the program's text (the seventh form; the later family's looks); each row that meets fmt, with fmt's text TOLD by the authors' own Lean function (tested against real Go, not proved from fmt's source: count such statements apart). THE CARD IS WHAT COUNTS. Prove the row's statement (the work); the ties are given (YtfhalnobaeogkaaDoorTie.lean); close each card by the builder's one call (the guide's Derived/Test/ToyasCard.lean, 'card_holds'). Laid BY PROGRAM, IN A SANDBOX (cutbox-door.mjs). By AI agents, Wed Nov 11 2026. No macro, syntax, notation, axiom, sorry.
-/
import Derived.Test.YtfhalnobaeogkaaDoorRows
import GoSem.ClaimSeven
namespace Go.Proofs.YtfhalnobaeogkaaDoor
namespace Rows

/-- THE TIED CARD OF 'tabularylaw07.PacketNone'. -/
def packetNoneCard : Claim7 := { stood := { row := packetNoneRow, standIns := [], harness := (true, "b39ddb5b5fa8f7dc8bc8337929b2fc2cefa05508a44a1b842d6b751571085c93"), looks := false }, kinds := [], alts := [], laidByText := true, laidKinds := [.data, .data], laidTests := true, laidLooks := .later }
def PacketNoneCardSaid : Prop := Claim7.holds Tryd.pinned (.plain (OpenSpec.ofChange packetNoneSpec)) packetNoneCard

/-- THE TIED CARD OF 'tabularylaw07.PacketSizes'. -/
def packetSizesCard : Claim7 := { stood := { row := packetSizesRow, standIns := [], harness := (true, "b39ddb5b5fa8f7dc8bc8337929b2fc2cefa05508a44a1b842d6b751571085c93"), looks := false }, kinds := [], alts := [], laidByText := true, laidKinds := [.data, .data], laidTests := true, laidLooks := .later }
def PacketSizesCardSaid : Prop := Claim7.holds Tryd.pinned (.plain (OpenSpec.ofChange packetSizesSpec)) packetSizesCard

/-- THE TIED CARD OF 'tabularylaw07.PacketRuns'. -/
def packetRunsCard : Claim7 := { stood := { row := packetRunsRow, standIns := [], harness := (true, "b39ddb5b5fa8f7dc8bc8337929b2fc2cefa05508a44a1b842d6b751571085c93"), looks := false }, kinds := [], alts := [], laidByText := true, laidKinds := [.data, .data], laidTests := true, laidLooks := .later }
def PacketRunsCardSaid : Prop := Claim7.holds Tryd.pinned (.plain (OpenSpec.ofChange packetRunsSpec)) packetRunsCard

/-- THE TIED CARD OF 'tabularylaw07.PacketBack'. -/
def packetBackCard : Claim7 := { stood := { row := packetBackRow, standIns := [], harness := (true, "b39ddb5b5fa8f7dc8bc8337929b2fc2cefa05508a44a1b842d6b751571085c93"), looks := false }, kinds := [], alts := [], laidByText := true, laidKinds := [.data, .data], laidTests := true, laidLooks := .later }
def PacketBackCardSaid : Prop := Claim7.holds Tryd.pinned (.plain (OpenSpec.ofChange packetBackSpec)) packetBackCard

/-- THE TIED CARD OF 'tabularylaw07.PacketApart'. -/
def packetApartCard : Claim7 := { stood := { row := packetApartRow, standIns := [], harness := (true, "b39ddb5b5fa8f7dc8bc8337929b2fc2cefa05508a44a1b842d6b751571085c93"), looks := false }, kinds := [], alts := [], laidByText := true, laidKinds := [.data, .data], laidTests := true, laidLooks := .later }
def PacketApartCardSaid : Prop := Claim7.holds Tryd.pinned (.plain (OpenSpec.ofChange packetApartSpec)) packetApartCard

/-- THE TIED CARD OF 'tabularylaw18.VaultOne'. -/
def vaultOneCard : Claim7 := { stood := { row := vaultOneRow, standIns := [], harness := (true, "b39ddb5b5fa8f7dc8bc8337929b2fc2cefa05508a44a1b842d6b751571085c93"), looks := false }, kinds := [], alts := [], laidByText := true, laidKinds := [.data, .data], laidTests := true, laidLooks := .later }
def VaultOneCardSaid : Prop := Claim7.holds Tryd.pinned (.plain (OpenSpec.ofChange vaultOneSpec)) vaultOneCard

/-- THE TIED CARD OF 'tabularylaw18.VaultFull'. -/
def vaultFullCard : Claim7 := { stood := { row := vaultFullRow, standIns := [], harness := (true, "b39ddb5b5fa8f7dc8bc8337929b2fc2cefa05508a44a1b842d6b751571085c93"), looks := false }, kinds := [], alts := [], laidByText := true, laidKinds := [.data, .data], laidTests := true, laidLooks := .later }
def VaultFullCardSaid : Prop := Claim7.holds Tryd.pinned (.plain (OpenSpec.ofChange vaultFullSpec)) vaultFullCard

/-- THE TIED CARD OF 'tabularylaw18.VaultTurns'. -/
def vaultTurnsCard : Claim7 := { stood := { row := vaultTurnsRow, standIns := [], harness := (true, "b39ddb5b5fa8f7dc8bc8337929b2fc2cefa05508a44a1b842d6b751571085c93"), looks := false }, kinds := [], alts := [], laidByText := true, laidKinds := [.data, .data], laidTests := true, laidLooks := .later }
def VaultTurnsCardSaid : Prop := Claim7.holds Tryd.pinned (.plain (OpenSpec.ofChange vaultTurnsSpec)) vaultTurnsCard

/-- THE TIED CARD OF 'tabularylaw18.VaultRuns'. -/
def vaultRunsCard : Claim7 := { stood := { row := vaultRunsRow, standIns := [], harness := (true, "b39ddb5b5fa8f7dc8bc8337929b2fc2cefa05508a44a1b842d6b751571085c93"), looks := false }, kinds := [], alts := [], laidByText := true, laidKinds := [.data, .data], laidTests := true, laidLooks := .later }
def VaultRunsCardSaid : Prop := Claim7.holds Tryd.pinned (.plain (OpenSpec.ofChange vaultRunsSpec)) vaultRunsCard

/-- THE TIED CARD OF 'tabularylaw18.VaultCrashes'. -/
def vaultCrashesCard : Claim7 := { stood := { row := vaultCrashesRow, standIns := [], harness := (true, "b39ddb5b5fa8f7dc8bc8337929b2fc2cefa05508a44a1b842d6b751571085c93"), looks := false }, kinds := [], alts := [], laidByText := true, laidKinds := [.data, .data], laidTests := true, laidLooks := .later }
def VaultCrashesCardSaid : Prop := Claim7.holds Tryd.pinned (.plain (OpenSpec.ofChange vaultCrashesSpec)) vaultCrashesCard

/-- THE TIED CARD OF 'tabularylaw18.VaultNone'. -/
def vaultNoneCard : Claim7 := { stood := { row := vaultNoneRow, standIns := [], harness := (true, "b39ddb5b5fa8f7dc8bc8337929b2fc2cefa05508a44a1b842d6b751571085c93"), looks := false }, kinds := [], alts := [], laidByText := true, laidKinds := [.data, .data], laidTests := true, laidLooks := .later }
def VaultNoneCardSaid : Prop := Claim7.holds Tryd.pinned (.plain (OpenSpec.ofChange vaultNoneSpec)) vaultNoneCard

/-- THE SECOND FORM's CARD OF 'tabularylaw07.PacketNone'. -/
def packetNoneUptoCard : Claim7 := { stood := { row := packetNoneUptoRow, standIns := [], harness := (true, "b39ddb5b5fa8f7dc8bc8337929b2fc2cefa05508a44a1b842d6b751571085c93"), looks := false }, kinds := [], alts := [], laidByText := true, laidKinds := [.data, .data], laidTests := true, laidLooks := .later }
def PacketNoneUptoCardSaid : Prop := Claim7.holds Tryd.pinned (.plain (OpenSpec.upto packetNoneSpec)) packetNoneUptoCard

/-- THE SECOND FORM's CARD OF 'tabularylaw07.PacketSizes'. -/
def packetSizesUptoCard : Claim7 := { stood := { row := packetSizesUptoRow, standIns := [], harness := (true, "b39ddb5b5fa8f7dc8bc8337929b2fc2cefa05508a44a1b842d6b751571085c93"), looks := false }, kinds := [], alts := [], laidByText := true, laidKinds := [.data, .data], laidTests := true, laidLooks := .later }
def PacketSizesUptoCardSaid : Prop := Claim7.holds Tryd.pinned (.plain (OpenSpec.upto packetSizesSpec)) packetSizesUptoCard

/-- THE SECOND FORM's CARD OF 'tabularylaw07.PacketRuns'. -/
def packetRunsUptoCard : Claim7 := { stood := { row := packetRunsUptoRow, standIns := [], harness := (true, "b39ddb5b5fa8f7dc8bc8337929b2fc2cefa05508a44a1b842d6b751571085c93"), looks := false }, kinds := [], alts := [], laidByText := true, laidKinds := [.data, .data], laidTests := true, laidLooks := .later }
def PacketRunsUptoCardSaid : Prop := Claim7.holds Tryd.pinned (.plain (OpenSpec.upto packetRunsSpec)) packetRunsUptoCard

/-- THE SECOND FORM's CARD OF 'tabularylaw07.PacketBack'. -/
def packetBackUptoCard : Claim7 := { stood := { row := packetBackUptoRow, standIns := [], harness := (true, "b39ddb5b5fa8f7dc8bc8337929b2fc2cefa05508a44a1b842d6b751571085c93"), looks := false }, kinds := [], alts := [], laidByText := true, laidKinds := [.data, .data], laidTests := true, laidLooks := .later }
def PacketBackUptoCardSaid : Prop := Claim7.holds Tryd.pinned (.plain (OpenSpec.upto packetBackSpec)) packetBackUptoCard

/-- THE SECOND FORM's CARD OF 'tabularylaw07.PacketApart'. -/
def packetApartUptoCard : Claim7 := { stood := { row := packetApartUptoRow, standIns := [], harness := (true, "b39ddb5b5fa8f7dc8bc8337929b2fc2cefa05508a44a1b842d6b751571085c93"), looks := false }, kinds := [], alts := [], laidByText := true, laidKinds := [.data, .data], laidTests := true, laidLooks := .later }
def PacketApartUptoCardSaid : Prop := Claim7.holds Tryd.pinned (.plain (OpenSpec.upto packetApartSpec)) packetApartUptoCard

/-- THE SECOND FORM's CARD OF 'tabularylaw18.VaultOne'. -/
def vaultOneUptoCard : Claim7 := { stood := { row := vaultOneUptoRow, standIns := [], harness := (true, "b39ddb5b5fa8f7dc8bc8337929b2fc2cefa05508a44a1b842d6b751571085c93"), looks := false }, kinds := [], alts := [], laidByText := true, laidKinds := [.data, .data], laidTests := true, laidLooks := .later }
def VaultOneUptoCardSaid : Prop := Claim7.holds Tryd.pinned (.plain (OpenSpec.upto vaultOneSpec)) vaultOneUptoCard

/-- THE SECOND FORM's CARD OF 'tabularylaw18.VaultFull'. -/
def vaultFullUptoCard : Claim7 := { stood := { row := vaultFullUptoRow, standIns := [], harness := (true, "b39ddb5b5fa8f7dc8bc8337929b2fc2cefa05508a44a1b842d6b751571085c93"), looks := false }, kinds := [], alts := [], laidByText := true, laidKinds := [.data, .data], laidTests := true, laidLooks := .later }
def VaultFullUptoCardSaid : Prop := Claim7.holds Tryd.pinned (.plain (OpenSpec.upto vaultFullSpec)) vaultFullUptoCard

/-- THE SECOND FORM's CARD OF 'tabularylaw18.VaultTurns'. -/
def vaultTurnsUptoCard : Claim7 := { stood := { row := vaultTurnsUptoRow, standIns := [], harness := (true, "b39ddb5b5fa8f7dc8bc8337929b2fc2cefa05508a44a1b842d6b751571085c93"), looks := false }, kinds := [], alts := [], laidByText := true, laidKinds := [.data, .data], laidTests := true, laidLooks := .later }
def VaultTurnsUptoCardSaid : Prop := Claim7.holds Tryd.pinned (.plain (OpenSpec.upto vaultTurnsSpec)) vaultTurnsUptoCard

/-- THE SECOND FORM's CARD OF 'tabularylaw18.VaultRuns'. -/
def vaultRunsUptoCard : Claim7 := { stood := { row := vaultRunsUptoRow, standIns := [], harness := (true, "b39ddb5b5fa8f7dc8bc8337929b2fc2cefa05508a44a1b842d6b751571085c93"), looks := false }, kinds := [], alts := [], laidByText := true, laidKinds := [.data, .data], laidTests := true, laidLooks := .later }
def VaultRunsUptoCardSaid : Prop := Claim7.holds Tryd.pinned (.plain (OpenSpec.upto vaultRunsSpec)) vaultRunsUptoCard

/-- THE SECOND FORM's CARD OF 'tabularylaw18.VaultCrashes'. -/
def vaultCrashesUptoCard : Claim7 := { stood := { row := vaultCrashesUptoRow, standIns := [], harness := (true, "b39ddb5b5fa8f7dc8bc8337929b2fc2cefa05508a44a1b842d6b751571085c93"), looks := false }, kinds := [], alts := [], laidByText := true, laidKinds := [.data, .data], laidTests := true, laidLooks := .later }
def VaultCrashesUptoCardSaid : Prop := Claim7.holds Tryd.pinned (.plain (OpenSpec.upto vaultCrashesSpec)) vaultCrashesUptoCard

/-- THE SECOND FORM's CARD OF 'tabularylaw18.VaultNone'. -/
def vaultNoneUptoCard : Claim7 := { stood := { row := vaultNoneUptoRow, standIns := [], harness := (true, "b39ddb5b5fa8f7dc8bc8337929b2fc2cefa05508a44a1b842d6b751571085c93"), looks := false }, kinds := [], alts := [], laidByText := true, laidKinds := [.data, .data], laidTests := true, laidLooks := .later }
def VaultNoneUptoCardSaid : Prop := Claim7.holds Tryd.pinned (.plain (OpenSpec.upto vaultNoneSpec)) vaultNoneUptoCard
end Rows
end Go.Proofs.YtfhalnobaeogkaaDoor
