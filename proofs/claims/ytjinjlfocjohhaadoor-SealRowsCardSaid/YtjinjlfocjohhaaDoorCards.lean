/-
  DERIVED. GIVEN WITH THE SEED: THE CARDS: each row of YtjinjlfocjohhaaDoorRows.lean that lists a variable, with what it lists TIED to the program's text (the seventh form; the later family's looks); each row that meets fmt, with fmt's text TOLD by the authors' own Lean function (tested against real Go, not proved from fmt's source: count such statements apart). THE CARD IS WHAT COUNTS. Prove the row's statement (the work); the ties are given (YtjinjlfocjohhaaDoorTie.lean); close each card by the builder's one call (the guide's Derived/Test/ToyasCard.lean, 'card_holds'). Laid BY PROGRAM, IN A SANDBOX (cutbox-door.mjs). By AI agents, Wed Nov 11 2026. No macro, syntax, notation, axiom, sorry.
-/
import Derived.Test.YtjinjlfocjohhaaDoorRows
import GoSem.ClaimSeven
namespace Go.Proofs.YtjinjlfocjohhaaDoor
namespace Rows

/-- THE TIED CARD OF 'staithlaw01.WordRounds'. -/
def wordRoundsCard : Claim7 := { stood := { row := wordRoundsRow, standIns := [], harness := (true, "2c6a40db713d5c9a4363ef14da5ec676d9ecb64f7a80fe8f1cac5a9f50c2931b"), looks := false }, kinds := [], alts := [], laidByText := true, laidKinds := [.data], laidTests := true, laidLooks := .later }
def WordRoundsCardSaid : Prop := Claim7.holds Tryd.pinned (.plain (OpenSpec.ofChange wordRoundsSpec)) wordRoundsCard

/-- THE TIED CARD OF 'staithlaw01.WordSteps'. -/
def wordStepsCard : Claim7 := { stood := { row := wordStepsRow, standIns := [], harness := (true, "2c6a40db713d5c9a4363ef14da5ec676d9ecb64f7a80fe8f1cac5a9f50c2931b"), looks := false }, kinds := [], alts := [], laidByText := true, laidKinds := [.data], laidTests := true, laidLooks := .later }
def WordStepsCardSaid : Prop := Claim7.holds Tryd.pinned (.plain (OpenSpec.ofChange wordStepsSpec)) wordStepsCard

/-- THE TIED CARD OF 'staithlaw01.WordHalves'. -/
def wordHalvesCard : Claim7 := { stood := { row := wordHalvesRow, standIns := [], harness := (true, "2c6a40db713d5c9a4363ef14da5ec676d9ecb64f7a80fe8f1cac5a9f50c2931b"), looks := false }, kinds := [], alts := [], laidByText := true, laidKinds := [.data], laidTests := true, laidLooks := .later }
def WordHalvesCardSaid : Prop := Claim7.holds Tryd.pinned (.plain (OpenSpec.ofChange wordHalvesSpec)) wordHalvesCard

/-- THE TIED CARD OF 'staithlaw01.WordCuts'. -/
def wordCutsCard : Claim7 := { stood := { row := wordCutsRow, standIns := [], harness := (true, "2c6a40db713d5c9a4363ef14da5ec676d9ecb64f7a80fe8f1cac5a9f50c2931b"), looks := false }, kinds := [], alts := [], laidByText := true, laidKinds := [.data], laidTests := true, laidLooks := .later }
def WordCutsCardSaid : Prop := Claim7.holds Tryd.pinned (.plain (OpenSpec.ofChange wordCutsSpec)) wordCutsCard

/-- THE TIED CARD OF 'staithlaw01.WordSigns'. -/
def wordSignsCard : Claim7 := { stood := { row := wordSignsRow, standIns := [], harness := (true, "2c6a40db713d5c9a4363ef14da5ec676d9ecb64f7a80fe8f1cac5a9f50c2931b"), looks := false }, kinds := [], alts := [], laidByText := true, laidKinds := [.data], laidTests := true, laidLooks := .later }
def WordSignsCardSaid : Prop := Claim7.holds Tryd.pinned (.plain (OpenSpec.ofChange wordSignsSpec)) wordSignsCard

/-- THE TIED CARD OF 'staithlaw01.WordBytes'. -/
def wordBytesCard : Claim7 := { stood := { row := wordBytesRow, standIns := [], harness := (true, "2c6a40db713d5c9a4363ef14da5ec676d9ecb64f7a80fe8f1cac5a9f50c2931b"), looks := false }, kinds := [], alts := [], laidByText := true, laidKinds := [.data], laidTests := true, laidLooks := .later }
def WordBytesCardSaid : Prop := Claim7.holds Tryd.pinned (.plain (OpenSpec.ofChange wordBytesSpec)) wordBytesCard

/-- THE TIED CARD OF 'staithlaw01.WordBack'. -/
def wordBackCard : Claim7 := { stood := { row := wordBackRow, standIns := [], harness := (true, "2c6a40db713d5c9a4363ef14da5ec676d9ecb64f7a80fe8f1cac5a9f50c2931b"), looks := false }, kinds := [], alts := [], laidByText := true, laidKinds := [.data], laidTests := true, laidLooks := .later }
def WordBackCardSaid : Prop := Claim7.holds Tryd.pinned (.plain (OpenSpec.ofChange wordBackSpec)) wordBackCard

/-- THE TIED CARD OF 'staithlaw03.SealBytes'. -/
def sealBytesCard : Claim7 := { stood := { row := sealBytesRow, standIns := [], harness := (true, "2c6a40db713d5c9a4363ef14da5ec676d9ecb64f7a80fe8f1cac5a9f50c2931b"), looks := false }, kinds := [], alts := [], laidByText := true, laidKinds := [.data], laidTests := true, laidLooks := .later }
def SealBytesCardSaid : Prop := Claim7.holds Tryd.pinned (.plain (OpenSpec.ofChange sealBytesSpec)) sealBytesCard

/-- THE TIED CARD OF 'staithlaw03.SealOpens'. -/
def sealOpensCard : Claim7 := { stood := { row := sealOpensRow, standIns := [], harness := (true, "2c6a40db713d5c9a4363ef14da5ec676d9ecb64f7a80fe8f1cac5a9f50c2931b"), looks := false }, kinds := [], alts := [], laidByText := true, laidKinds := [.data], laidTests := true, laidLooks := .later }
def SealOpensCardSaid : Prop := Claim7.holds Tryd.pinned (.plain (OpenSpec.ofChange sealOpensSpec)) sealOpensCard

/-- THE TIED CARD OF 'staithlaw03.SealBack'. -/
def sealBackCard : Claim7 := { stood := { row := sealBackRow, standIns := [], harness := (true, "2c6a40db713d5c9a4363ef14da5ec676d9ecb64f7a80fe8f1cac5a9f50c2931b"), looks := false }, kinds := [], alts := [], laidByText := true, laidKinds := [.data], laidTests := true, laidLooks := .later }
def SealBackCardSaid : Prop := Claim7.holds Tryd.pinned (.plain (OpenSpec.ofChange sealBackSpec)) sealBackCard

/-- THE TIED CARD OF 'staithlaw03.SealBursts'. -/
def sealBurstsCard : Claim7 := { stood := { row := sealBurstsRow, standIns := [], harness := (true, "2c6a40db713d5c9a4363ef14da5ec676d9ecb64f7a80fe8f1cac5a9f50c2931b"), looks := false }, kinds := [], alts := [], laidByText := true, laidKinds := [.data], laidTests := true, laidLooks := .later }
def SealBurstsCardSaid : Prop := Claim7.holds Tryd.pinned (.plain (OpenSpec.ofChange sealBurstsSpec)) sealBurstsCard

/-- THE TIED CARD OF 'staithlaw03.SealRows'. -/
def sealRowsCard : Claim7 := { stood := { row := sealRowsRow, standIns := [], harness := (true, "2c6a40db713d5c9a4363ef14da5ec676d9ecb64f7a80fe8f1cac5a9f50c2931b"), looks := false }, kinds := [], alts := [], laidByText := true, laidKinds := [.data], laidTests := true, laidLooks := .later }
def SealRowsCardSaid : Prop := Claim7.holds Tryd.pinned (.plain (OpenSpec.ofChange sealRowsSpec)) sealRowsCard

/-- THE TIED CARD OF 'staithlaw03.SealApart'. -/
def sealApartCard : Claim7 := { stood := { row := sealApartRow, standIns := [], harness := (true, "2c6a40db713d5c9a4363ef14da5ec676d9ecb64f7a80fe8f1cac5a9f50c2931b"), looks := false }, kinds := [], alts := [], laidByText := true, laidKinds := [.data], laidTests := true, laidLooks := .later }
def SealApartCardSaid : Prop := Claim7.holds Tryd.pinned (.plain (OpenSpec.ofChange sealApartSpec)) sealApartCard

/-- THE SECOND FORM's CARD OF 'staithlaw01.WordRounds'. -/
def wordRoundsUptoCard : Claim7 := { stood := { row := wordRoundsUptoRow, standIns := [], harness := (true, "2c6a40db713d5c9a4363ef14da5ec676d9ecb64f7a80fe8f1cac5a9f50c2931b"), looks := false }, kinds := [], alts := [], laidByText := true, laidKinds := [.data], laidTests := true, laidLooks := .later }
def WordRoundsUptoCardSaid : Prop := Claim7.holds Tryd.pinned (.plain (OpenSpec.upto wordRoundsSpec)) wordRoundsUptoCard

/-- THE SECOND FORM's CARD OF 'staithlaw01.WordSteps'. -/
def wordStepsUptoCard : Claim7 := { stood := { row := wordStepsUptoRow, standIns := [], harness := (true, "2c6a40db713d5c9a4363ef14da5ec676d9ecb64f7a80fe8f1cac5a9f50c2931b"), looks := false }, kinds := [], alts := [], laidByText := true, laidKinds := [.data], laidTests := true, laidLooks := .later }
def WordStepsUptoCardSaid : Prop := Claim7.holds Tryd.pinned (.plain (OpenSpec.upto wordStepsSpec)) wordStepsUptoCard

/-- THE SECOND FORM's CARD OF 'staithlaw01.WordHalves'. -/
def wordHalvesUptoCard : Claim7 := { stood := { row := wordHalvesUptoRow, standIns := [], harness := (true, "2c6a40db713d5c9a4363ef14da5ec676d9ecb64f7a80fe8f1cac5a9f50c2931b"), looks := false }, kinds := [], alts := [], laidByText := true, laidKinds := [.data], laidTests := true, laidLooks := .later }
def WordHalvesUptoCardSaid : Prop := Claim7.holds Tryd.pinned (.plain (OpenSpec.upto wordHalvesSpec)) wordHalvesUptoCard

/-- THE SECOND FORM's CARD OF 'staithlaw01.WordCuts'. -/
def wordCutsUptoCard : Claim7 := { stood := { row := wordCutsUptoRow, standIns := [], harness := (true, "2c6a40db713d5c9a4363ef14da5ec676d9ecb64f7a80fe8f1cac5a9f50c2931b"), looks := false }, kinds := [], alts := [], laidByText := true, laidKinds := [.data], laidTests := true, laidLooks := .later }
def WordCutsUptoCardSaid : Prop := Claim7.holds Tryd.pinned (.plain (OpenSpec.upto wordCutsSpec)) wordCutsUptoCard

/-- THE SECOND FORM's CARD OF 'staithlaw01.WordSigns'. -/
def wordSignsUptoCard : Claim7 := { stood := { row := wordSignsUptoRow, standIns := [], harness := (true, "2c6a40db713d5c9a4363ef14da5ec676d9ecb64f7a80fe8f1cac5a9f50c2931b"), looks := false }, kinds := [], alts := [], laidByText := true, laidKinds := [.data], laidTests := true, laidLooks := .later }
def WordSignsUptoCardSaid : Prop := Claim7.holds Tryd.pinned (.plain (OpenSpec.upto wordSignsSpec)) wordSignsUptoCard

/-- THE SECOND FORM's CARD OF 'staithlaw01.WordBytes'. -/
def wordBytesUptoCard : Claim7 := { stood := { row := wordBytesUptoRow, standIns := [], harness := (true, "2c6a40db713d5c9a4363ef14da5ec676d9ecb64f7a80fe8f1cac5a9f50c2931b"), looks := false }, kinds := [], alts := [], laidByText := true, laidKinds := [.data], laidTests := true, laidLooks := .later }
def WordBytesUptoCardSaid : Prop := Claim7.holds Tryd.pinned (.plain (OpenSpec.upto wordBytesSpec)) wordBytesUptoCard

/-- THE SECOND FORM's CARD OF 'staithlaw01.WordBack'. -/
def wordBackUptoCard : Claim7 := { stood := { row := wordBackUptoRow, standIns := [], harness := (true, "2c6a40db713d5c9a4363ef14da5ec676d9ecb64f7a80fe8f1cac5a9f50c2931b"), looks := false }, kinds := [], alts := [], laidByText := true, laidKinds := [.data], laidTests := true, laidLooks := .later }
def WordBackUptoCardSaid : Prop := Claim7.holds Tryd.pinned (.plain (OpenSpec.upto wordBackSpec)) wordBackUptoCard

/-- THE SECOND FORM's CARD OF 'staithlaw03.SealBytes'. -/
def sealBytesUptoCard : Claim7 := { stood := { row := sealBytesUptoRow, standIns := [], harness := (true, "2c6a40db713d5c9a4363ef14da5ec676d9ecb64f7a80fe8f1cac5a9f50c2931b"), looks := false }, kinds := [], alts := [], laidByText := true, laidKinds := [.data], laidTests := true, laidLooks := .later }
def SealBytesUptoCardSaid : Prop := Claim7.holds Tryd.pinned (.plain (OpenSpec.upto sealBytesSpec)) sealBytesUptoCard

/-- THE SECOND FORM's CARD OF 'staithlaw03.SealOpens'. -/
def sealOpensUptoCard : Claim7 := { stood := { row := sealOpensUptoRow, standIns := [], harness := (true, "2c6a40db713d5c9a4363ef14da5ec676d9ecb64f7a80fe8f1cac5a9f50c2931b"), looks := false }, kinds := [], alts := [], laidByText := true, laidKinds := [.data], laidTests := true, laidLooks := .later }
def SealOpensUptoCardSaid : Prop := Claim7.holds Tryd.pinned (.plain (OpenSpec.upto sealOpensSpec)) sealOpensUptoCard

/-- THE SECOND FORM's CARD OF 'staithlaw03.SealBack'. -/
def sealBackUptoCard : Claim7 := { stood := { row := sealBackUptoRow, standIns := [], harness := (true, "2c6a40db713d5c9a4363ef14da5ec676d9ecb64f7a80fe8f1cac5a9f50c2931b"), looks := false }, kinds := [], alts := [], laidByText := true, laidKinds := [.data], laidTests := true, laidLooks := .later }
def SealBackUptoCardSaid : Prop := Claim7.holds Tryd.pinned (.plain (OpenSpec.upto sealBackSpec)) sealBackUptoCard

/-- THE SECOND FORM's CARD OF 'staithlaw03.SealBursts'. -/
def sealBurstsUptoCard : Claim7 := { stood := { row := sealBurstsUptoRow, standIns := [], harness := (true, "2c6a40db713d5c9a4363ef14da5ec676d9ecb64f7a80fe8f1cac5a9f50c2931b"), looks := false }, kinds := [], alts := [], laidByText := true, laidKinds := [.data], laidTests := true, laidLooks := .later }
def SealBurstsUptoCardSaid : Prop := Claim7.holds Tryd.pinned (.plain (OpenSpec.upto sealBurstsSpec)) sealBurstsUptoCard

/-- THE SECOND FORM's CARD OF 'staithlaw03.SealRows'. -/
def sealRowsUptoCard : Claim7 := { stood := { row := sealRowsUptoRow, standIns := [], harness := (true, "2c6a40db713d5c9a4363ef14da5ec676d9ecb64f7a80fe8f1cac5a9f50c2931b"), looks := false }, kinds := [], alts := [], laidByText := true, laidKinds := [.data], laidTests := true, laidLooks := .later }
def SealRowsUptoCardSaid : Prop := Claim7.holds Tryd.pinned (.plain (OpenSpec.upto sealRowsSpec)) sealRowsUptoCard

/-- THE SECOND FORM's CARD OF 'staithlaw03.SealApart'. -/
def sealApartUptoCard : Claim7 := { stood := { row := sealApartUptoRow, standIns := [], harness := (true, "2c6a40db713d5c9a4363ef14da5ec676d9ecb64f7a80fe8f1cac5a9f50c2931b"), looks := false }, kinds := [], alts := [], laidByText := true, laidKinds := [.data], laidTests := true, laidLooks := .later }
def SealApartUptoCardSaid : Prop := Claim7.holds Tryd.pinned (.plain (OpenSpec.upto sealApartSpec)) sealApartUptoCard
end Rows
end Go.Proofs.YtjinjlfocjohhaaDoor
