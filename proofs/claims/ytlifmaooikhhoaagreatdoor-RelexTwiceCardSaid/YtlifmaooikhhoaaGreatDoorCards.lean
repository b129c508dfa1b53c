/-
  DERIVED. GIVEN WITH THE SEED: THE CARDS: each row of YtlifmaooikhhoaaGreatDoorRows.lean that lists a variable, with what it lists TIED to the program's text (the seventh form; the later family's looks); each row that meets fmt, with fmt's text TOLD by the authors' own Lean function (tested against real Go, not proved from fmt's source: count such statements apart). THE CARD IS WHAT COUNTS. Prove the row's statement (the work); the ties are given (YtlifmaooikhhoaaGreatDoorTie.lean); close each card by the builder's one call (the guide's Derived/Test/ToyasCard.lean, 'card_holds'). Laid BY PROGRAM, IN A SANDBOX (cutbox-door.mjs). By AI agents, Wed Nov 11 2026. No macro, syntax, notation, axiom, sorry.
-/
import Derived.Test.YtlifmaooikhhoaaGreatDoorRows
import GoSem.ClaimSeven
namespace Go.Proofs.YtlifmaooikhhoaaGreatDoor
namespace Rows

/-- THE TIED CARD OF 'topiarylaw08.DfaRight'. -/
def dfaRightCard : Claim7 := { stood := { row := dfaRightRow, standIns := [], harness := (true, "44ef1d40603588471d331a65e5a90d59cdad4a1a06ba7c219a1a31a76eafd3a0"), looks := true }, kinds := [], alts := [], laidByText := true, laidKinds := [.data, .data, .data], laidTests := true, laidLooks := .later }
def DfaRightCardSaid : Prop := Claim7.holds Tryz.pinned (.plain (OpenSpec.ofChange dfaRightSpec)) dfaRightCard

/-- THE TIED CARD OF 'topiarylaw10.LexCovers'. -/
def lexCoversCard : Claim7 := { stood := { row := lexCoversRow, standIns := [], harness := (true, "44ef1d40603588471d331a65e5a90d59cdad4a1a06ba7c219a1a31a76eafd3a0"), looks := true }, kinds := [], alts := [], laidByText := true, laidKinds := [.data, .data, .data], laidTests := true, laidLooks := .later }
def LexCoversCardSaid : Prop := Claim7.holds Tryz.pinned (.plain (OpenSpec.ofChange lexCoversSpec)) lexCoversCard

/-- THE TIED CARD OF 'topiarylaw10.LexAll'. -/
def lexAllCard : Claim7 := { stood := { row := lexAllRow, standIns := [], harness := (true, "44ef1d40603588471d331a65e5a90d59cdad4a1a06ba7c219a1a31a76eafd3a0"), looks := true }, kinds := [], alts := [], laidByText := true, laidKinds := [.data, .data, .data], laidTests := true, laidLooks := .later }
def LexAllCardSaid : Prop := Claim7.holds Tryz.pinned (.plain (OpenSpec.ofChange lexAllSpec)) lexAllCard

/-- THE TIED CARD OF 'topiarylaw10.LexOne'. -/
def lexOneCard : Claim7 := { stood := { row := lexOneRow, standIns := [], harness := (true, "44ef1d40603588471d331a65e5a90d59cdad4a1a06ba7c219a1a31a76eafd3a0"), looks := true }, kinds := [], alts := [], laidByText := true, laidKinds := [.data, .data, .data], laidTests := true, laidLooks := .later }
def LexOneCardSaid : Prop := Claim7.holds Tryz.pinned (.plain (OpenSpec.ofChange lexOneSpec)) lexOneCard

/-- THE TIED CARD OF 'topiarylaw23.RelexCuts'. -/
def relexCutsCard : Claim7 := { stood := { row := relexCutsRow, standIns := [], harness := (true, "44ef1d40603588471d331a65e5a90d59cdad4a1a06ba7c219a1a31a76eafd3a0"), looks := true }, kinds := [], alts := [], laidByText := true, laidKinds := [.data, .data, .data], laidTests := true, laidLooks := .later }
def RelexCutsCardSaid : Prop := Claim7.holds Tryz.pinned (.plain (OpenSpec.ofChange relexCutsSpec)) relexCutsCard

/-- THE TIED CARD OF 'topiarylaw23.RelexEdits'. -/
def relexEditsCard : Claim7 := { stood := { row := relexEditsRow, standIns := [], harness := (true, "44ef1d40603588471d331a65e5a90d59cdad4a1a06ba7c219a1a31a76eafd3a0"), looks := true }, kinds := [], alts := [], laidByText := true, laidKinds := [.data, .data, .data], laidTests := true, laidLooks := .later }
def RelexEditsCardSaid : Prop := Claim7.holds Tryz.pinned (.plain (OpenSpec.ofChange relexEditsSpec)) relexEditsCard

/-- THE TIED CARD OF 'topiarylaw23.RelexOther'. -/
def relexOtherCard : Claim7 := { stood := { row := relexOtherRow, standIns := [], harness := (true, "44ef1d40603588471d331a65e5a90d59cdad4a1a06ba7c219a1a31a76eafd3a0"), looks := true }, kinds := [], alts := [], laidByText := true, laidKinds := [.data, .data, .data], laidTests := true, laidLooks := .later }
def RelexOtherCardSaid : Prop := Claim7.holds Tryz.pinned (.plain (OpenSpec.ofChange relexOtherSpec)) relexOtherCard

/-- THE TIED CARD OF 'topiarylaw23.RelexTwice'. -/
def relexTwiceCard : Claim7 := { stood := { row := relexTwiceRow, standIns := [], harness := (true, "44ef1d40603588471d331a65e5a90d59cdad4a1a06ba7c219a1a31a76eafd3a0"), looks := true }, kinds := [], alts := [], laidByText := true, laidKinds := [.data, .data, .data], laidTests := true, laidLooks := .later }
def RelexTwiceCardSaid : Prop := Claim7.holds Tryz.pinned (.plain (OpenSpec.ofChange relexTwiceSpec)) relexTwiceCard

/-- THE TIED CARD OF 'topiarylaw23.RelexFew'. -/
def relexFewCard : Claim7 := { stood := { row := relexFewRow, standIns := [], harness := (true, "44ef1d40603588471d331a65e5a90d59cdad4a1a06ba7c219a1a31a76eafd3a0"), looks := true }, kinds := [], alts := [], laidByText := true, laidKinds := [.data, .data, .data], laidTests := true, laidLooks := .later }
def RelexFewCardSaid : Prop := Claim7.holds Tryz.pinned (.plain (OpenSpec.ofChange relexFewSpec)) relexFewCard

/-- THE TIED CARD OF 'topiarylaw23.RelexIdle'. -/
def relexIdleCard : Claim7 := { stood := { row := relexIdleRow, standIns := [], harness := (true, "44ef1d40603588471d331a65e5a90d59cdad4a1a06ba7c219a1a31a76eafd3a0"), looks := true }, kinds := [], alts := [], laidByText := true, laidKinds := [.data, .data, .data], laidTests := true, laidLooks := .later }
def RelexIdleCardSaid : Prop := Claim7.holds Tryz.pinned (.plain (OpenSpec.ofChange relexIdleSpec)) relexIdleCard

/-- THE SECOND FORM's CARD OF 'topiarylaw08.DfaRight'. -/
def dfaRightUptoCard : Claim7 := { stood := { row := dfaRightUptoRow, standIns := [], harness := (true, "44ef1d40603588471d331a65e5a90d59cdad4a1a06ba7c219a1a31a76eafd3a0"), looks := true }, kinds := [], alts := [], laidByText := true, laidKinds := [.data, .data, .data], laidTests := true, laidLooks := .later }
def DfaRightUptoCardSaid : Prop := Claim7.holds Tryz.pinned (.plain (OpenSpec.upto dfaRightSpec)) dfaRightUptoCard

/-- THE SECOND FORM's CARD OF 'topiarylaw10.LexCovers'. -/
def lexCoversUptoCard : Claim7 := { stood := { row := lexCoversUptoRow, standIns := [], harness := (true, "44ef1d40603588471d331a65e5a90d59cdad4a1a06ba7c219a1a31a76eafd3a0"), looks := true }, kinds := [], alts := [], laidByText := true, laidKinds := [.data, .data, .data], laidTests := true, laidLooks := .later }
def LexCoversUptoCardSaid : Prop := Claim7.holds Tryz.pinned (.plain (OpenSpec.upto lexCoversSpec)) lexCoversUptoCard

/-- THE SECOND FORM's CARD OF 'topiarylaw10.LexAll'. -/
def lexAllUptoCard : Claim7 := { stood := { row := lexAllUptoRow, standIns := [], harness := (true, "44ef1d40603588471d331a65e5a90d59cdad4a1a06ba7c219a1a31a76eafd3a0"), looks := true }, kinds := [], alts := [], laidByText := true, laidKinds := [.data, .data, .data], laidTests := true, laidLooks := .later }
def LexAllUptoCardSaid : Prop := Claim7.holds Tryz.pinned (.plain (OpenSpec.upto lexAllSpec)) lexAllUptoCard

/-- THE SECOND FORM's CARD OF 'topiarylaw10.LexOne'. -/
def lexOneUptoCard : Claim7 := { stood := { row := lexOneUptoRow, standIns := [], harness := (true, "44ef1d40603588471d331a65e5a90d59cdad4a1a06ba7c219a1a31a76eafd3a0"), looks := true }, kinds := [], alts := [], laidByText := true, laidKinds := [.data, .data, .data], laidTests := true, laidLooks := .later }
def LexOneUptoCardSaid : Prop := Claim7.holds Tryz.pinned (.plain (OpenSpec.upto lexOneSpec)) lexOneUptoCard

/-- THE SECOND FORM's CARD OF 'topiarylaw23.RelexCuts'. -/
def relexCutsUptoCard : Claim7 := { stood := { row := relexCutsUptoRow, standIns := [], harness := (true, "44ef1d40603588471d331a65e5a90d59cdad4a1a06ba7c219a1a31a76eafd3a0"), looks := true }, kinds := [], alts := [], laidByText := true, laidKinds := [.data, .data, .data], laidTests := true, laidLooks := .later }
def RelexCutsUptoCardSaid : Prop := Claim7.holds Tryz.pinned (.plain (OpenSpec.upto relexCutsSpec)) relexCutsUptoCard

/-- THE SECOND FORM's CARD OF 'topiarylaw23.RelexEdits'. -/
def relexEditsUptoCard : Claim7 := { stood := { row := relexEditsUptoRow, standIns := [], harness := (true, "44ef1d40603588471d331a65e5a90d59cdad4a1a06ba7c219a1a31a76eafd3a0"), looks := true }, kinds := [], alts := [], laidByText := true, laidKinds := [.data, .data, .data], laidTests := true, laidLooks := .later }
def RelexEditsUptoCardSaid : Prop := Claim7.holds Tryz.pinned (.plain (OpenSpec.upto relexEditsSpec)) relexEditsUptoCard

/-- THE SECOND FORM's CARD OF 'topiarylaw23.RelexOther'. -/
def relexOtherUptoCard : Claim7 := { stood := { row := relexOtherUptoRow, standIns := [], harness := (true, "44ef1d40603588471d331a65e5a90d59cdad4a1a06ba7c219a1a31a76eafd3a0"), looks := true }, kinds := [], alts := [], laidByText := true, laidKinds := [.data, .data, .data], laidTests := true, laidLooks := .later }
def RelexOtherUptoCardSaid : Prop := Claim7.holds Tryz.pinned (.plain (OpenSpec.upto relexOtherSpec)) relexOtherUptoCard

/-- THE SECOND FORM's CARD OF 'topiarylaw23.RelexTwice'. -/
def relexTwiceUptoCard : Claim7 := { stood := { row := relexTwiceUptoRow, standIns := [], harness := (true, "44ef1d40603588471d331a65e5a90d59cdad4a1a06ba7c219a1a31a76eafd3a0"), looks := true }, kinds := [], alts := [], laidByText := true, laidKinds := [.data, .data, .data], laidTests := true, laidLooks := .later }
def RelexTwiceUptoCardSaid : Prop := Claim7.holds Tryz.pinned (.plain (OpenSpec.upto relexTwiceSpec)) relexTwiceUptoCard

/-- THE SECOND FORM's CARD OF 'topiarylaw23.RelexFew'. -/
def relexFewUptoCard : Claim7 := { stood := { row := relexFewUptoRow, standIns := [], harness := (true, "44ef1d40603588471d331a65e5a90d59cdad4a1a06ba7c219a1a31a76eafd3a0"), looks := true }, kinds := [], alts := [], laidByText := true, laidKinds := [.data, .data, .data], laidTests := true, laidLooks := .later }
def RelexFewUptoCardSaid : Prop := Claim7.holds Tryz.pinned (.plain (OpenSpec.upto relexFewSpec)) relexFewUptoCard

/-- THE SECOND FORM's CARD OF 'topiarylaw23.RelexIdle'. -/
def relexIdleUptoCard : Claim7 := { stood := { row := relexIdleUptoRow, standIns := [], harness := (true, "44ef1d40603588471d331a65e5a90d59cdad4a1a06ba7c219a1a31a76eafd3a0"), looks := true }, kinds := [], alts := [], laidByText := true, laidKinds := [.data, .data, .data], laidTests := true, laidLooks := .later }
def RelexIdleUptoCardSaid : Prop := Claim7.holds Tryz.pinned (.plain (OpenSpec.upto relexIdleSpec)) relexIdleUptoCard
end Rows
end Go.Proofs.YtlifmaooikhhoaaGreatDoor
