/-
  DERIVED. GIVEN WITH THE SEED: THE CARDS: each row of YtablmjophjjabaaDoorRows.lean that lists a variable, with what it lists TIED to the program's text (the seventh form; the later family's looks); each row that meets fmt, with fmt's text TOLD by the authors' own Lean function (tested against real Go, not proved from fmt's source: count such statements apart). THE CARD IS WHAT COUNTS. Prove the row's statement (the work); the ties are given (YtablmjophjjabaaDoorTie.lean); close each card by the builder's one call (the guide's Derived/Test/ToyasCard.lean, 'card_holds'). Laid BY PROGRAM, IN A SANDBOX (cutbox-door.mjs). By AI agents, Wed Nov 11 2026. No macro, syntax, notation, axiom, sorry.
-/
import Derived.Test.YtablmjophjjabaaDoorRows
import GoSem.ClaimSeven
namespace Go.Proofs.YtablmjophjjabaaDoor
namespace Rows

/-- THE TIED CARD OF 'topiarylaw05.BytesSpans'. -/
def bytesSpansCard : Claim7 := { stood := { row := bytesSpansRow, standIns := [], harness := (true, "3b242a9e90caa5af4e64a97a120e72bf3e0bda5e429e6398f57cd912184e74a9"), looks := false }, kinds := [], alts := [], laidByText := true, laidKinds := [.data], laidTests := true, laidLooks := .later }
def BytesSpansCardSaid : Prop := Claim7.holds Tryd.pinned (.plain (OpenSpec.ofChange bytesSpansSpec)) bytesSpansCard

/-- THE TIED CARD OF 'topiarylaw05.BytesTwo'. -/
def bytesTwoCard : Claim7 := { stood := { row := bytesTwoRow, standIns := [], harness := (true, "3b242a9e90caa5af4e64a97a120e72bf3e0bda5e429e6398f57cd912184e74a9"), looks := false }, kinds := [], alts := [], laidByText := true, laidKinds := [.data], laidTests := true, laidLooks := .later }
def BytesTwoCardSaid : Prop := Claim7.holds Tryd.pinned (.plain (OpenSpec.ofChange bytesTwoSpec)) bytesTwoCard

/-- THE TIED CARD OF 'topiarylaw05.BytesParts'. -/
def bytesPartsCard : Claim7 := { stood := { row := bytesPartsRow, standIns := [], harness := (true, "3b242a9e90caa5af4e64a97a120e72bf3e0bda5e429e6398f57cd912184e74a9"), looks := false }, kinds := [], alts := [], laidByText := true, laidKinds := [.data], laidTests := true, laidLooks := .later }
def BytesPartsCardSaid : Prop := Claim7.holds Tryd.pinned (.plain (OpenSpec.ofChange bytesPartsSpec)) bytesPartsCard

/-- THE TIED CARD OF 'topiarylaw05.BytesCounts'. -/
def bytesCountsCard : Claim7 := { stood := { row := bytesCountsRow, standIns := [], harness := (true, "3b242a9e90caa5af4e64a97a120e72bf3e0bda5e429e6398f57cd912184e74a9"), looks := false }, kinds := [], alts := [], laidByText := true, laidKinds := [.data], laidTests := true, laidLooks := .later }
def BytesCountsCardSaid : Prop := Claim7.holds Tryd.pinned (.plain (OpenSpec.ofChange bytesCountsSpec)) bytesCountsCard

/-- THE TIED CARD OF 'topiarylaw05.BytesWhole'. -/
def bytesWholeCard : Claim7 := { stood := { row := bytesWholeRow, standIns := [], harness := (true, "3b242a9e90caa5af4e64a97a120e72bf3e0bda5e429e6398f57cd912184e74a9"), looks := false }, kinds := [], alts := [], laidByText := true, laidKinds := [.data], laidTests := true, laidLooks := .later }
def BytesWholeCardSaid : Prop := Claim7.holds Tryd.pinned (.plain (OpenSpec.ofChange bytesWholeSpec)) bytesWholeCard

/-- THE TIED CARD OF 'topiarylaw04.SetsFinds'. -/
def setsFindsCard : Claim7 := { stood := { row := setsFindsRow, standIns := [], harness := (true, "3b242a9e90caa5af4e64a97a120e72bf3e0bda5e429e6398f57cd912184e74a9"), looks := false }, kinds := [], alts := [], laidByText := true, laidKinds := [.data, .data, .data], laidTests := true, laidLooks := .later }
def SetsFindsCardSaid : Prop := Claim7.holds Tryd.pinned (.plain (OpenSpec.ofChange setsFindsSpec)) setsFindsCard

/-- THE SECOND FORM's CARD OF 'topiarylaw05.BytesSpans'. -/
def bytesSpansUptoCard : Claim7 := { stood := { row := bytesSpansUptoRow, standIns := [], harness := (true, "3b242a9e90caa5af4e64a97a120e72bf3e0bda5e429e6398f57cd912184e74a9"), looks := false }, kinds := [], alts := [], laidByText := true, laidKinds := [.data], laidTests := true, laidLooks := .later }
def BytesSpansUptoCardSaid : Prop := Claim7.holds Tryd.pinned (.plain (OpenSpec.upto bytesSpansSpec)) bytesSpansUptoCard

/-- THE SECOND FORM's CARD OF 'topiarylaw05.BytesTwo'. -/
def bytesTwoUptoCard : Claim7 := { stood := { row := bytesTwoUptoRow, standIns := [], harness := (true, "3b242a9e90caa5af4e64a97a120e72bf3e0bda5e429e6398f57cd912184e74a9"), looks := false }, kinds := [], alts := [], laidByText := true, laidKinds := [.data], laidTests := true, laidLooks := .later }
def BytesTwoUptoCardSaid : Prop := Claim7.holds Tryd.pinned (.plain (OpenSpec.upto bytesTwoSpec)) bytesTwoUptoCard

/-- THE SECOND FORM's CARD OF 'topiarylaw05.BytesParts'. -/
def bytesPartsUptoCard : Claim7 := { stood := { row := bytesPartsUptoRow, standIns := [], harness := (true, "3b242a9e90caa5af4e64a97a120e72bf3e0bda5e429e6398f57cd912184e74a9"), looks := false }, kinds := [], alts := [], laidByText := true, laidKinds := [.data], laidTests := true, laidLooks := .later }
def BytesPartsUptoCardSaid : Prop := Claim7.holds Tryd.pinned (.plain (OpenSpec.upto bytesPartsSpec)) bytesPartsUptoCard

/-- THE SECOND FORM's CARD OF 'topiarylaw05.BytesCounts'. -/
def bytesCountsUptoCard : Claim7 := { stood := { row := bytesCountsUptoRow, standIns := [], harness := (true, "3b242a9e90caa5af4e64a97a120e72bf3e0bda5e429e6398f57cd912184e74a9"), looks := false }, kinds := [], alts := [], laidByText := true, laidKinds := [.data], laidTests := true, laidLooks := .later }
def BytesCountsUptoCardSaid : Prop := Claim7.holds Tryd.pinned (.plain (OpenSpec.upto bytesCountsSpec)) bytesCountsUptoCard

/-- THE SECOND FORM's CARD OF 'topiarylaw05.BytesWhole'. -/
def bytesWholeUptoCard : Claim7 := { stood := { row := bytesWholeUptoRow, standIns := [], harness := (true, "3b242a9e90caa5af4e64a97a120e72bf3e0bda5e429e6398f57cd912184e74a9"), looks := false }, kinds := [], alts := [], laidByText := true, laidKinds := [.data], laidTests := true, laidLooks := .later }
def BytesWholeUptoCardSaid : Prop := Claim7.holds Tryd.pinned (.plain (OpenSpec.upto bytesWholeSpec)) bytesWholeUptoCard

/-- THE SECOND FORM's CARD OF 'topiarylaw04.SetsFinds'. -/
def setsFindsUptoCard : Claim7 := { stood := { row := setsFindsUptoRow, standIns := [], harness := (true, "3b242a9e90caa5af4e64a97a120e72bf3e0bda5e429e6398f57cd912184e74a9"), looks := false }, kinds := [], alts := [], laidByText := true, laidKinds := [.data, .data, .data], laidTests := true, laidLooks := .later }
def SetsFindsUptoCardSaid : Prop := Claim7.holds Tryd.pinned (.plain (OpenSpec.upto setsFindsSpec)) setsFindsUptoCard
end Rows
end Go.Proofs.YtablmjophjjabaaDoor
