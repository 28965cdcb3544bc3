/-
  DERIVED. GIVEN WITH THE SEED: THE CARDS: each row of YtimfpnmcdicldaaDoorRows.lean that lists a variable, with what it lists TIED to the program's text (the seventh form; the later family's looks); each row that meets fmt, with fmt's text TOLD by the authors' own Lean function (tested against real Go, not proved from fmt's source: count such statements apart). THE CARD IS WHAT COUNTS. Prove the row's statement (the work); the ties are given (YtimfpnmcdicldaaDoorTie.lean); close each card by the builder's one call (the guide's Derived/Test/ToyasCard.lean, 'card_holds'). Laid BY PROGRAM, IN A SANDBOX (cutbox-door.mjs). By AI agents, Wed Nov 11 2026. No macro, syntax, notation, axiom, sorry.
-/
import Derived.Test.YtimfpnmcdicldaaDoorRows
import GoSem.ClaimSeven
namespace Go.Proofs.YtimfpnmcdicldaaDoor
namespace Rows

/-- THE TIED CARD OF 'laws.FnExactChannelText'. -/
def fnExactChannelTextCard : Claim7 := { stood := { row := fnExactChannelTextRow, standIns := [], harness := (true, "3c5d1abde885b458624fa97d3f925a85800a0aa273fad69290f9f40679c14aa5"), looks := true }, kinds := [], alts := [], laidByText := true, laidKinds := [.data, .data, .data], laidTests := true, laidLooks := .later }
def FnExactChannelTextCardSaid : Prop := Claim7.holds Tryd.pinned (.plain (OpenSpec.ofChange fnExactChannelTextSpec)) fnExactChannelTextCard

/-- THE TIED CARD OF 'laws.FnExactFogText'. -/
def fnExactFogTextCard : Claim7 := { stood := { row := fnExactFogTextRow, standIns := [], harness := (true, "3c5d1abde885b458624fa97d3f925a85800a0aa273fad69290f9f40679c14aa5"), looks := true }, kinds := [], alts := [], laidByText := true, laidKinds := [.data, .data, .data], laidTests := true, laidLooks := .later }
def FnExactFogTextCardSaid : Prop := Claim7.holds Tryd.pinned (.plain (OpenSpec.ofChange fnExactFogTextSpec)) fnExactFogTextCard

/-- THE TIED CARD OF 'laws.FnExactPhasesText'. -/
def fnExactPhasesTextCard : Claim7 := { stood := { row := fnExactPhasesTextRow, standIns := [], harness := (true, "3c5d1abde885b458624fa97d3f925a85800a0aa273fad69290f9f40679c14aa5"), looks := true }, kinds := [], alts := [], laidByText := true, laidKinds := [.data, .data, .data], laidTests := true, laidLooks := .later }
def FnExactPhasesTextCardSaid : Prop := Claim7.holds Tryd.pinned (.plain (OpenSpec.ofChange fnExactPhasesTextSpec)) fnExactPhasesTextCard

/-- THE TIED CARD OF 'laws.FnExactReadPhases'. -/
def fnExactReadPhasesCard : Claim7 := { stood := { row := fnExactReadPhasesRow, standIns := [], harness := (true, "3c5d1abde885b458624fa97d3f925a85800a0aa273fad69290f9f40679c14aa5"), looks := true }, kinds := [], alts := [], laidByText := true, laidKinds := [.data, .data, .data, .data, .sentinel, .sentinel, .pinned], laidTests := true, laidLooks := .later }
def FnExactReadPhasesCardSaid : Prop := Claim7.holds Tryd.pinned (.plain (OpenSpec.ofChange fnExactReadPhasesSpec)) fnExactReadPhasesCard

/-- THE TIED CARD OF 'laws.FnExactReadFog'. -/
def fnExactReadFogCard : Claim7 := { stood := { row := fnExactReadFogRow, standIns := [], harness := (true, "3c5d1abde885b458624fa97d3f925a85800a0aa273fad69290f9f40679c14aa5"), looks := true }, kinds := [], alts := [], laidByText := true, laidKinds := [.data, .data, .data, .data, .sentinel, .sentinel, .pinned], laidTests := true, laidLooks := .later }
def FnExactReadFogCardSaid : Prop := Claim7.holds Tryd.pinned (.plain (OpenSpec.ofChange fnExactReadFogSpec)) fnExactReadFogCard

/-- THE SECOND FORM's CARD OF 'laws.FnExactChannelText'. -/
def fnExactChannelTextUptoCard : Claim7 := { stood := { row := fnExactChannelTextUptoRow, standIns := [], harness := (true, "3c5d1abde885b458624fa97d3f925a85800a0aa273fad69290f9f40679c14aa5"), looks := true }, kinds := [], alts := [], laidByText := true, laidKinds := [.data, .data, .data], laidTests := true, laidLooks := .later }
def FnExactChannelTextUptoCardSaid : Prop := Claim7.holds Tryd.pinned (.plain (OpenSpec.upto fnExactChannelTextSpec)) fnExactChannelTextUptoCard

/-- THE SECOND FORM's CARD OF 'laws.FnExactFogText'. -/
def fnExactFogTextUptoCard : Claim7 := { stood := { row := fnExactFogTextUptoRow, standIns := [], harness := (true, "3c5d1abde885b458624fa97d3f925a85800a0aa273fad69290f9f40679c14aa5"), looks := true }, kinds := [], alts := [], laidByText := true, laidKinds := [.data, .data, .data], laidTests := true, laidLooks := .later }
def FnExactFogTextUptoCardSaid : Prop := Claim7.holds Tryd.pinned (.plain (OpenSpec.upto fnExactFogTextSpec)) fnExactFogTextUptoCard

/-- THE SECOND FORM's CARD OF 'laws.FnExactPhasesText'. -/
def fnExactPhasesTextUptoCard : Claim7 := { stood := { row := fnExactPhasesTextUptoRow, standIns := [], harness := (true, "3c5d1abde885b458624fa97d3f925a85800a0aa273fad69290f9f40679c14aa5"), looks := true }, kinds := [], alts := [], laidByText := true, laidKinds := [.data, .data, .data], laidTests := true, laidLooks := .later }
def FnExactPhasesTextUptoCardSaid : Prop := Claim7.holds Tryd.pinned (.plain (OpenSpec.upto fnExactPhasesTextSpec)) fnExactPhasesTextUptoCard

/-- THE SECOND FORM's CARD OF 'laws.FnExactReadPhases'. -/
def fnExactReadPhasesUptoCard : Claim7 := { stood := { row := fnExactReadPhasesUptoRow, standIns := [], harness := (true, "3c5d1abde885b458624fa97d3f925a85800a0aa273fad69290f9f40679c14aa5"), looks := true }, kinds := [], alts := [], laidByText := true, laidKinds := [.data, .data, .data, .data, .sentinel, .sentinel, .pinned], laidTests := true, laidLooks := .later }
def FnExactReadPhasesUptoCardSaid : Prop := Claim7.holds Tryd.pinned (.plain (OpenSpec.upto fnExactReadPhasesSpec)) fnExactReadPhasesUptoCard

/-- THE SECOND FORM's CARD OF 'laws.FnExactReadFog'. -/
def fnExactReadFogUptoCard : Claim7 := { stood := { row := fnExactReadFogUptoRow, standIns := [], harness := (true, "3c5d1abde885b458624fa97d3f925a85800a0aa273fad69290f9f40679c14aa5"), looks := true }, kinds := [], alts := [], laidByText := true, laidKinds := [.data, .data, .data, .data, .sentinel, .sentinel, .pinned], laidTests := true, laidLooks := .later }
def FnExactReadFogUptoCardSaid : Prop := Claim7.holds Tryd.pinned (.plain (OpenSpec.upto fnExactReadFogSpec)) fnExactReadFogUptoCard
end Rows
end Go.Proofs.YtimfpnmcdicldaaDoor
