/-
  DERIVED. GIVEN WITH THE SEED: THE CARDS: each row of YtolijmldobncbaaDoorRows.lean that lists a variable, with what it lists TIED to the program's text (the seventh form; the later family's looks); each row that meets fmt, with fmt's text TOLD by the authors' own Lean function (tested against real Go, not proved from fmt's source: count such statements apart). THE CARD IS WHAT COUNTS. Prove the row's statement (the work); the ties are given (YtolijmldobncbaaDoorTie.lean); close each card by the builder's one call (the guide's Derived/Test/ToyasCard.lean, 'card_holds'). Laid BY PROGRAM, IN A SANDBOX (cutbox-door.mjs). By AI agents, Wed Nov 11 2026. No macro, syntax, notation, axiom, sorry.
-/
import Derived.Test.YtolijmldobncbaaDoorRows
import GoSem.ClaimSeven
namespace Go.Proofs.YtolijmldobncbaaDoor
namespace Rows

/-- THE TIED CARD OF 'laws.FnExactStandardMark'. -/
def fnExactStandardMarkCard : Claim7 := { stood := { row := fnExactStandardMarkRow, standIns := [], harness := (true, "a6357595bf9999fd0109d346879aa51bdc7c32d128cba37b7695526da005853e"), looks := false }, kinds := [], alts := [], laidByText := true, laidKinds := [.listed, .data], laidTests := true, laidLooks := .later }
def FnExactStandardMarkCardSaid : Prop := Claim7.holds Tryd.pinned (.plain (OpenSpec.ofChange fnExactStandardMarkSpec)) fnExactStandardMarkCard

/-- THE TIED CARD OF 'laws.FnExactValidMark'. -/
def fnExactValidMarkCard : Claim7 := { stood := { row := fnExactValidMarkRow, standIns := [], harness := (true, "a6357595bf9999fd0109d346879aa51bdc7c32d128cba37b7695526da005853e"), looks := false }, kinds := [], alts := [], laidByText := true, laidKinds := [.listed, .data], laidTests := true, laidLooks := .later }
def FnExactValidMarkCardSaid : Prop := Claim7.holds Tryd.pinned (.plain (OpenSpec.ofChange fnExactValidMarkSpec)) fnExactValidMarkCard

/-- THE TIED CARD OF 'laws.FnExactKindsLike'. -/
def fnExactKindsLikeCard : Claim7 := { stood := { row := fnExactKindsLikeRow, standIns := [], harness := (true, "a6357595bf9999fd0109d346879aa51bdc7c32d128cba37b7695526da005853e"), looks := false }, kinds := [], alts := [], laidByText := true, laidKinds := [.listed, .data], laidTests := true, laidLooks := .later }
def FnExactKindsLikeCardSaid : Prop := Claim7.holds Tryd.pinned (.plain (OpenSpec.ofChange fnExactKindsLikeSpec)) fnExactKindsLikeCard

/-- THE TIED CARD OF 'laws.FnExactLettersLike'. -/
def fnExactLettersLikeCard : Claim7 := { stood := { row := fnExactLettersLikeRow, standIns := [], harness := (true, "a6357595bf9999fd0109d346879aa51bdc7c32d128cba37b7695526da005853e"), looks := false }, kinds := [], alts := [], laidByText := true, laidKinds := [.data, .pinned], laidTests := true, laidLooks := .later }
def FnExactLettersLikeCardSaid : Prop := Claim7.holds Tryd.pinned (.plain (OpenSpec.ofChange fnExactLettersLikeSpec)) fnExactLettersLikeCard

/-- THE TIED CARD OF 'laws.FnExactMarkText'. -/
def fnExactMarkTextCard : Claim7 := { stood := { row := fnExactMarkTextRow, standIns := [], harness := (true, "a6357595bf9999fd0109d346879aa51bdc7c32d128cba37b7695526da005853e"), looks := false }, kinds := [], alts := [], laidByText := true, laidKinds := [.listed, .data], laidTests := true, laidLooks := .later }
def FnExactMarkTextCardSaid : Prop := Claim7.holds Tryd.pinned (.plain (OpenSpec.ofChange fnExactMarkTextSpec)) fnExactMarkTextCard

/-- THE TIED CARD OF 'laws.FnExactSpellText'. -/
def fnExactSpellTextCard : Claim7 := { stood := { row := fnExactSpellTextRow, standIns := [], harness := (true, "a6357595bf9999fd0109d346879aa51bdc7c32d128cba37b7695526da005853e"), looks := false }, kinds := [], alts := [], laidByText := true, laidKinds := [.data, .pinned], laidTests := true, laidLooks := .later }
def FnExactSpellTextCardSaid : Prop := Claim7.holds Tryd.pinned (.plain (OpenSpec.ofChange fnExactSpellTextSpec)) fnExactSpellTextCard

/-- THE TIED CARD OF 'laws.FnExactSendText'. -/
def fnExactSendTextCard : Claim7 := { stood := { row := fnExactSendTextRow, standIns := [], harness := (true, "a6357595bf9999fd0109d346879aa51bdc7c32d128cba37b7695526da005853e"), looks := false }, kinds := [], alts := [], laidByText := true, laidKinds := [.data, .pinned], laidTests := true, laidLooks := .later }
def FnExactSendTextCardSaid : Prop := Claim7.holds Tryd.pinned (.plain (OpenSpec.ofChange fnExactSendTextSpec)) fnExactSendTextCard

/-- THE TIED CARD OF 'laws.FnExactReadSignal'. -/
def fnExactReadSignalCard : Claim7 := { stood := { row := fnExactReadSignalRow, standIns := [], harness := (true, "a6357595bf9999fd0109d346879aa51bdc7c32d128cba37b7695526da005853e"), looks := false }, kinds := [], alts := [], laidByText := true, laidKinds := [.data, .pinned], laidTests := true, laidLooks := .later }
def FnExactReadSignalCardSaid : Prop := Claim7.holds Tryd.pinned (.plain (OpenSpec.ofChange fnExactReadSignalSpec)) fnExactReadSignalCard

/-- THE TIED CARD OF 'laws.FnExactReadMark'. -/
def fnExactReadMarkCard : Claim7 := { stood := { row := fnExactReadMarkRow, standIns := [], harness := (true, "a6357595bf9999fd0109d346879aa51bdc7c32d128cba37b7695526da005853e"), looks := false }, kinds := [], alts := [], laidByText := true, laidKinds := [.data, .listed, .data, .pinned], laidTests := true, laidLooks := .later }
def FnExactReadMarkCardSaid : Prop := Claim7.holds Tryd.pinned (.plain (OpenSpec.ofChange fnExactReadMarkSpec)) fnExactReadMarkCard

/-- THE SECOND FORM's CARD OF 'laws.FnExactStandardMark'. -/
def fnExactStandardMarkUptoCard : Claim7 := { stood := { row := fnExactStandardMarkUptoRow, standIns := [], harness := (true, "a6357595bf9999fd0109d346879aa51bdc7c32d128cba37b7695526da005853e"), looks := false }, kinds := [], alts := [], laidByText := true, laidKinds := [.listed, .data], laidTests := true, laidLooks := .later }
def FnExactStandardMarkUptoCardSaid : Prop := Claim7.holds Tryd.pinned (.plain (OpenSpec.upto fnExactStandardMarkSpec)) fnExactStandardMarkUptoCard

/-- THE SECOND FORM's CARD OF 'laws.FnExactValidMark'. -/
def fnExactValidMarkUptoCard : Claim7 := { stood := { row := fnExactValidMarkUptoRow, standIns := [], harness := (true, "a6357595bf9999fd0109d346879aa51bdc7c32d128cba37b7695526da005853e"), looks := false }, kinds := [], alts := [], laidByText := true, laidKinds := [.listed, .data], laidTests := true, laidLooks := .later }
def FnExactValidMarkUptoCardSaid : Prop := Claim7.holds Tryd.pinned (.plain (OpenSpec.upto fnExactValidMarkSpec)) fnExactValidMarkUptoCard

/-- THE SECOND FORM's CARD OF 'laws.FnExactKindsLike'. -/
def fnExactKindsLikeUptoCard : Claim7 := { stood := { row := fnExactKindsLikeUptoRow, standIns := [], harness := (true, "a6357595bf9999fd0109d346879aa51bdc7c32d128cba37b7695526da005853e"), looks := false }, kinds := [], alts := [], laidByText := true, laidKinds := [.listed, .data], laidTests := true, laidLooks := .later }
def FnExactKindsLikeUptoCardSaid : Prop := Claim7.holds Tryd.pinned (.plain (OpenSpec.upto fnExactKindsLikeSpec)) fnExactKindsLikeUptoCard

/-- THE SECOND FORM's CARD OF 'laws.FnExactLettersLike'. -/
def fnExactLettersLikeUptoCard : Claim7 := { stood := { row := fnExactLettersLikeUptoRow, standIns := [], harness := (true, "a6357595bf9999fd0109d346879aa51bdc7c32d128cba37b7695526da005853e"), looks := false }, kinds := [], alts := [], laidByText := true, laidKinds := [.data, .pinned], laidTests := true, laidLooks := .later }
def FnExactLettersLikeUptoCardSaid : Prop := Claim7.holds Tryd.pinned (.plain (OpenSpec.upto fnExactLettersLikeSpec)) fnExactLettersLikeUptoCard

/-- THE SECOND FORM's CARD OF 'laws.FnExactMarkText'. -/
def fnExactMarkTextUptoCard : Claim7 := { stood := { row := fnExactMarkTextUptoRow, standIns := [], harness := (true, "a6357595bf9999fd0109d346879aa51bdc7c32d128cba37b7695526da005853e"), looks := false }, kinds := [], alts := [], laidByText := true, laidKinds := [.listed, .data], laidTests := true, laidLooks := .later }
def FnExactMarkTextUptoCardSaid : Prop := Claim7.holds Tryd.pinned (.plain (OpenSpec.upto fnExactMarkTextSpec)) fnExactMarkTextUptoCard

/-- THE SECOND FORM's CARD OF 'laws.FnExactSpellText'. -/
def fnExactSpellTextUptoCard : Claim7 := { stood := { row := fnExactSpellTextUptoRow, standIns := [], harness := (true, "a6357595bf9999fd0109d346879aa51bdc7c32d128cba37b7695526da005853e"), looks := false }, kinds := [], alts := [], laidByText := true, laidKinds := [.data, .pinned], laidTests := true, laidLooks := .later }
def FnExactSpellTextUptoCardSaid : Prop := Claim7.holds Tryd.pinned (.plain (OpenSpec.upto fnExactSpellTextSpec)) fnExactSpellTextUptoCard

/-- THE SECOND FORM's CARD OF 'laws.FnExactSendText'. -/
def fnExactSendTextUptoCard : Claim7 := { stood := { row := fnExactSendTextUptoRow, standIns := [], harness := (true, "a6357595bf9999fd0109d346879aa51bdc7c32d128cba37b7695526da005853e"), looks := false }, kinds := [], alts := [], laidByText := true, laidKinds := [.data, .pinned], laidTests := true, laidLooks := .later }
def FnExactSendTextUptoCardSaid : Prop := Claim7.holds Tryd.pinned (.plain (OpenSpec.upto fnExactSendTextSpec)) fnExactSendTextUptoCard

/-- THE SECOND FORM's CARD OF 'laws.FnExactReadSignal'. -/
def fnExactReadSignalUptoCard : Claim7 := { stood := { row := fnExactReadSignalUptoRow, standIns := [], harness := (true, "a6357595bf9999fd0109d346879aa51bdc7c32d128cba37b7695526da005853e"), looks := false }, kinds := [], alts := [], laidByText := true, laidKinds := [.data, .pinned], laidTests := true, laidLooks := .later }
def FnExactReadSignalUptoCardSaid : Prop := Claim7.holds Tryd.pinned (.plain (OpenSpec.upto fnExactReadSignalSpec)) fnExactReadSignalUptoCard

/-- THE SECOND FORM's CARD OF 'laws.FnExactReadMark'. -/
def fnExactReadMarkUptoCard : Claim7 := { stood := { row := fnExactReadMarkUptoRow, standIns := [], harness := (true, "a6357595bf9999fd0109d346879aa51bdc7c32d128cba37b7695526da005853e"), looks := false }, kinds := [], alts := [], laidByText := true, laidKinds := [.data, .listed, .data, .pinned], laidTests := true, laidLooks := .later }
def FnExactReadMarkUptoCardSaid : Prop := Claim7.holds Tryd.pinned (.plain (OpenSpec.upto fnExactReadMarkSpec)) fnExactReadMarkUptoCard
end Rows
end Go.Proofs.YtolijmldobncbaaDoor
