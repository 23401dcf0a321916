/-
  DERIVED. GIVEN WITH THE SEED: THE CARDS: each row of YtalconpcpegmlaaDoorRows.lean that lists a variable, with what it lists TIED to the program's text (the seventh form; the later family's looks); each row that meets fmt, with fmt's text TOLD by the authors' own Lean function (tested against real Go, not proved from fmt's source: count such statements apart). THE CARD IS WHAT COUNTS. Prove the row's statement (the work); the ties are given (YtalconpcpegmlaaDoorTie.lean); close each card by the builder's one call (the guide's Derived/Test/ToyasCard.lean, 'card_holds'). Laid BY PROGRAM, IN A SANDBOX (cutbox-door.mjs). By AI agents, Wed Nov 11 2026. No macro, syntax, notation, axiom, sorry.
-/
import Derived.Test.YtalconpcpegmlaaDoorRows
import GoSem.ClaimSeven
namespace Go.Proofs.YtalconpcpegmlaaDoor
namespace Rows

/-- THE TIED CARD OF 'annuitantlaw40.AppealAsks'. -/
def appealAsksCard : Claim7 := { stood := { row := appealAsksRow, standIns := [], harness := (true, "2011d115e8b1a0b139d76ad86dd89b8c8637624341892bf46291520d7d64f0d6"), looks := false }, kinds := [], alts := [], laidByText := true, laidKinds := [.mapped], laidTests := true, laidLooks := .later }
def AppealAsksCardSaid : Prop := Claim7.holds Tryd.pinned (.plain (OpenSpec.ofChange appealAsksSpec)) appealAsksCard

/-- THE TIED CARD OF 'annuitantlaw40.AppealLegal'. -/
def appealLegalCard : Claim7 := { stood := { row := appealLegalRow, standIns := [], harness := (true, "2011d115e8b1a0b139d76ad86dd89b8c8637624341892bf46291520d7d64f0d6"), looks := false }, kinds := [], alts := [], laidByText := true, laidKinds := [.mapped], laidTests := true, laidLooks := .later }
def AppealLegalCardSaid : Prop := Claim7.holds Tryd.pinned (.plain (OpenSpec.ofChange appealLegalSpec)) appealLegalCard

/-- THE TIED CARD OF 'annuitantlaw40.AppealHeld'. -/
def appealHeldCard : Claim7 := { stood := { row := appealHeldRow, standIns := [], harness := (true, "2011d115e8b1a0b139d76ad86dd89b8c8637624341892bf46291520d7d64f0d6"), looks := false }, kinds := [], alts := [], laidByText := true, laidKinds := [.mapped], laidTests := true, laidLooks := .later }
def AppealHeldCardSaid : Prop := Claim7.holds Tryd.pinned (.plain (OpenSpec.ofChange appealHeldSpec)) appealHeldCard

/-- THE TIED CARD OF 'annuitantlaw40.AppealRejected'. -/
def appealRejectedCard : Claim7 := { stood := { row := appealRejectedRow, standIns := [], harness := (true, "2011d115e8b1a0b139d76ad86dd89b8c8637624341892bf46291520d7d64f0d6"), looks := false }, kinds := [], alts := [], laidByText := true, laidKinds := [.mapped], laidTests := true, laidLooks := .later }
def AppealRejectedCardSaid : Prop := Claim7.holds Tryd.pinned (.plain (OpenSpec.ofChange appealRejectedSpec)) appealRejectedCard

/-- THE TIED CARD OF 'annuitantlaw40.AppealSettles'. -/
def appealSettlesCard : Claim7 := { stood := { row := appealSettlesRow, standIns := [], harness := (true, "2011d115e8b1a0b139d76ad86dd89b8c8637624341892bf46291520d7d64f0d6"), looks := false }, kinds := [], alts := [], laidByText := true, laidKinds := [.mapped], laidTests := true, laidLooks := .later }
def AppealSettlesCardSaid : Prop := Claim7.holds Tryd.pinned (.plain (OpenSpec.ofChange appealSettlesSpec)) appealSettlesCard

/-- THE TIED CARD OF 'annuitantlaw40.AppealChoice'. -/
def appealChoiceCard : Claim7 := { stood := { row := appealChoiceRow, standIns := [], harness := (true, "2011d115e8b1a0b139d76ad86dd89b8c8637624341892bf46291520d7d64f0d6"), looks := false }, kinds := [], alts := [], laidByText := true, laidKinds := [.mapped], laidTests := true, laidLooks := .later }
def AppealChoiceCardSaid : Prop := Claim7.holds Tryd.pinned (.plain (OpenSpec.ofChange appealChoiceSpec)) appealChoiceCard

/-- THE TIED CARD OF 'annuitantlaw40.AppealWrong'. -/
def appealWrongCard : Claim7 := { stood := { row := appealWrongRow, standIns := [], harness := (true, "2011d115e8b1a0b139d76ad86dd89b8c8637624341892bf46291520d7d64f0d6"), looks := false }, kinds := [], alts := [], laidByText := true, laidKinds := [.mapped], laidTests := true, laidLooks := .later }
def AppealWrongCardSaid : Prop := Claim7.holds Tryd.pinned (.plain (OpenSpec.ofChange appealWrongSpec)) appealWrongCard

/-- THE TIED CARD OF 'annuitantlaw40.AppealTime'. -/
def appealTimeCard : Claim7 := { stood := { row := appealTimeRow, standIns := [], harness := (true, "2011d115e8b1a0b139d76ad86dd89b8c8637624341892bf46291520d7d64f0d6"), looks := false }, kinds := [], alts := [], laidByText := true, laidKinds := [.mapped], laidTests := true, laidLooks := .later }
def AppealTimeCardSaid : Prop := Claim7.holds Tryd.pinned (.plain (OpenSpec.ofChange appealTimeSpec)) appealTimeCard

/-- THE SECOND FORM's CARD OF 'annuitantlaw40.AppealAsks'. -/
def appealAsksUptoCard : Claim7 := { stood := { row := appealAsksUptoRow, standIns := [], harness := (true, "2011d115e8b1a0b139d76ad86dd89b8c8637624341892bf46291520d7d64f0d6"), looks := false }, kinds := [], alts := [], laidByText := true, laidKinds := [.mapped], laidTests := true, laidLooks := .later }
def AppealAsksUptoCardSaid : Prop := Claim7.holds Tryd.pinned (.plain (OpenSpec.upto appealAsksSpec)) appealAsksUptoCard

/-- THE SECOND FORM's CARD OF 'annuitantlaw40.AppealLegal'. -/
def appealLegalUptoCard : Claim7 := { stood := { row := appealLegalUptoRow, standIns := [], harness := (true, "2011d115e8b1a0b139d76ad86dd89b8c8637624341892bf46291520d7d64f0d6"), looks := false }, kinds := [], alts := [], laidByText := true, laidKinds := [.mapped], laidTests := true, laidLooks := .later }
def AppealLegalUptoCardSaid : Prop := Claim7.holds Tryd.pinned (.plain (OpenSpec.upto appealLegalSpec)) appealLegalUptoCard

/-- THE SECOND FORM's CARD OF 'annuitantlaw40.AppealHeld'. -/
def appealHeldUptoCard : Claim7 := { stood := { row := appealHeldUptoRow, standIns := [], harness := (true, "2011d115e8b1a0b139d76ad86dd89b8c8637624341892bf46291520d7d64f0d6"), looks := false }, kinds := [], alts := [], laidByText := true, laidKinds := [.mapped], laidTests := true, laidLooks := .later }
def AppealHeldUptoCardSaid : Prop := Claim7.holds Tryd.pinned (.plain (OpenSpec.upto appealHeldSpec)) appealHeldUptoCard

/-- THE SECOND FORM's CARD OF 'annuitantlaw40.AppealRejected'. -/
def appealRejectedUptoCard : Claim7 := { stood := { row := appealRejectedUptoRow, standIns := [], harness := (true, "2011d115e8b1a0b139d76ad86dd89b8c8637624341892bf46291520d7d64f0d6"), looks := false }, kinds := [], alts := [], laidByText := true, laidKinds := [.mapped], laidTests := true, laidLooks := .later }
def AppealRejectedUptoCardSaid : Prop := Claim7.holds Tryd.pinned (.plain (OpenSpec.upto appealRejectedSpec)) appealRejectedUptoCard

/-- THE SECOND FORM's CARD OF 'annuitantlaw40.AppealSettles'. -/
def appealSettlesUptoCard : Claim7 := { stood := { row := appealSettlesUptoRow, standIns := [], harness := (true, "2011d115e8b1a0b139d76ad86dd89b8c8637624341892bf46291520d7d64f0d6"), looks := false }, kinds := [], alts := [], laidByText := true, laidKinds := [.mapped], laidTests := true, laidLooks := .later }
def AppealSettlesUptoCardSaid : Prop := Claim7.holds Tryd.pinned (.plain (OpenSpec.upto appealSettlesSpec)) appealSettlesUptoCard

/-- THE SECOND FORM's CARD OF 'annuitantlaw40.AppealChoice'. -/
def appealChoiceUptoCard : Claim7 := { stood := { row := appealChoiceUptoRow, standIns := [], harness := (true, "2011d115e8b1a0b139d76ad86dd89b8c8637624341892bf46291520d7d64f0d6"), looks := false }, kinds := [], alts := [], laidByText := true, laidKinds := [.mapped], laidTests := true, laidLooks := .later }
def AppealChoiceUptoCardSaid : Prop := Claim7.holds Tryd.pinned (.plain (OpenSpec.upto appealChoiceSpec)) appealChoiceUptoCard

/-- THE SECOND FORM's CARD OF 'annuitantlaw40.AppealWrong'. -/
def appealWrongUptoCard : Claim7 := { stood := { row := appealWrongUptoRow, standIns := [], harness := (true, "2011d115e8b1a0b139d76ad86dd89b8c8637624341892bf46291520d7d64f0d6"), looks := false }, kinds := [], alts := [], laidByText := true, laidKinds := [.mapped], laidTests := true, laidLooks := .later }
def AppealWrongUptoCardSaid : Prop := Claim7.holds Tryd.pinned (.plain (OpenSpec.upto appealWrongSpec)) appealWrongUptoCard

/-- THE SECOND FORM's CARD OF 'annuitantlaw40.AppealTime'. -/
def appealTimeUptoCard : Claim7 := { stood := { row := appealTimeUptoRow, standIns := [], harness := (true, "2011d115e8b1a0b139d76ad86dd89b8c8637624341892bf46291520d7d64f0d6"), looks := false }, kinds := [], alts := [], laidByText := true, laidKinds := [.mapped], laidTests := true, laidLooks := .later }
def AppealTimeUptoCardSaid : Prop := Claim7.holds Tryd.pinned (.plain (OpenSpec.upto appealTimeSpec)) appealTimeUptoCard
end Rows
end Go.Proofs.YtalconpcpegmlaaDoor
