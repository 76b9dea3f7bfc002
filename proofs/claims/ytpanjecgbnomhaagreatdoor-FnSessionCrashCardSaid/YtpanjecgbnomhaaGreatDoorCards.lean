/-
  DERIVED. GIVEN WITH THE SEED: THE CARDS: each row of YtpanjecgbnomhaaGreatDoorRows.lean that lists a variable, with what it lists TIED to the program's text (the seventh form; the later family's looks); each row that meets fmt, with fmt's text TOLD by the authors' own Lean function (tested against real Go, not proved from fmt's source: count such statements apart). THE CARD IS WHAT COUNTS. Prove the row's statement (the work); the ties are given (YtpanjecgbnomhaaGreatDoorTie.lean); close each card by the builder's one call (the guide's Derived/Test/ToyasCard.lean, 'card_holds'). Laid BY PROGRAM, IN A SANDBOX (cutbox-door.mjs). By AI agents, Wed Nov 11 2026. No macro, syntax, notation, axiom, sorry.
-/
import Derived.Test.YtpanjecgbnomhaaGreatDoorRows
import GoSem.ClaimSeven
namespace Go.Proofs.YtpanjecgbnomhaaGreatDoor
namespace Rows

/-- THE TIED CARD OF 'laws.FnSessionClashes'. -/
def fnSessionClashesCard : Claim7 := { stood := { row := fnSessionClashesRow, standIns := [], harness := (true, "dfdde75ac240a0be9530d3345c7c091f1961585f83802459be4b7fd67769ad89"), looks := false }, kinds := [], alts := [], laidByText := true, laidKinds := [.data, .pinned], laidTests := true, laidLooks := .later }
def FnSessionClashesCardSaid : Prop := Claim7.holds Tryz.pinned (.plain (OpenSpec.ofChange fnSessionClashesSpec)) fnSessionClashesCard

/-- THE TIED CARD OF 'laws.FnExactSessionClashes'. -/
def fnExactSessionClashesCard : Claim7 := { stood := { row := fnExactSessionClashesRow, standIns := [], harness := (true, "dfdde75ac240a0be9530d3345c7c091f1961585f83802459be4b7fd67769ad89"), looks := false }, kinds := [], alts := [], laidByText := true, laidKinds := [.data, .pinned], laidTests := true, laidLooks := .later }
def FnExactSessionClashesCardSaid : Prop := Claim7.holds Tryz.pinned (.plain (OpenSpec.ofChange fnExactSessionClashesSpec)) fnExactSessionClashesCard

/-- THE TIED CARD OF 'laws.FnSession'. -/
def fnSessionCard : Claim7 := { stood := { row := fnSessionRow, standIns := [], harness := (true, "dfdde75ac240a0be9530d3345c7c091f1961585f83802459be4b7fd67769ad89"), looks := false }, kinds := [], alts := [], laidByText := true, laidKinds := [.data, .pinned], laidTests := true, laidLooks := .later }
def FnSessionCardSaid : Prop := Claim7.holds Tryz.pinned (.plain (OpenSpec.ofChange fnSessionSpec)) fnSessionCard

/-- THE TIED CARD OF 'laws.FnSessionBase'. -/
def fnSessionBaseCard : Claim7 := { stood := { row := fnSessionBaseRow, standIns := [], harness := (true, "dfdde75ac240a0be9530d3345c7c091f1961585f83802459be4b7fd67769ad89"), looks := false }, kinds := [], alts := [], laidByText := true, laidKinds := [.data, .pinned], laidTests := true, laidLooks := .later }
def FnSessionBaseCardSaid : Prop := Claim7.holds Tryz.pinned (.plain (OpenSpec.ofChange fnSessionBaseSpec)) fnSessionBaseCard

/-- THE TIED CARD OF 'laws.FnSessionTurned'. -/
def fnSessionTurnedCard : Claim7 := { stood := { row := fnSessionTurnedRow, standIns := [], harness := (true, "dfdde75ac240a0be9530d3345c7c091f1961585f83802459be4b7fd67769ad89"), looks := false }, kinds := [], alts := [], laidByText := true, laidKinds := [.data, .pinned], laidTests := true, laidLooks := .later }
def FnSessionTurnedCardSaid : Prop := Claim7.holds Tryz.pinned (.plain (OpenSpec.ofChange fnSessionTurnedSpec)) fnSessionTurnedCard

/-- THE TIED CARD OF 'laws.FnSessionAgain'. -/
def fnSessionAgainCard : Claim7 := { stood := { row := fnSessionAgainRow, standIns := [], harness := (true, "dfdde75ac240a0be9530d3345c7c091f1961585f83802459be4b7fd67769ad89"), looks := false }, kinds := [], alts := [], laidByText := true, laidKinds := [.data, .pinned], laidTests := true, laidLooks := .later }
def FnSessionAgainCardSaid : Prop := Claim7.holds Tryz.pinned (.plain (OpenSpec.ofChange fnSessionAgainSpec)) fnSessionAgainCard

/-- THE TIED CARD OF 'laws.FnSessionTree'. -/
def fnSessionTreeCard : Claim7 := { stood := { row := fnSessionTreeRow, standIns := [], harness := (true, "dfdde75ac240a0be9530d3345c7c091f1961585f83802459be4b7fd67769ad89"), looks := false }, kinds := [], alts := [], laidByText := true, laidKinds := [.data, .pinned], laidTests := true, laidLooks := .later }
def FnSessionTreeCardSaid : Prop := Claim7.holds Tryz.pinned (.plain (OpenSpec.ofChange fnSessionTreeSpec)) fnSessionTreeCard

/-- THE TIED CARD OF 'laws.FnSessionShort'. -/
def fnSessionShortCard : Claim7 := { stood := { row := fnSessionShortRow, standIns := [], harness := (true, "dfdde75ac240a0be9530d3345c7c091f1961585f83802459be4b7fd67769ad89"), looks := false }, kinds := [], alts := [], laidByText := true, laidKinds := [.data, .pinned], laidTests := true, laidLooks := .later }
def FnSessionShortCardSaid : Prop := Claim7.holds Tryz.pinned (.plain (OpenSpec.ofChange fnSessionShortSpec)) fnSessionShortCard

/-- THE TIED CARD OF 'laws.FnSessionKept'. -/
def fnSessionKeptCard : Claim7 := { stood := { row := fnSessionKeptRow, standIns := [], harness := (true, "dfdde75ac240a0be9530d3345c7c091f1961585f83802459be4b7fd67769ad89"), looks := false }, kinds := [], alts := [], laidByText := true, laidKinds := [.data, .pinned], laidTests := true, laidLooks := .later }
def FnSessionKeptCardSaid : Prop := Claim7.holds Tryz.pinned (.plain (OpenSpec.ofChange fnSessionKeptSpec)) fnSessionKeptCard

/-- THE TIED CARD OF 'laws.FnSessionSame'. -/
def fnSessionSameCard : Claim7 := { stood := { row := fnSessionSameRow, standIns := [], harness := (true, "dfdde75ac240a0be9530d3345c7c091f1961585f83802459be4b7fd67769ad89"), looks := false }, kinds := [], alts := [], laidByText := true, laidKinds := [.data, .pinned], laidTests := true, laidLooks := .later }
def FnSessionSameCardSaid : Prop := Claim7.holds Tryz.pinned (.plain (OpenSpec.ofChange fnSessionSameSpec)) fnSessionSameCard

/-- THE TIED CARD OF 'laws.FnSessionSteps'. -/
def fnSessionStepsCard : Claim7 := { stood := { row := fnSessionStepsRow, standIns := [], harness := (true, "dfdde75ac240a0be9530d3345c7c091f1961585f83802459be4b7fd67769ad89"), looks := false }, kinds := [], alts := [], laidByText := true, laidKinds := [.data, .pinned], laidTests := true, laidLooks := .later }
def FnSessionStepsCardSaid : Prop := Claim7.holds Tryz.pinned (.plain (OpenSpec.ofChange fnSessionStepsSpec)) fnSessionStepsCard

/-- THE TIED CARD OF 'laws.FnSessionCrash'. -/
def fnSessionCrashCard : Claim7 := { stood := { row := fnSessionCrashRow, standIns := [], harness := (true, "dfdde75ac240a0be9530d3345c7c091f1961585f83802459be4b7fd67769ad89"), looks := false }, kinds := [], alts := [], laidByText := true, laidKinds := [.data, .pinned], laidTests := true, laidLooks := .later }
def FnSessionCrashCardSaid : Prop := Claim7.holds Tryz.pinned (.plain (OpenSpec.ofChange fnSessionCrashSpec)) fnSessionCrashCard

/-- THE SECOND FORM's CARD OF 'laws.FnSessionClashes'. -/
def fnSessionClashesUptoCard : Claim7 := { stood := { row := fnSessionClashesUptoRow, standIns := [], harness := (true, "dfdde75ac240a0be9530d3345c7c091f1961585f83802459be4b7fd67769ad89"), looks := false }, kinds := [], alts := [], laidByText := true, laidKinds := [.data, .pinned], laidTests := true, laidLooks := .later }
def FnSessionClashesUptoCardSaid : Prop := Claim7.holds Tryz.pinned (.plain (OpenSpec.upto fnSessionClashesSpec)) fnSessionClashesUptoCard

/-- THE SECOND FORM's CARD OF 'laws.FnExactSessionClashes'. -/
def fnExactSessionClashesUptoCard : Claim7 := { stood := { row := fnExactSessionClashesUptoRow, standIns := [], harness := (true, "dfdde75ac240a0be9530d3345c7c091f1961585f83802459be4b7fd67769ad89"), looks := false }, kinds := [], alts := [], laidByText := true, laidKinds := [.data, .pinned], laidTests := true, laidLooks := .later }
def FnExactSessionClashesUptoCardSaid : Prop := Claim7.holds Tryz.pinned (.plain (OpenSpec.upto fnExactSessionClashesSpec)) fnExactSessionClashesUptoCard

/-- THE SECOND FORM's CARD OF 'laws.FnSession'. -/
def fnSessionUptoCard : Claim7 := { stood := { row := fnSessionUptoRow, standIns := [], harness := (true, "dfdde75ac240a0be9530d3345c7c091f1961585f83802459be4b7fd67769ad89"), looks := false }, kinds := [], alts := [], laidByText := true, laidKinds := [.data, .pinned], laidTests := true, laidLooks := .later }
def FnSessionUptoCardSaid : Prop := Claim7.holds Tryz.pinned (.plain (OpenSpec.upto fnSessionSpec)) fnSessionUptoCard

/-- THE SECOND FORM's CARD OF 'laws.FnSessionBase'. -/
def fnSessionBaseUptoCard : Claim7 := { stood := { row := fnSessionBaseUptoRow, standIns := [], harness := (true, "dfdde75ac240a0be9530d3345c7c091f1961585f83802459be4b7fd67769ad89"), looks := false }, kinds := [], alts := [], laidByText := true, laidKinds := [.data, .pinned], laidTests := true, laidLooks := .later }
def FnSessionBaseUptoCardSaid : Prop := Claim7.holds Tryz.pinned (.plain (OpenSpec.upto fnSessionBaseSpec)) fnSessionBaseUptoCard

/-- THE SECOND FORM's CARD OF 'laws.FnSessionTurned'. -/
def fnSessionTurnedUptoCard : Claim7 := { stood := { row := fnSessionTurnedUptoRow, standIns := [], harness := (true, "dfdde75ac240a0be9530d3345c7c091f1961585f83802459be4b7fd67769ad89"), looks := false }, kinds := [], alts := [], laidByText := true, laidKinds := [.data, .pinned], laidTests := true, laidLooks := .later }
def FnSessionTurnedUptoCardSaid : Prop := Claim7.holds Tryz.pinned (.plain (OpenSpec.upto fnSessionTurnedSpec)) fnSessionTurnedUptoCard

/-- THE SECOND FORM's CARD OF 'laws.FnSessionAgain'. -/
def fnSessionAgainUptoCard : Claim7 := { stood := { row := fnSessionAgainUptoRow, standIns := [], harness := (true, "dfdde75ac240a0be9530d3345c7c091f1961585f83802459be4b7fd67769ad89"), looks := false }, kinds := [], alts := [], laidByText := true, laidKinds := [.data, .pinned], laidTests := true, laidLooks := .later }
def FnSessionAgainUptoCardSaid : Prop := Claim7.holds Tryz.pinned (.plain (OpenSpec.upto fnSessionAgainSpec)) fnSessionAgainUptoCard

/-- THE SECOND FORM's CARD OF 'laws.FnSessionTree'. -/
def fnSessionTreeUptoCard : Claim7 := { stood := { row := fnSessionTreeUptoRow, standIns := [], harness := (true, "dfdde75ac240a0be9530d3345c7c091f1961585f83802459be4b7fd67769ad89"), looks := false }, kinds := [], alts := [], laidByText := true, laidKinds := [.data, .pinned], laidTests := true, laidLooks := .later }
def FnSessionTreeUptoCardSaid : Prop := Claim7.holds Tryz.pinned (.plain (OpenSpec.upto fnSessionTreeSpec)) fnSessionTreeUptoCard

/-- THE SECOND FORM's CARD OF 'laws.FnSessionShort'. -/
def fnSessionShortUptoCard : Claim7 := { stood := { row := fnSessionShortUptoRow, standIns := [], harness := (true, "dfdde75ac240a0be9530d3345c7c091f1961585f83802459be4b7fd67769ad89"), looks := false }, kinds := [], alts := [], laidByText := true, laidKinds := [.data, .pinned], laidTests := true, laidLooks := .later }
def FnSessionShortUptoCardSaid : Prop := Claim7.holds Tryz.pinned (.plain (OpenSpec.upto fnSessionShortSpec)) fnSessionShortUptoCard

/-- THE SECOND FORM's CARD OF 'laws.FnSessionKept'. -/
def fnSessionKeptUptoCard : Claim7 := { stood := { row := fnSessionKeptUptoRow, standIns := [], harness := (true, "dfdde75ac240a0be9530d3345c7c091f1961585f83802459be4b7fd67769ad89"), looks := false }, kinds := [], alts := [], laidByText := true, laidKinds := [.data, .pinned], laidTests := true, laidLooks := .later }
def FnSessionKeptUptoCardSaid : Prop := Claim7.holds Tryz.pinned (.plain (OpenSpec.upto fnSessionKeptSpec)) fnSessionKeptUptoCard

/-- THE SECOND FORM's CARD OF 'laws.FnSessionSame'. -/
def fnSessionSameUptoCard : Claim7 := { stood := { row := fnSessionSameUptoRow, standIns := [], harness := (true, "dfdde75ac240a0be9530d3345c7c091f1961585f83802459be4b7fd67769ad89"), looks := false }, kinds := [], alts := [], laidByText := true, laidKinds := [.data, .pinned], laidTests := true, laidLooks := .later }
def FnSessionSameUptoCardSaid : Prop := Claim7.holds Tryz.pinned (.plain (OpenSpec.upto fnSessionSameSpec)) fnSessionSameUptoCard

/-- THE SECOND FORM's CARD OF 'laws.FnSessionSteps'. -/
def fnSessionStepsUptoCard : Claim7 := { stood := { row := fnSessionStepsUptoRow, standIns := [], harness := (true, "dfdde75ac240a0be9530d3345c7c091f1961585f83802459be4b7fd67769ad89"), looks := false }, kinds := [], alts := [], laidByText := true, laidKinds := [.data, .pinned], laidTests := true, laidLooks := .later }
def FnSessionStepsUptoCardSaid : Prop := Claim7.holds Tryz.pinned (.plain (OpenSpec.upto fnSessionStepsSpec)) fnSessionStepsUptoCard

/-- THE SECOND FORM's CARD OF 'laws.FnSessionCrash'. -/
def fnSessionCrashUptoCard : Claim7 := { stood := { row := fnSessionCrashUptoRow, standIns := [], harness := (true, "dfdde75ac240a0be9530d3345c7c091f1961585f83802459be4b7fd67769ad89"), looks := false }, kinds := [], alts := [], laidByText := true, laidKinds := [.data, .pinned], laidTests := true, laidLooks := .later }
def FnSessionCrashUptoCardSaid : Prop := Claim7.holds Tryz.pinned (.plain (OpenSpec.upto fnSessionCrashSpec)) fnSessionCrashUptoCard
end Rows
end Go.Proofs.YtpanjecgbnomhaaGreatDoor
