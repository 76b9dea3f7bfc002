/-
  DERIVED. GIVEN WITH THE SEED: THE CARDS: each row of YtjhbihooobingaaGreatDoorRows.lean that lists a variable, with what it lists TIED to the program's text (the seventh form; the later family's looks); each row that meets fmt, with fmt's text TOLD by the authors' own Lean function (tested against real Go, not proved from fmt's source: count such statements apart). THE CARD IS WHAT COUNTS. Prove the row's statement (the work); the ties are given (YtjhbihooobingaaGreatDoorTie.lean); close each card by the builder's one call (the guide's Derived/Test/ToyasCard.lean, 'card_holds'). Laid BY PROGRAM, IN A SANDBOX (cutbox-door.mjs). By AI agents, Wed Nov 11 2026. No macro, syntax, notation, axiom, sorry.
-/
import Derived.Test.YtjhbihooobingaaGreatDoorRows
import GoSem.ClaimSeven
namespace Go.Proofs.YtjhbihooobingaaGreatDoor
namespace Rows

/-- THE TIED CARD OF 'laws.FnScriptUndo'. -/
def fnScriptUndoCard : Claim7 := { stood := { row := fnScriptUndoRow, standIns := [], harness := (true, "3d144a8bf5d2571e51ce840a7cb1280b556b5ea380a7292858b79b2a4339b8c5"), looks := false }, kinds := [], alts := [], laidByText := true, laidKinds := [.data, .data, .data, .data, .pinned], laidTests := true, laidLooks := .later }
def FnScriptUndoCardSaid : Prop := Claim7.holds Tryz.pinned (.plain (OpenSpec.ofChange fnScriptUndoSpec)) fnScriptUndoCard

/-- THE TIED CARD OF 'laws.FnScriptCut'. -/
def fnScriptCutCard : Claim7 := { stood := { row := fnScriptCutRow, standIns := [], harness := (true, "3d144a8bf5d2571e51ce840a7cb1280b556b5ea380a7292858b79b2a4339b8c5"), looks := false }, kinds := [], alts := [], laidByText := true, laidKinds := [.data, .data, .data, .data, .pinned], laidTests := true, laidLooks := .later }
def FnScriptCutCardSaid : Prop := Claim7.holds Tryz.pinned (.plain (OpenSpec.ofChange fnScriptCutSpec)) fnScriptCutCard

/-- THE TIED CARD OF 'laws.FnScriptWhat'. -/
def fnScriptWhatCard : Claim7 := { stood := { row := fnScriptWhatRow, standIns := [], harness := (true, "3d144a8bf5d2571e51ce840a7cb1280b556b5ea380a7292858b79b2a4339b8c5"), looks := false }, kinds := [], alts := [], laidByText := true, laidKinds := [.data, .data, .data, .data, .pinned], laidTests := true, laidLooks := .later }
def FnScriptWhatCardSaid : Prop := Claim7.holds Tryz.pinned (.plain (OpenSpec.ofChange fnScriptWhatSpec)) fnScriptWhatCard

/-- THE TIED CARD OF 'laws.FnExactExecute'. -/
def fnExactExecuteCard : Claim7 := { stood := { row := fnExactExecuteRow, standIns := [], harness := (true, "3d144a8bf5d2571e51ce840a7cb1280b556b5ea380a7292858b79b2a4339b8c5"), looks := false }, kinds := [], alts := [], laidByText := true, laidKinds := [.data, .data, .data, .data, .pinned], laidTests := true, laidLooks := .later }
def FnExactExecuteCardSaid : Prop := Claim7.holds Tryz.pinned (.plain (OpenSpec.ofChange fnExactExecuteSpec)) fnExactExecuteCard

/-- THE TIED CARD OF 'laws.FnScript'. -/
def fnScriptCard : Claim7 := { stood := { row := fnScriptRow, standIns := [], harness := (true, "3d144a8bf5d2571e51ce840a7cb1280b556b5ea380a7292858b79b2a4339b8c5"), looks := false }, kinds := [], alts := [], laidByText := true, laidKinds := [.data, .data, .data, .data, .pinned], laidTests := true, laidLooks := .later }
def FnScriptCardSaid : Prop := Claim7.holds Tryz.pinned (.plain (OpenSpec.ofChange fnScriptSpec)) fnScriptCard

/-- THE TIED CARD OF 'laws.FnScriptBad'. -/
def fnScriptBadCard : Claim7 := { stood := { row := fnScriptBadRow, standIns := [], harness := (true, "3d144a8bf5d2571e51ce840a7cb1280b556b5ea380a7292858b79b2a4339b8c5"), looks := false }, kinds := [], alts := [], laidByText := true, laidKinds := [.data, .data, .data, .data, .pinned], laidTests := true, laidLooks := .later }
def FnScriptBadCardSaid : Prop := Claim7.holds Tryz.pinned (.plain (OpenSpec.ofChange fnScriptBadSpec)) fnScriptBadCard

/-- THE TIED CARD OF 'laws.FnScriptBreaks'. -/
def fnScriptBreaksCard : Claim7 := { stood := { row := fnScriptBreaksRow, standIns := [], harness := (true, "3d144a8bf5d2571e51ce840a7cb1280b556b5ea380a7292858b79b2a4339b8c5"), looks := false }, kinds := [], alts := [], laidByText := true, laidKinds := [.data, .data, .data, .data, .pinned], laidTests := true, laidLooks := .later }
def FnScriptBreaksCardSaid : Prop := Claim7.holds Tryz.pinned (.plain (OpenSpec.ofChange fnScriptBreaksSpec)) fnScriptBreaksCard

/-- THE TIED CARD OF 'laws.FnScriptClash'. -/
def fnScriptClashCard : Claim7 := { stood := { row := fnScriptClashRow, standIns := [], harness := (true, "3d144a8bf5d2571e51ce840a7cb1280b556b5ea380a7292858b79b2a4339b8c5"), looks := false }, kinds := [], alts := [], laidByText := true, laidKinds := [.data, .data, .data, .data, .pinned], laidTests := true, laidLooks := .later }
def FnScriptClashCardSaid : Prop := Claim7.holds Tryz.pinned (.plain (OpenSpec.ofChange fnScriptClashSpec)) fnScriptClashCard

/-- THE TIED CARD OF 'laws.FnScriptSync'. -/
def fnScriptSyncCard : Claim7 := { stood := { row := fnScriptSyncRow, standIns := [], harness := (true, "3d144a8bf5d2571e51ce840a7cb1280b556b5ea380a7292858b79b2a4339b8c5"), looks := false }, kinds := [], alts := [], laidByText := true, laidKinds := [.data, .data, .data, .data, .pinned], laidTests := true, laidLooks := .later }
def FnScriptSyncCardSaid : Prop := Claim7.holds Tryz.pinned (.plain (OpenSpec.ofChange fnScriptSyncSpec)) fnScriptSyncCard

/-- THE SECOND FORM's CARD OF 'laws.FnScriptUndo'. -/
def fnScriptUndoUptoCard : Claim7 := { stood := { row := fnScriptUndoUptoRow, standIns := [], harness := (true, "3d144a8bf5d2571e51ce840a7cb1280b556b5ea380a7292858b79b2a4339b8c5"), looks := false }, kinds := [], alts := [], laidByText := true, laidKinds := [.data, .data, .data, .data, .pinned], laidTests := true, laidLooks := .later }
def FnScriptUndoUptoCardSaid : Prop := Claim7.holds Tryz.pinned (.plain (OpenSpec.upto fnScriptUndoSpec)) fnScriptUndoUptoCard

/-- THE SECOND FORM's CARD OF 'laws.FnScriptCut'. -/
def fnScriptCutUptoCard : Claim7 := { stood := { row := fnScriptCutUptoRow, standIns := [], harness := (true, "3d144a8bf5d2571e51ce840a7cb1280b556b5ea380a7292858b79b2a4339b8c5"), looks := false }, kinds := [], alts := [], laidByText := true, laidKinds := [.data, .data, .data, .data, .pinned], laidTests := true, laidLooks := .later }
def FnScriptCutUptoCardSaid : Prop := Claim7.holds Tryz.pinned (.plain (OpenSpec.upto fnScriptCutSpec)) fnScriptCutUptoCard

/-- THE SECOND FORM's CARD OF 'laws.FnScriptWhat'. -/
def fnScriptWhatUptoCard : Claim7 := { stood := { row := fnScriptWhatUptoRow, standIns := [], harness := (true, "3d144a8bf5d2571e51ce840a7cb1280b556b5ea380a7292858b79b2a4339b8c5"), looks := false }, kinds := [], alts := [], laidByText := true, laidKinds := [.data, .data, .data, .data, .pinned], laidTests := true, laidLooks := .later }
def FnScriptWhatUptoCardSaid : Prop := Claim7.holds Tryz.pinned (.plain (OpenSpec.upto fnScriptWhatSpec)) fnScriptWhatUptoCard

/-- THE SECOND FORM's CARD OF 'laws.FnExactExecute'. -/
def fnExactExecuteUptoCard : Claim7 := { stood := { row := fnExactExecuteUptoRow, standIns := [], harness := (true, "3d144a8bf5d2571e51ce840a7cb1280b556b5ea380a7292858b79b2a4339b8c5"), looks := false }, kinds := [], alts := [], laidByText := true, laidKinds := [.data, .data, .data, .data, .pinned], laidTests := true, laidLooks := .later }
def FnExactExecuteUptoCardSaid : Prop := Claim7.holds Tryz.pinned (.plain (OpenSpec.upto fnExactExecuteSpec)) fnExactExecuteUptoCard

/-- THE SECOND FORM's CARD OF 'laws.FnScript'. -/
def fnScriptUptoCard : Claim7 := { stood := { row := fnScriptUptoRow, standIns := [], harness := (true, "3d144a8bf5d2571e51ce840a7cb1280b556b5ea380a7292858b79b2a4339b8c5"), looks := false }, kinds := [], alts := [], laidByText := true, laidKinds := [.data, .data, .data, .data, .pinned], laidTests := true, laidLooks := .later }
def FnScriptUptoCardSaid : Prop := Claim7.holds Tryz.pinned (.plain (OpenSpec.upto fnScriptSpec)) fnScriptUptoCard

/-- THE SECOND FORM's CARD OF 'laws.FnScriptBad'. -/
def fnScriptBadUptoCard : Claim7 := { stood := { row := fnScriptBadUptoRow, standIns := [], harness := (true, "3d144a8bf5d2571e51ce840a7cb1280b556b5ea380a7292858b79b2a4339b8c5"), looks := false }, kinds := [], alts := [], laidByText := true, laidKinds := [.data, .data, .data, .data, .pinned], laidTests := true, laidLooks := .later }
def FnScriptBadUptoCardSaid : Prop := Claim7.holds Tryz.pinned (.plain (OpenSpec.upto fnScriptBadSpec)) fnScriptBadUptoCard

/-- THE SECOND FORM's CARD OF 'laws.FnScriptBreaks'. -/
def fnScriptBreaksUptoCard : Claim7 := { stood := { row := fnScriptBreaksUptoRow, standIns := [], harness := (true, "3d144a8bf5d2571e51ce840a7cb1280b556b5ea380a7292858b79b2a4339b8c5"), looks := false }, kinds := [], alts := [], laidByText := true, laidKinds := [.data, .data, .data, .data, .pinned], laidTests := true, laidLooks := .later }
def FnScriptBreaksUptoCardSaid : Prop := Claim7.holds Tryz.pinned (.plain (OpenSpec.upto fnScriptBreaksSpec)) fnScriptBreaksUptoCard

/-- THE SECOND FORM's CARD OF 'laws.FnScriptClash'. -/
def fnScriptClashUptoCard : Claim7 := { stood := { row := fnScriptClashUptoRow, standIns := [], harness := (true, "3d144a8bf5d2571e51ce840a7cb1280b556b5ea380a7292858b79b2a4339b8c5"), looks := false }, kinds := [], alts := [], laidByText := true, laidKinds := [.data, .data, .data, .data, .pinned], laidTests := true, laidLooks := .later }
def FnScriptClashUptoCardSaid : Prop := Claim7.holds Tryz.pinned (.plain (OpenSpec.upto fnScriptClashSpec)) fnScriptClashUptoCard

/-- THE SECOND FORM's CARD OF 'laws.FnScriptSync'. -/
def fnScriptSyncUptoCard : Claim7 := { stood := { row := fnScriptSyncUptoRow, standIns := [], harness := (true, "3d144a8bf5d2571e51ce840a7cb1280b556b5ea380a7292858b79b2a4339b8c5"), looks := false }, kinds := [], alts := [], laidByText := true, laidKinds := [.data, .data, .data, .data, .pinned], laidTests := true, laidLooks := .later }
def FnScriptSyncUptoCardSaid : Prop := Claim7.holds Tryz.pinned (.plain (OpenSpec.upto fnScriptSyncSpec)) fnScriptSyncUptoCard
end Rows
end Go.Proofs.YtjhbihooobingaaGreatDoor
