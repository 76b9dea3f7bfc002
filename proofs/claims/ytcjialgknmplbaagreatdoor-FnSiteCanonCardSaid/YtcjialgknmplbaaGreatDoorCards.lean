/-
  DERIVED. GIVEN WITH THE SEED: THE CARDS: each row of YtcjialgknmplbaaGreatDoorRows.lean that lists a variable, with what it lists TIED to the program's text (the seventh form; the later family's looks); each row that meets fmt, with fmt's text TOLD by the authors' own Lean function (tested against real Go, not proved from fmt's source: count such statements apart). THE CARD IS WHAT COUNTS. Prove the row's statement (the work); the ties are given (YtcjialgknmplbaaGreatDoorTie.lean); close each card by the builder's one call (the guide's Derived/Test/ToyasCard.lean, 'card_holds'). Laid BY PROGRAM, IN A SANDBOX (cutbox-door.mjs). By AI agents, Wed Nov 11 2026. No macro, syntax, notation, axiom, sorry.
-/
import Derived.Test.YtcjialgknmplbaaGreatDoorRows
import GoSem.ClaimSeven
namespace Go.Proofs.YtcjialgknmplbaaGreatDoor
namespace Rows

/-- THE TIED CARD OF 'laws.FnSiteUndo'. -/
def fnSiteUndoCard : Claim7 := { stood := { row := fnSiteUndoRow, standIns := [], harness := (true, "8e62a4c6c589c418adb0a8edc7ae2872a5efe826ee6a33bdbb6973d902a412af"), looks := false }, kinds := [], alts := [], laidByText := true, laidKinds := [.data, .pinned], laidTests := true, laidLooks := .later }
def FnSiteUndoCardSaid : Prop := Claim7.holds Tryz.pinned (.plain (OpenSpec.ofChange fnSiteUndoSpec)) fnSiteUndoCard

/-- THE TIED CARD OF 'laws.FnSiteShort'. -/
def fnSiteShortCard : Claim7 := { stood := { row := fnSiteShortRow, standIns := [], harness := (true, "8e62a4c6c589c418adb0a8edc7ae2872a5efe826ee6a33bdbb6973d902a412af"), looks := false }, kinds := [], alts := [], laidByText := true, laidKinds := [.data, .pinned], laidTests := true, laidLooks := .later }
def FnSiteShortCardSaid : Prop := Claim7.holds Tryz.pinned (.plain (OpenSpec.ofChange fnSiteShortSpec)) fnSiteShortCard

/-- THE TIED CARD OF 'laws.FnSiteCanon'. -/
def fnSiteCanonCard : Claim7 := { stood := { row := fnSiteCanonRow, standIns := [], harness := (true, "8e62a4c6c589c418adb0a8edc7ae2872a5efe826ee6a33bdbb6973d902a412af"), looks := false }, kinds := [], alts := [], laidByText := true, laidKinds := [.data, .pinned], laidTests := true, laidLooks := .later }
def FnSiteCanonCardSaid : Prop := Claim7.holds Tryz.pinned (.plain (OpenSpec.ofChange fnSiteCanonSpec)) fnSiteCanonCard

/-- THE TIED CARD OF 'laws.FnExactSiteCanon'. -/
def fnExactSiteCanonCard : Claim7 := { stood := { row := fnExactSiteCanonRow, standIns := [], harness := (true, "8e62a4c6c589c418adb0a8edc7ae2872a5efe826ee6a33bdbb6973d902a412af"), looks := false }, kinds := [], alts := [], laidByText := true, laidKinds := [.data, .pinned], laidTests := true, laidLooks := .later }
def FnExactSiteCanonCardSaid : Prop := Claim7.holds Tryz.pinned (.plain (OpenSpec.ofChange fnExactSiteCanonSpec)) fnExactSiteCanonCard

/-- THE TIED CARD OF 'laws.FnExactSiteShort'. -/
def fnExactSiteShortCard : Claim7 := { stood := { row := fnExactSiteShortRow, standIns := [], harness := (true, "8e62a4c6c589c418adb0a8edc7ae2872a5efe826ee6a33bdbb6973d902a412af"), looks := false }, kinds := [], alts := [], laidByText := true, laidKinds := [.data, .pinned], laidTests := true, laidLooks := .later }
def FnExactSiteShortCardSaid : Prop := Claim7.holds Tryz.pinned (.plain (OpenSpec.ofChange fnExactSiteShortSpec)) fnExactSiteShortCard

/-- THE SECOND FORM's CARD OF 'laws.FnSiteUndo'. -/
def fnSiteUndoUptoCard : Claim7 := { stood := { row := fnSiteUndoUptoRow, standIns := [], harness := (true, "8e62a4c6c589c418adb0a8edc7ae2872a5efe826ee6a33bdbb6973d902a412af"), looks := false }, kinds := [], alts := [], laidByText := true, laidKinds := [.data, .pinned], laidTests := true, laidLooks := .later }
def FnSiteUndoUptoCardSaid : Prop := Claim7.holds Tryz.pinned (.plain (OpenSpec.upto fnSiteUndoSpec)) fnSiteUndoUptoCard

/-- THE SECOND FORM's CARD OF 'laws.FnSiteShort'. -/
def fnSiteShortUptoCard : Claim7 := { stood := { row := fnSiteShortUptoRow, standIns := [], harness := (true, "8e62a4c6c589c418adb0a8edc7ae2872a5efe826ee6a33bdbb6973d902a412af"), looks := false }, kinds := [], alts := [], laidByText := true, laidKinds := [.data, .pinned], laidTests := true, laidLooks := .later }
def FnSiteShortUptoCardSaid : Prop := Claim7.holds Tryz.pinned (.plain (OpenSpec.upto fnSiteShortSpec)) fnSiteShortUptoCard

/-- THE SECOND FORM's CARD OF 'laws.FnSiteCanon'. -/
def fnSiteCanonUptoCard : Claim7 := { stood := { row := fnSiteCanonUptoRow, standIns := [], harness := (true, "8e62a4c6c589c418adb0a8edc7ae2872a5efe826ee6a33bdbb6973d902a412af"), looks := false }, kinds := [], alts := [], laidByText := true, laidKinds := [.data, .pinned], laidTests := true, laidLooks := .later }
def FnSiteCanonUptoCardSaid : Prop := Claim7.holds Tryz.pinned (.plain (OpenSpec.upto fnSiteCanonSpec)) fnSiteCanonUptoCard

/-- THE SECOND FORM's CARD OF 'laws.FnExactSiteCanon'. -/
def fnExactSiteCanonUptoCard : Claim7 := { stood := { row := fnExactSiteCanonUptoRow, standIns := [], harness := (true, "8e62a4c6c589c418adb0a8edc7ae2872a5efe826ee6a33bdbb6973d902a412af"), looks := false }, kinds := [], alts := [], laidByText := true, laidKinds := [.data, .pinned], laidTests := true, laidLooks := .later }
def FnExactSiteCanonUptoCardSaid : Prop := Claim7.holds Tryz.pinned (.plain (OpenSpec.upto fnExactSiteCanonSpec)) fnExactSiteCanonUptoCard

/-- THE SECOND FORM's CARD OF 'laws.FnExactSiteShort'. -/
def fnExactSiteShortUptoCard : Claim7 := { stood := { row := fnExactSiteShortUptoRow, standIns := [], harness := (true, "8e62a4c6c589c418adb0a8edc7ae2872a5efe826ee6a33bdbb6973d902a412af"), looks := false }, kinds := [], alts := [], laidByText := true, laidKinds := [.data, .pinned], laidTests := true, laidLooks := .later }
def FnExactSiteShortUptoCardSaid : Prop := Claim7.holds Tryz.pinned (.plain (OpenSpec.upto fnExactSiteShortSpec)) fnExactSiteShortUptoCard
end Rows
end Go.Proofs.YtcjialgknmplbaaGreatDoor
