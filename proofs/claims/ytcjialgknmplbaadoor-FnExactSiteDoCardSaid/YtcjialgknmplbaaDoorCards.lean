/-
  DERIVED. GIVEN WITH THE SEED: THE CARDS: each row of YtcjialgknmplbaaDoorRows.lean that lists a variable, with what it lists TIED to the program's text (the seventh form; the later family's looks); each row that meets fmt, with fmt's text TOLD by the authors' own Lean function (tested against real Go, not proved from fmt's source: count such statements apart). THE CARD IS WHAT COUNTS. Prove the row's statement (the work); the ties are given (YtcjialgknmplbaaDoorTie.lean); close each card by the builder's one call (the guide's Derived/Test/ToyasCard.lean, 'card_holds'). Laid BY PROGRAM, IN A SANDBOX (cutbox-door.mjs). By AI agents, Wed Nov 11 2026. No macro, syntax, notation, axiom, sorry.
-/
import Derived.Test.YtcjialgknmplbaaDoorRows
import GoSem.ClaimSeven
namespace Go.Proofs.YtcjialgknmplbaaDoor
namespace Rows

/-- THE TIED CARD OF 'laws.FnSitePart'. -/
def fnSitePartCard : Claim7 := { stood := { row := fnSitePartRow, standIns := [], harness := (true, "b986b116244bab94287d97cbe3159101e2866cd8fd4359818368e36234d8cd41"), looks := false }, kinds := [], alts := [], laidByText := true, laidKinds := [.data, .pinned], laidTests := true, laidLooks := .later }
def FnSitePartCardSaid : Prop := Claim7.holds Tryd.pinned (.plain (OpenSpec.ofChange fnSitePartSpec)) fnSitePartCard

/-- THE TIED CARD OF 'laws.FnSiteTree'. -/
def fnSiteTreeCard : Claim7 := { stood := { row := fnSiteTreeRow, standIns := [], harness := (true, "b986b116244bab94287d97cbe3159101e2866cd8fd4359818368e36234d8cd41"), looks := false }, kinds := [], alts := [], laidByText := true, laidKinds := [.data, .pinned], laidTests := true, laidLooks := .later }
def FnSiteTreeCardSaid : Prop := Claim7.holds Tryd.pinned (.plain (OpenSpec.ofChange fnSiteTreeSpec)) fnSiteTreeCard

/-- THE TIED CARD OF 'laws.FnExactSiteValid'. -/
def fnExactSiteValidCard : Claim7 := { stood := { row := fnExactSiteValidRow, standIns := [], harness := (true, "b986b116244bab94287d97cbe3159101e2866cd8fd4359818368e36234d8cd41"), looks := false }, kinds := [], alts := [], laidByText := true, laidKinds := [.data, .pinned], laidTests := true, laidLooks := .later }
def FnExactSiteValidCardSaid : Prop := Claim7.holds Tryd.pinned (.plain (OpenSpec.ofChange fnExactSiteValidSpec)) fnExactSiteValidCard

/-- THE TIED CARD OF 'laws.FnSiteDo'. -/
def fnSiteDoCard : Claim7 := { stood := { row := fnSiteDoRow, standIns := [], harness := (true, "b986b116244bab94287d97cbe3159101e2866cd8fd4359818368e36234d8cd41"), looks := false }, kinds := [], alts := [], laidByText := true, laidKinds := [.data, .pinned], laidTests := true, laidLooks := .later }
def FnSiteDoCardSaid : Prop := Claim7.holds Tryd.pinned (.plain (OpenSpec.ofChange fnSiteDoSpec)) fnSiteDoCard

/-- THE TIED CARD OF 'laws.FnSiteDoBreak'. -/
def fnSiteDoBreakCard : Claim7 := { stood := { row := fnSiteDoBreakRow, standIns := [], harness := (true, "b986b116244bab94287d97cbe3159101e2866cd8fd4359818368e36234d8cd41"), looks := false }, kinds := [], alts := [], laidByText := true, laidKinds := [.data, .pinned], laidTests := true, laidLooks := .later }
def FnSiteDoBreakCardSaid : Prop := Claim7.holds Tryd.pinned (.plain (OpenSpec.ofChange fnSiteDoBreakSpec)) fnSiteDoBreakCard

/-- THE TIED CARD OF 'laws.FnExactSiteTree'. -/
def fnExactSiteTreeCard : Claim7 := { stood := { row := fnExactSiteTreeRow, standIns := [], harness := (true, "b986b116244bab94287d97cbe3159101e2866cd8fd4359818368e36234d8cd41"), looks := false }, kinds := [], alts := [], laidByText := true, laidKinds := [.data, .pinned], laidTests := true, laidLooks := .later }
def FnExactSiteTreeCardSaid : Prop := Claim7.holds Tryd.pinned (.plain (OpenSpec.ofChange fnExactSiteTreeSpec)) fnExactSiteTreeCard

/-- THE TIED CARD OF 'laws.FnExactSiteDo'. -/
def fnExactSiteDoCard : Claim7 := { stood := { row := fnExactSiteDoRow, standIns := [], harness := (true, "b986b116244bab94287d97cbe3159101e2866cd8fd4359818368e36234d8cd41"), looks := false }, kinds := [], alts := [], laidByText := true, laidKinds := [.data, .pinned], laidTests := true, laidLooks := .later }
def FnExactSiteDoCardSaid : Prop := Claim7.holds Tryd.pinned (.plain (OpenSpec.ofChange fnExactSiteDoSpec)) fnExactSiteDoCard

/-- THE SECOND FORM's CARD OF 'laws.FnSitePart'. -/
def fnSitePartUptoCard : Claim7 := { stood := { row := fnSitePartUptoRow, standIns := [], harness := (true, "b986b116244bab94287d97cbe3159101e2866cd8fd4359818368e36234d8cd41"), looks := false }, kinds := [], alts := [], laidByText := true, laidKinds := [.data, .pinned], laidTests := true, laidLooks := .later }
def FnSitePartUptoCardSaid : Prop := Claim7.holds Tryd.pinned (.plain (OpenSpec.upto fnSitePartSpec)) fnSitePartUptoCard

/-- THE SECOND FORM's CARD OF 'laws.FnSiteTree'. -/
def fnSiteTreeUptoCard : Claim7 := { stood := { row := fnSiteTreeUptoRow, standIns := [], harness := (true, "b986b116244bab94287d97cbe3159101e2866cd8fd4359818368e36234d8cd41"), looks := false }, kinds := [], alts := [], laidByText := true, laidKinds := [.data, .pinned], laidTests := true, laidLooks := .later }
def FnSiteTreeUptoCardSaid : Prop := Claim7.holds Tryd.pinned (.plain (OpenSpec.upto fnSiteTreeSpec)) fnSiteTreeUptoCard

/-- THE SECOND FORM's CARD OF 'laws.FnExactSiteValid'. -/
def fnExactSiteValidUptoCard : Claim7 := { stood := { row := fnExactSiteValidUptoRow, standIns := [], harness := (true, "b986b116244bab94287d97cbe3159101e2866cd8fd4359818368e36234d8cd41"), looks := false }, kinds := [], alts := [], laidByText := true, laidKinds := [.data, .pinned], laidTests := true, laidLooks := .later }
def FnExactSiteValidUptoCardSaid : Prop := Claim7.holds Tryd.pinned (.plain (OpenSpec.upto fnExactSiteValidSpec)) fnExactSiteValidUptoCard

/-- THE SECOND FORM's CARD OF 'laws.FnSiteDo'. -/
def fnSiteDoUptoCard : Claim7 := { stood := { row := fnSiteDoUptoRow, standIns := [], harness := (true, "b986b116244bab94287d97cbe3159101e2866cd8fd4359818368e36234d8cd41"), looks := false }, kinds := [], alts := [], laidByText := true, laidKinds := [.data, .pinned], laidTests := true, laidLooks := .later }
def FnSiteDoUptoCardSaid : Prop := Claim7.holds Tryd.pinned (.plain (OpenSpec.upto fnSiteDoSpec)) fnSiteDoUptoCard

/-- THE SECOND FORM's CARD OF 'laws.FnSiteDoBreak'. -/
def fnSiteDoBreakUptoCard : Claim7 := { stood := { row := fnSiteDoBreakUptoRow, standIns := [], harness := (true, "b986b116244bab94287d97cbe3159101e2866cd8fd4359818368e36234d8cd41"), looks := false }, kinds := [], alts := [], laidByText := true, laidKinds := [.data, .pinned], laidTests := true, laidLooks := .later }
def FnSiteDoBreakUptoCardSaid : Prop := Claim7.holds Tryd.pinned (.plain (OpenSpec.upto fnSiteDoBreakSpec)) fnSiteDoBreakUptoCard

/-- THE SECOND FORM's CARD OF 'laws.FnExactSiteTree'. -/
def fnExactSiteTreeUptoCard : Claim7 := { stood := { row := fnExactSiteTreeUptoRow, standIns := [], harness := (true, "b986b116244bab94287d97cbe3159101e2866cd8fd4359818368e36234d8cd41"), looks := false }, kinds := [], alts := [], laidByText := true, laidKinds := [.data, .pinned], laidTests := true, laidLooks := .later }
def FnExactSiteTreeUptoCardSaid : Prop := Claim7.holds Tryd.pinned (.plain (OpenSpec.upto fnExactSiteTreeSpec)) fnExactSiteTreeUptoCard

/-- THE SECOND FORM's CARD OF 'laws.FnExactSiteDo'. -/
def fnExactSiteDoUptoCard : Claim7 := { stood := { row := fnExactSiteDoUptoRow, standIns := [], harness := (true, "b986b116244bab94287d97cbe3159101e2866cd8fd4359818368e36234d8cd41"), looks := false }, kinds := [], alts := [], laidByText := true, laidKinds := [.data, .pinned], laidTests := true, laidLooks := .later }
def FnExactSiteDoUptoCardSaid : Prop := Claim7.holds Tryd.pinned (.plain (OpenSpec.upto fnExactSiteDoSpec)) fnExactSiteDoUptoCard
end Rows
end Go.Proofs.YtcjialgknmplbaaDoor
