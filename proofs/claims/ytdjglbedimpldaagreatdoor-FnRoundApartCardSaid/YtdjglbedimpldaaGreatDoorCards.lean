/-
  DERIVED. GIVEN WITH THE SEED: THE CARDS: each row of YtdjglbedimpldaaGreatDoorRows.lean that lists a variable, with what it lists TIED to the program's text (the seventh form; the later family's looks); each row that meets fmt, with fmt's text TOLD by the authors' own Lean function (tested against real Go, not proved from fmt's source: count such statements apart). THE CARD IS WHAT COUNTS. Prove the row's statement (the work); the ties are given (YtdjglbedimpldaaGreatDoorTie.lean); close each card by the builder's one call (the guide's Derived/Test/ToyasCard.lean, 'card_holds'). Laid BY PROGRAM, IN A SANDBOX (cutbox-door.mjs). By AI agents, Wed Nov 11 2026. No macro, syntax, notation, axiom, sorry.
-/
import Derived.Test.YtdjglbedimpldaaGreatDoorRows
import GoSem.ClaimSeven
namespace Go.Proofs.YtdjglbedimpldaaGreatDoor
namespace Rows

/-- THE TIED CARD OF 'laws.FnStepPlan'. -/
def fnStepPlanCard : Claim7 := { stood := { row := fnStepPlanRow, standIns := [], harness := (true, "d3524e3f020777a113cdcdf23adb35a3168228aafe4fb8f956b37181560eba74"), looks := false }, kinds := [], alts := [], laidByText := true, laidKinds := [.data, .pinned], laidTests := true, laidLooks := .later }
def FnStepPlanCardSaid : Prop := Claim7.holds Tryz.pinned (.plain (OpenSpec.ofChange fnStepPlanSpec)) fnStepPlanCard

/-- THE TIED CARD OF 'laws.FnExactSessionRun'. -/
def fnExactSessionRunCard : Claim7 := { stood := { row := fnExactSessionRunRow, standIns := [], harness := (true, "d3524e3f020777a113cdcdf23adb35a3168228aafe4fb8f956b37181560eba74"), looks := false }, kinds := [], alts := [], laidByText := true, laidKinds := [.data, .pinned], laidTests := true, laidLooks := .later }
def FnExactSessionRunCardSaid : Prop := Claim7.holds Tryz.pinned (.plain (OpenSpec.ofChange fnExactSessionRunSpec)) fnExactSessionRunCard

/-- THE TIED CARD OF 'laws.FnRoundOrder'. -/
def fnRoundOrderCard : Claim7 := { stood := { row := fnRoundOrderRow, standIns := [], harness := (true, "d3524e3f020777a113cdcdf23adb35a3168228aafe4fb8f956b37181560eba74"), looks := false }, kinds := [], alts := [], laidByText := true, laidKinds := [.data, .pinned], laidTests := true, laidLooks := .later }
def FnRoundOrderCardSaid : Prop := Claim7.holds Tryz.pinned (.plain (OpenSpec.ofChange fnRoundOrderSpec)) fnRoundOrderCard

/-- THE TIED CARD OF 'laws.FnRound'. -/
def fnRoundCard : Claim7 := { stood := { row := fnRoundRow, standIns := [], harness := (true, "d3524e3f020777a113cdcdf23adb35a3168228aafe4fb8f956b37181560eba74"), looks := false }, kinds := [], alts := [], laidByText := true, laidKinds := [.data, .pinned], laidTests := true, laidLooks := .later }
def FnRoundCardSaid : Prop := Claim7.holds Tryz.pinned (.plain (OpenSpec.ofChange fnRoundSpec)) fnRoundCard

/-- THE TIED CARD OF 'laws.FnRoundBegin'. -/
def fnRoundBeginCard : Claim7 := { stood := { row := fnRoundBeginRow, standIns := [], harness := (true, "d3524e3f020777a113cdcdf23adb35a3168228aafe4fb8f956b37181560eba74"), looks := false }, kinds := [], alts := [], laidByText := true, laidKinds := [.data, .pinned], laidTests := true, laidLooks := .later }
def FnRoundBeginCardSaid : Prop := Claim7.holds Tryz.pinned (.plain (OpenSpec.ofChange fnRoundBeginSpec)) fnRoundBeginCard

/-- THE TIED CARD OF 'laws.FnRoundRefused'. -/
def fnRoundRefusedCard : Claim7 := { stood := { row := fnRoundRefusedRow, standIns := [], harness := (true, "d3524e3f020777a113cdcdf23adb35a3168228aafe4fb8f956b37181560eba74"), looks := false }, kinds := [], alts := [], laidByText := true, laidKinds := [.data, .pinned], laidTests := true, laidLooks := .later }
def FnRoundRefusedCardSaid : Prop := Claim7.holds Tryz.pinned (.plain (OpenSpec.ofChange fnRoundRefusedSpec)) fnRoundRefusedCard

/-- THE TIED CARD OF 'laws.FnRoundSync'. -/
def fnRoundSyncCard : Claim7 := { stood := { row := fnRoundSyncRow, standIns := [], harness := (true, "d3524e3f020777a113cdcdf23adb35a3168228aafe4fb8f956b37181560eba74"), looks := false }, kinds := [], alts := [], laidByText := true, laidKinds := [.data, .pinned], laidTests := true, laidLooks := .later }
def FnRoundSyncCardSaid : Prop := Claim7.holds Tryz.pinned (.plain (OpenSpec.ofChange fnRoundSyncSpec)) fnRoundSyncCard

/-- THE TIED CARD OF 'laws.FnExactSessionNew'. -/
def fnExactSessionNewCard : Claim7 := { stood := { row := fnExactSessionNewRow, standIns := [], harness := (true, "d3524e3f020777a113cdcdf23adb35a3168228aafe4fb8f956b37181560eba74"), looks := false }, kinds := [], alts := [], laidByText := true, laidKinds := [.data, .pinned], laidTests := true, laidLooks := .later }
def FnExactSessionNewCardSaid : Prop := Claim7.holds Tryz.pinned (.plain (OpenSpec.ofChange fnExactSessionNewSpec)) fnExactSessionNewCard

/-- THE TIED CARD OF 'laws.FnRoundApart'. -/
def fnRoundApartCard : Claim7 := { stood := { row := fnRoundApartRow, standIns := [], harness := (true, "d3524e3f020777a113cdcdf23adb35a3168228aafe4fb8f956b37181560eba74"), looks := false }, kinds := [], alts := [], laidByText := true, laidKinds := [.data, .pinned], laidTests := true, laidLooks := .later }
def FnRoundApartCardSaid : Prop := Claim7.holds Tryz.pinned (.plain (OpenSpec.ofChange fnRoundApartSpec)) fnRoundApartCard

/-- THE TIED CARD OF 'laws.FnExactSessionStep'. -/
def fnExactSessionStepCard : Claim7 := { stood := { row := fnExactSessionStepRow, standIns := [], harness := (true, "d3524e3f020777a113cdcdf23adb35a3168228aafe4fb8f956b37181560eba74"), looks := false }, kinds := [], alts := [], laidByText := true, laidKinds := [.data, .pinned], laidTests := true, laidLooks := .later }
def FnExactSessionStepCardSaid : Prop := Claim7.holds Tryz.pinned (.plain (OpenSpec.ofChange fnExactSessionStepSpec)) fnExactSessionStepCard

/-- THE SECOND FORM's CARD OF 'laws.FnStepPlan'. -/
def fnStepPlanUptoCard : Claim7 := { stood := { row := fnStepPlanUptoRow, standIns := [], harness := (true, "d3524e3f020777a113cdcdf23adb35a3168228aafe4fb8f956b37181560eba74"), looks := false }, kinds := [], alts := [], laidByText := true, laidKinds := [.data, .pinned], laidTests := true, laidLooks := .later }
def FnStepPlanUptoCardSaid : Prop := Claim7.holds Tryz.pinned (.plain (OpenSpec.upto fnStepPlanSpec)) fnStepPlanUptoCard

/-- THE SECOND FORM's CARD OF 'laws.FnExactSessionRun'. -/
def fnExactSessionRunUptoCard : Claim7 := { stood := { row := fnExactSessionRunUptoRow, standIns := [], harness := (true, "d3524e3f020777a113cdcdf23adb35a3168228aafe4fb8f956b37181560eba74"), looks := false }, kinds := [], alts := [], laidByText := true, laidKinds := [.data, .pinned], laidTests := true, laidLooks := .later }
def FnExactSessionRunUptoCardSaid : Prop := Claim7.holds Tryz.pinned (.plain (OpenSpec.upto fnExactSessionRunSpec)) fnExactSessionRunUptoCard

/-- THE SECOND FORM's CARD OF 'laws.FnRoundOrder'. -/
def fnRoundOrderUptoCard : Claim7 := { stood := { row := fnRoundOrderUptoRow, standIns := [], harness := (true, "d3524e3f020777a113cdcdf23adb35a3168228aafe4fb8f956b37181560eba74"), looks := false }, kinds := [], alts := [], laidByText := true, laidKinds := [.data, .pinned], laidTests := true, laidLooks := .later }
def FnRoundOrderUptoCardSaid : Prop := Claim7.holds Tryz.pinned (.plain (OpenSpec.upto fnRoundOrderSpec)) fnRoundOrderUptoCard

/-- THE SECOND FORM's CARD OF 'laws.FnRound'. -/
def fnRoundUptoCard : Claim7 := { stood := { row := fnRoundUptoRow, standIns := [], harness := (true, "d3524e3f020777a113cdcdf23adb35a3168228aafe4fb8f956b37181560eba74"), looks := false }, kinds := [], alts := [], laidByText := true, laidKinds := [.data, .pinned], laidTests := true, laidLooks := .later }
def FnRoundUptoCardSaid : Prop := Claim7.holds Tryz.pinned (.plain (OpenSpec.upto fnRoundSpec)) fnRoundUptoCard

/-- THE SECOND FORM's CARD OF 'laws.FnRoundBegin'. -/
def fnRoundBeginUptoCard : Claim7 := { stood := { row := fnRoundBeginUptoRow, standIns := [], harness := (true, "d3524e3f020777a113cdcdf23adb35a3168228aafe4fb8f956b37181560eba74"), looks := false }, kinds := [], alts := [], laidByText := true, laidKinds := [.data, .pinned], laidTests := true, laidLooks := .later }
def FnRoundBeginUptoCardSaid : Prop := Claim7.holds Tryz.pinned (.plain (OpenSpec.upto fnRoundBeginSpec)) fnRoundBeginUptoCard

/-- THE SECOND FORM's CARD OF 'laws.FnRoundRefused'. -/
def fnRoundRefusedUptoCard : Claim7 := { stood := { row := fnRoundRefusedUptoRow, standIns := [], harness := (true, "d3524e3f020777a113cdcdf23adb35a3168228aafe4fb8f956b37181560eba74"), looks := false }, kinds := [], alts := [], laidByText := true, laidKinds := [.data, .pinned], laidTests := true, laidLooks := .later }
def FnRoundRefusedUptoCardSaid : Prop := Claim7.holds Tryz.pinned (.plain (OpenSpec.upto fnRoundRefusedSpec)) fnRoundRefusedUptoCard

/-- THE SECOND FORM's CARD OF 'laws.FnRoundSync'. -/
def fnRoundSyncUptoCard : Claim7 := { stood := { row := fnRoundSyncUptoRow, standIns := [], harness := (true, "d3524e3f020777a113cdcdf23adb35a3168228aafe4fb8f956b37181560eba74"), looks := false }, kinds := [], alts := [], laidByText := true, laidKinds := [.data, .pinned], laidTests := true, laidLooks := .later }
def FnRoundSyncUptoCardSaid : Prop := Claim7.holds Tryz.pinned (.plain (OpenSpec.upto fnRoundSyncSpec)) fnRoundSyncUptoCard

/-- THE SECOND FORM's CARD OF 'laws.FnExactSessionNew'. -/
def fnExactSessionNewUptoCard : Claim7 := { stood := { row := fnExactSessionNewUptoRow, standIns := [], harness := (true, "d3524e3f020777a113cdcdf23adb35a3168228aafe4fb8f956b37181560eba74"), looks := false }, kinds := [], alts := [], laidByText := true, laidKinds := [.data, .pinned], laidTests := true, laidLooks := .later }
def FnExactSessionNewUptoCardSaid : Prop := Claim7.holds Tryz.pinned (.plain (OpenSpec.upto fnExactSessionNewSpec)) fnExactSessionNewUptoCard

/-- THE SECOND FORM's CARD OF 'laws.FnRoundApart'. -/
def fnRoundApartUptoCard : Claim7 := { stood := { row := fnRoundApartUptoRow, standIns := [], harness := (true, "d3524e3f020777a113cdcdf23adb35a3168228aafe4fb8f956b37181560eba74"), looks := false }, kinds := [], alts := [], laidByText := true, laidKinds := [.data, .pinned], laidTests := true, laidLooks := .later }
def FnRoundApartUptoCardSaid : Prop := Claim7.holds Tryz.pinned (.plain (OpenSpec.upto fnRoundApartSpec)) fnRoundApartUptoCard

/-- THE SECOND FORM's CARD OF 'laws.FnExactSessionStep'. -/
def fnExactSessionStepUptoCard : Claim7 := { stood := { row := fnExactSessionStepUptoRow, standIns := [], harness := (true, "d3524e3f020777a113cdcdf23adb35a3168228aafe4fb8f956b37181560eba74"), looks := false }, kinds := [], alts := [], laidByText := true, laidKinds := [.data, .pinned], laidTests := true, laidLooks := .later }
def FnExactSessionStepUptoCardSaid : Prop := Claim7.holds Tryz.pinned (.plain (OpenSpec.upto fnExactSessionStepSpec)) fnExactSessionStepUptoCard
end Rows
end Go.Proofs.YtdjglbedimpldaaGreatDoor
