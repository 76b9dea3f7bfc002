/-
  DERIVED. GIVEN WITH THE SEED: THE CARDS: each row of YtccifbbjbnjcfaaGreatDoorRows.lean that lists a variable, with what it lists TIED to the program's text (the seventh form; the later family's looks); each row that meets fmt, with fmt's text TOLD by the authors' own Lean function (tested against real Go, not proved from fmt's source: count such statements apart). THE CARD IS WHAT COUNTS. Prove the row's statement (the work); the ties are given (YtccifbbjbnjcfaaGreatDoorTie.lean); close each card by the builder's one call (the guide's Derived/Test/ToyasCard.lean, 'card_holds'). Laid BY PROGRAM, IN A SANDBOX (cutbox-door.mjs). By AI agents, Wed Nov 11 2026. No macro, syntax, notation, axiom, sorry.
-/
import Derived.Test.YtccifbbjbnjcfaaGreatDoorRows
import GoSem.ClaimSeven
namespace Go.Proofs.YtccifbbjbnjcfaaGreatDoor
namespace Rows

/-- THE TIED CARD OF 'laws.FnExactBookAdd'. -/
def fnExactBookAddCard : Claim7 := { stood := { row := fnExactBookAddRow, standIns := [], harness := (true, "fd71152eef789a189859e6ecbc9208be410a6fc5e31158a10c38eebd36fd34e0"), looks := false }, kinds := [], alts := [], laidByText := true, laidKinds := [.data, .pinned], laidTests := true, laidLooks := .later }
def FnExactBookAddCardSaid : Prop := Claim7.holds Tryz.pinned (.plain (OpenSpec.ofChange fnExactBookAddSpec)) fnExactBookAddCard

/-- THE TIED CARD OF 'laws.FnExactBookSteps'. -/
def fnExactBookStepsCard : Claim7 := { stood := { row := fnExactBookStepsRow, standIns := [], harness := (true, "fd71152eef789a189859e6ecbc9208be410a6fc5e31158a10c38eebd36fd34e0"), looks := false }, kinds := [], alts := [], laidByText := true, laidKinds := [.data, .pinned], laidTests := true, laidLooks := .later }
def FnExactBookStepsCardSaid : Prop := Claim7.holds Tryz.pinned (.plain (OpenSpec.ofChange fnExactBookStepsSpec)) fnExactBookStepsCard

/-- THE TIED CARD OF 'laws.FnReplace'. -/
def fnReplaceCard : Claim7 := { stood := { row := fnReplaceRow, standIns := [], harness := (true, "fd71152eef789a189859e6ecbc9208be410a6fc5e31158a10c38eebd36fd34e0"), looks := false }, kinds := [], alts := [], laidByText := true, laidKinds := [.data, .pinned], laidTests := true, laidLooks := .later }
def FnReplaceCardSaid : Prop := Claim7.holds Tryz.pinned (.plain (OpenSpec.ofChange fnReplaceSpec)) fnReplaceCard

/-- THE TIED CARD OF 'laws.FnReplaceCrash'. -/
def fnReplaceCrashCard : Claim7 := { stood := { row := fnReplaceCrashRow, standIns := [], harness := (true, "fd71152eef789a189859e6ecbc9208be410a6fc5e31158a10c38eebd36fd34e0"), looks := false }, kinds := [], alts := [], laidByText := true, laidKinds := [.data, .pinned], laidTests := true, laidLooks := .later }
def FnReplaceCrashCardSaid : Prop := Claim7.holds Tryz.pinned (.plain (OpenSpec.ofChange fnReplaceCrashSpec)) fnReplaceCrashCard

/-- THE TIED CARD OF 'laws.FnAdd'. -/
def fnAddCard : Claim7 := { stood := { row := fnAddRow, standIns := [], harness := (true, "fd71152eef789a189859e6ecbc9208be410a6fc5e31158a10c38eebd36fd34e0"), looks := false }, kinds := [], alts := [], laidByText := true, laidKinds := [.data, .pinned], laidTests := true, laidLooks := .later }
def FnAddCardSaid : Prop := Claim7.holds Tryz.pinned (.plain (OpenSpec.ofChange fnAddSpec)) fnAddCard

/-- THE SECOND FORM's CARD OF 'laws.FnExactBookAdd'. -/
def fnExactBookAddUptoCard : Claim7 := { stood := { row := fnExactBookAddUptoRow, standIns := [], harness := (true, "fd71152eef789a189859e6ecbc9208be410a6fc5e31158a10c38eebd36fd34e0"), looks := false }, kinds := [], alts := [], laidByText := true, laidKinds := [.data, .pinned], laidTests := true, laidLooks := .later }
def FnExactBookAddUptoCardSaid : Prop := Claim7.holds Tryz.pinned (.plain (OpenSpec.upto fnExactBookAddSpec)) fnExactBookAddUptoCard

/-- THE SECOND FORM's CARD OF 'laws.FnExactBookSteps'. -/
def fnExactBookStepsUptoCard : Claim7 := { stood := { row := fnExactBookStepsUptoRow, standIns := [], harness := (true, "fd71152eef789a189859e6ecbc9208be410a6fc5e31158a10c38eebd36fd34e0"), looks := false }, kinds := [], alts := [], laidByText := true, laidKinds := [.data, .pinned], laidTests := true, laidLooks := .later }
def FnExactBookStepsUptoCardSaid : Prop := Claim7.holds Tryz.pinned (.plain (OpenSpec.upto fnExactBookStepsSpec)) fnExactBookStepsUptoCard

/-- THE SECOND FORM's CARD OF 'laws.FnReplace'. -/
def fnReplaceUptoCard : Claim7 := { stood := { row := fnReplaceUptoRow, standIns := [], harness := (true, "fd71152eef789a189859e6ecbc9208be410a6fc5e31158a10c38eebd36fd34e0"), looks := false }, kinds := [], alts := [], laidByText := true, laidKinds := [.data, .pinned], laidTests := true, laidLooks := .later }
def FnReplaceUptoCardSaid : Prop := Claim7.holds Tryz.pinned (.plain (OpenSpec.upto fnReplaceSpec)) fnReplaceUptoCard

/-- THE SECOND FORM's CARD OF 'laws.FnReplaceCrash'. -/
def fnReplaceCrashUptoCard : Claim7 := { stood := { row := fnReplaceCrashUptoRow, standIns := [], harness := (true, "fd71152eef789a189859e6ecbc9208be410a6fc5e31158a10c38eebd36fd34e0"), looks := false }, kinds := [], alts := [], laidByText := true, laidKinds := [.data, .pinned], laidTests := true, laidLooks := .later }
def FnReplaceCrashUptoCardSaid : Prop := Claim7.holds Tryz.pinned (.plain (OpenSpec.upto fnReplaceCrashSpec)) fnReplaceCrashUptoCard

/-- THE SECOND FORM's CARD OF 'laws.FnAdd'. -/
def fnAddUptoCard : Claim7 := { stood := { row := fnAddUptoRow, standIns := [], harness := (true, "fd71152eef789a189859e6ecbc9208be410a6fc5e31158a10c38eebd36fd34e0"), looks := false }, kinds := [], alts := [], laidByText := true, laidKinds := [.data, .pinned], laidTests := true, laidLooks := .later }
def FnAddUptoCardSaid : Prop := Claim7.holds Tryz.pinned (.plain (OpenSpec.upto fnAddSpec)) fnAddUptoCard
end Rows
end Go.Proofs.YtccifbbjbnjcfaaGreatDoor
