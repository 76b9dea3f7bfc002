/-
  DERIVED. GIVEN WITH THE SEED: THE CARDS: each row of YthifgndjpjaddaaGreatDoorRows.lean that lists a variable, with what it lists TIED to the program's text (the seventh form; the later family's looks); each row that meets fmt, with fmt's text TOLD by the authors' own Lean function (tested against real Go, not proved from fmt's source: count such statements apart). THE CARD IS WHAT COUNTS. Prove the row's statement (the work); the ties are given (YthifgndjpjaddaaGreatDoorTie.lean); close each card by the builder's one call (the guide's Derived/Test/ToyasCard.lean, 'card_holds'). Laid BY PROGRAM, IN A SANDBOX (cutbox-door.mjs). By AI agents, Wed Nov 11 2026. No macro, syntax, notation, axiom, sorry.
-/
import Derived.Test.YthifgndjpjaddaaGreatDoorRows
import GoSem.ClaimSeven
namespace Go.Proofs.YthifgndjpjaddaaGreatDoor
namespace Rows

/-- THE TIED CARD OF 'laws.FnExactRoundDone'. -/
def fnExactRoundDoneCard : Claim7 := { stood := { row := fnExactRoundDoneRow, standIns := [], harness := (true, "f6bbfb072d631b52af5126af9c0488bbe47dab8eea245a39b6cca8092e7e5cae"), looks := false }, kinds := [], alts := [], laidByText := true, laidKinds := [.data, .pinned], laidTests := true, laidLooks := .later }
def FnExactRoundDoneCardSaid : Prop := Claim7.holds Tryz.pinned (.plain (OpenSpec.ofChange fnExactRoundDoneSpec)) fnExactRoundDoneCard

/-- THE TIED CARD OF 'laws.FnExactRoundApart'. -/
def fnExactRoundApartCard : Claim7 := { stood := { row := fnExactRoundApartRow, standIns := [], harness := (true, "f6bbfb072d631b52af5126af9c0488bbe47dab8eea245a39b6cca8092e7e5cae"), looks := false }, kinds := [], alts := [], laidByText := true, laidKinds := [.data, .pinned], laidTests := true, laidLooks := .later }
def FnExactRoundApartCardSaid : Prop := Claim7.holds Tryz.pinned (.plain (OpenSpec.ofChange fnExactRoundApartSpec)) fnExactRoundApartCard

/-- THE TIED CARD OF 'laws.FnExactRoundPlay'. -/
def fnExactRoundPlayCard : Claim7 := { stood := { row := fnExactRoundPlayRow, standIns := [], harness := (true, "f6bbfb072d631b52af5126af9c0488bbe47dab8eea245a39b6cca8092e7e5cae"), looks := false }, kinds := [], alts := [], laidByText := true, laidKinds := [.data, .pinned], laidTests := true, laidLooks := .later }
def FnExactRoundPlayCardSaid : Prop := Claim7.holds Tryz.pinned (.plain (OpenSpec.ofChange fnExactRoundPlaySpec)) fnExactRoundPlayCard

/-- THE SECOND FORM's CARD OF 'laws.FnExactRoundDone'. -/
def fnExactRoundDoneUptoCard : Claim7 := { stood := { row := fnExactRoundDoneUptoRow, standIns := [], harness := (true, "f6bbfb072d631b52af5126af9c0488bbe47dab8eea245a39b6cca8092e7e5cae"), looks := false }, kinds := [], alts := [], laidByText := true, laidKinds := [.data, .pinned], laidTests := true, laidLooks := .later }
def FnExactRoundDoneUptoCardSaid : Prop := Claim7.holds Tryz.pinned (.plain (OpenSpec.upto fnExactRoundDoneSpec)) fnExactRoundDoneUptoCard

/-- THE SECOND FORM's CARD OF 'laws.FnExactRoundApart'. -/
def fnExactRoundApartUptoCard : Claim7 := { stood := { row := fnExactRoundApartUptoRow, standIns := [], harness := (true, "f6bbfb072d631b52af5126af9c0488bbe47dab8eea245a39b6cca8092e7e5cae"), looks := false }, kinds := [], alts := [], laidByText := true, laidKinds := [.data, .pinned], laidTests := true, laidLooks := .later }
def FnExactRoundApartUptoCardSaid : Prop := Claim7.holds Tryz.pinned (.plain (OpenSpec.upto fnExactRoundApartSpec)) fnExactRoundApartUptoCard

/-- THE SECOND FORM's CARD OF 'laws.FnExactRoundPlay'. -/
def fnExactRoundPlayUptoCard : Claim7 := { stood := { row := fnExactRoundPlayUptoRow, standIns := [], harness := (true, "f6bbfb072d631b52af5126af9c0488bbe47dab8eea245a39b6cca8092e7e5cae"), looks := false }, kinds := [], alts := [], laidByText := true, laidKinds := [.data, .pinned], laidTests := true, laidLooks := .later }
def FnExactRoundPlayUptoCardSaid : Prop := Claim7.holds Tryz.pinned (.plain (OpenSpec.upto fnExactRoundPlaySpec)) fnExactRoundPlayUptoCard
end Rows
end Go.Proofs.YthifgndjpjaddaaGreatDoor
