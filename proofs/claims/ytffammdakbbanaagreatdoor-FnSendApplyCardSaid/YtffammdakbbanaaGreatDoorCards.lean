/-
  DERIVED. GIVEN WITH THE SEED: THE CARDS: each row of YtffammdakbbanaaGreatDoorRows.lean that lists a variable, with what it lists TIED to the program's text (the seventh form; the later family's looks); each row that meets fmt, with fmt's text TOLD by the authors' own Lean function (tested against real Go, not proved from fmt's source: count such statements apart). THE CARD IS WHAT COUNTS. Prove the row's statement (the work); the ties are given (YtffammdakbbanaaGreatDoorTie.lean); close each card by the builder's one call (the guide's Derived/Test/ToyasCard.lean, 'card_holds'). Laid BY PROGRAM, IN A SANDBOX (cutbox-door.mjs). By AI agents, Wed Nov 11 2026. No macro, syntax, notation, axiom, sorry.
-/
import Derived.Test.YtffammdakbbanaaGreatDoorRows
import GoSem.ClaimSeven
namespace Go.Proofs.YtffammdakbbanaaGreatDoor
namespace Rows

/-- THE TIED CARD OF 'laws.FnStatSince'. -/
def fnStatSinceCard : Claim7 := { stood := { row := fnStatSinceRow, standIns := [], harness := (true, "ad0d94105eb6e27317b1ac9113807a56e7b4c351d1e11cd5cd834b34e0abc181"), looks := true }, kinds := [], alts := [], laidByText := true, laidKinds := [.data, .pinned], laidTests := true, laidLooks := .later }
def FnStatSinceCardSaid : Prop := Claim7.holds Tryz.pinned (.plain (OpenSpec.ofChange fnStatSinceSpec)) fnStatSinceCard

/-- THE TIED CARD OF 'laws.FnExactSendApply'. -/
def fnExactSendApplyCard : Claim7 := { stood := { row := fnExactSendApplyRow, standIns := [], harness := (true, "ad0d94105eb6e27317b1ac9113807a56e7b4c351d1e11cd5cd834b34e0abc181"), looks := true }, kinds := [], alts := [], laidByText := true, laidKinds := [.data, .data, .data, .data, .sentinel, .sentinel, .pinned], laidTests := true, laidLooks := .later }
def FnExactSendApplyCardSaid : Prop := Claim7.holds Tryz.pinned (.plain (OpenSpec.ofChange fnExactSendApplySpec)) fnExactSendApplyCard

/-- THE TIED CARD OF 'laws.FnSendApply'. -/
def fnSendApplyCard : Claim7 := { stood := { row := fnSendApplyRow, standIns := [], harness := (true, "ad0d94105eb6e27317b1ac9113807a56e7b4c351d1e11cd5cd834b34e0abc181"), looks := true }, kinds := [], alts := [], laidByText := true, laidKinds := [.data, .data, .data, .data, .sentinel, .sentinel, .pinned], laidTests := true, laidLooks := .later }
def FnSendApplyCardSaid : Prop := Claim7.holds Tryz.pinned (.plain (OpenSpec.ofChange fnSendApplySpec)) fnSendApplyCard

/-- THE TIED CARD OF 'laws.FnSend'. -/
def fnSendCard : Claim7 := { stood := { row := fnSendRow, standIns := [], harness := (true, "ad0d94105eb6e27317b1ac9113807a56e7b4c351d1e11cd5cd834b34e0abc181"), looks := true }, kinds := [], alts := [], laidByText := true, laidKinds := [.data, .data, .data, .data, .sentinel, .sentinel, .pinned], laidTests := true, laidLooks := .later }
def FnSendCardSaid : Prop := Claim7.holds Tryz.pinned (.plain (OpenSpec.ofChange fnSendSpec)) fnSendCard

/-- THE SECOND FORM's CARD OF 'laws.FnStatSince'. -/
def fnStatSinceUptoCard : Claim7 := { stood := { row := fnStatSinceUptoRow, standIns := [], harness := (true, "ad0d94105eb6e27317b1ac9113807a56e7b4c351d1e11cd5cd834b34e0abc181"), looks := true }, kinds := [], alts := [], laidByText := true, laidKinds := [.data, .pinned], laidTests := true, laidLooks := .later }
def FnStatSinceUptoCardSaid : Prop := Claim7.holds Tryz.pinned (.plain (OpenSpec.upto fnStatSinceSpec)) fnStatSinceUptoCard

/-- THE SECOND FORM's CARD OF 'laws.FnExactSendApply'. -/
def fnExactSendApplyUptoCard : Claim7 := { stood := { row := fnExactSendApplyUptoRow, standIns := [], harness := (true, "ad0d94105eb6e27317b1ac9113807a56e7b4c351d1e11cd5cd834b34e0abc181"), looks := true }, kinds := [], alts := [], laidByText := true, laidKinds := [.data, .data, .data, .data, .sentinel, .sentinel, .pinned], laidTests := true, laidLooks := .later }
def FnExactSendApplyUptoCardSaid : Prop := Claim7.holds Tryz.pinned (.plain (OpenSpec.upto fnExactSendApplySpec)) fnExactSendApplyUptoCard

/-- THE SECOND FORM's CARD OF 'laws.FnSendApply'. -/
def fnSendApplyUptoCard : Claim7 := { stood := { row := fnSendApplyUptoRow, standIns := [], harness := (true, "ad0d94105eb6e27317b1ac9113807a56e7b4c351d1e11cd5cd834b34e0abc181"), looks := true }, kinds := [], alts := [], laidByText := true, laidKinds := [.data, .data, .data, .data, .sentinel, .sentinel, .pinned], laidTests := true, laidLooks := .later }
def FnSendApplyUptoCardSaid : Prop := Claim7.holds Tryz.pinned (.plain (OpenSpec.upto fnSendApplySpec)) fnSendApplyUptoCard

/-- THE SECOND FORM's CARD OF 'laws.FnSend'. -/
def fnSendUptoCard : Claim7 := { stood := { row := fnSendUptoRow, standIns := [], harness := (true, "ad0d94105eb6e27317b1ac9113807a56e7b4c351d1e11cd5cd834b34e0abc181"), looks := true }, kinds := [], alts := [], laidByText := true, laidKinds := [.data, .data, .data, .data, .sentinel, .sentinel, .pinned], laidTests := true, laidLooks := .later }
def FnSendUptoCardSaid : Prop := Claim7.holds Tryz.pinned (.plain (OpenSpec.upto fnSendSpec)) fnSendUptoCard
end Rows
end Go.Proofs.YtffammdakbbanaaGreatDoor
