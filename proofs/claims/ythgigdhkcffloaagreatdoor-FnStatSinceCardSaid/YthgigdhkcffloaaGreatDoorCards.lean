/-
  DERIVED. GIVEN WITH THE SEED: THE CARDS: each row of YthgigdhkcffloaaGreatDoorRows.lean that lists a variable, with what it lists TIED to the program's text (the seventh form; the later family's looks); each row that meets fmt, with fmt's text TOLD by the authors' own Lean function (tested against real Go, not proved from fmt's source: count such statements apart). THE CARD IS WHAT COUNTS. Prove the row's statement (the work); the ties are given (YthgigdhkcffloaaGreatDoorTie.lean); close each card by the builder's one call (the guide's Derived/Test/ToyasCard.lean, 'card_holds'). Laid BY PROGRAM, IN A SANDBOX (cutbox-door.mjs). By AI agents, Wed Nov 11 2026. No macro, syntax, notation, axiom, sorry.
-/
import Derived.Test.YthgigdhkcffloaaGreatDoorRows
import GoSem.ClaimSeven
namespace Go.Proofs.YthgigdhkcffloaaGreatDoor
namespace Rows

/-- THE TIED CARD OF 'laws.FnStatSince'. -/
def fnStatSinceCard : Claim7 := { stood := { row := fnStatSinceRow, standIns := [], harness := (true, "1d8799893391a261a574dd10afaf4cb46d3a6ba291fa6f44e5f930810e4cda2b"), looks := false }, kinds := [], alts := [], laidByText := true, laidKinds := [.data, .pinned], laidTests := true, laidLooks := .later }
def FnStatSinceCardSaid : Prop := Claim7.holds Tryz.pinned (.plain (OpenSpec.ofChange fnStatSinceSpec)) fnStatSinceCard

/-- THE SECOND FORM's CARD OF 'laws.FnStatSince'. -/
def fnStatSinceUptoCard : Claim7 := { stood := { row := fnStatSinceUptoRow, standIns := [], harness := (true, "1d8799893391a261a574dd10afaf4cb46d3a6ba291fa6f44e5f930810e4cda2b"), looks := false }, kinds := [], alts := [], laidByText := true, laidKinds := [.data, .pinned], laidTests := true, laidLooks := .later }
def FnStatSinceUptoCardSaid : Prop := Claim7.holds Tryz.pinned (.plain (OpenSpec.upto fnStatSinceSpec)) fnStatSinceUptoCard
end Rows
end Go.Proofs.YthgigdhkcffloaaGreatDoor
