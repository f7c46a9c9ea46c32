/-
  DERIVED. GIVEN WITH THE SEED: THE CARDS: each row of YtbdklnphnibfiaaDoorRows.lean that lists a variable, with what it lists TIED to the program's text (the seventh form; the later family's looks); each row that meets fmt, with fmt's text TOLD by the authors' own Lean function (tested against real Go, not proved from fmt's source: count such statements apart). THE CARD IS WHAT COUNTS. Prove the row's statement (the work); the ties are given (YtbdklnphnibfiaaDoorTie.lean); close each card by the builder's one call (the guide's Derived/Test/ToyasCard.lean, 'card_holds'). Laid BY PROGRAM, IN A SANDBOX (cutbox-door.mjs). By AI agents, Wed Nov 11 2026. No macro, syntax, notation, axiom, sorry.
-/
import Derived.Test.YtbdklnphnibfiaaDoorRows
import GoSem.ClaimSeven
namespace Go.Proofs.YtbdklnphnibfiaaDoor
namespace Rows

/-- THE TIED CARD OF 'laws.FnExactTrailBooks'. -/
def fnExactTrailBooksCard : Claim7 := { stood := { row := fnExactTrailBooksRow, standIns := [], harness := (true, "a67ba4b7298801f2c3e4e64e462f9982f82466d5bd896d97c72fc21448b91f89"), looks := false }, kinds := [], alts := [], laidByText := true, laidKinds := [.data, .pinned], laidTests := true, laidLooks := .later }
def FnExactTrailBooksCardSaid : Prop := Claim7.holds Tryd.pinned (.plain (OpenSpec.ofChange fnExactTrailBooksSpec)) fnExactTrailBooksCard

/-- THE SECOND FORM's CARD OF 'laws.FnExactTrailBooks'. -/
def fnExactTrailBooksUptoCard : Claim7 := { stood := { row := fnExactTrailBooksUptoRow, standIns := [], harness := (true, "a67ba4b7298801f2c3e4e64e462f9982f82466d5bd896d97c72fc21448b91f89"), looks := false }, kinds := [], alts := [], laidByText := true, laidKinds := [.data, .pinned], laidTests := true, laidLooks := .later }
def FnExactTrailBooksUptoCardSaid : Prop := Claim7.holds Tryd.pinned (.plain (OpenSpec.upto fnExactTrailBooksSpec)) fnExactTrailBooksUptoCard
end Rows
end Go.Proofs.YtbdklnphnibfiaaDoor
