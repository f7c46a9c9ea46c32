/-
  DERIVED. GIVEN WITH THE SEED: THE CARDS: each row of YtffammdakbbanaaDoorRows.lean that lists a variable, with what it lists TIED to the program's text (the seventh form; the later family's looks); each row that meets fmt, with fmt's text TOLD by the authors' own Lean function (tested against real Go, not proved from fmt's source: count such statements apart). THE CARD IS WHAT COUNTS. Prove the row's statement (the work); the ties are given (YtffammdakbbanaaDoorTie.lean); close each card by the builder's one call (the guide's Derived/Test/ToyasCard.lean, 'card_holds'). Laid BY PROGRAM, IN A SANDBOX (cutbox-door.mjs). By AI agents, Wed Nov 11 2026. No macro, syntax, notation, axiom, sorry.
-/
import Derived.Test.YtffammdakbbanaaDoorRows
import GoSem.ClaimSeven
namespace Go.Proofs.YtffammdakbbanaaDoor
namespace Rows

/-- THE TIED CARD OF 'laws.FnExactSendRead'. -/
def fnExactSendReadCard : Claim7 := { stood := { row := fnExactSendReadRow, standIns := [], harness := (true, "7dfed31cec3aaa790eefdc6d62fee99c49087e930a2ebd0774f9d7963e0d94d4"), looks := true }, kinds := [], alts := [], laidByText := true, laidKinds := [.data, .data, .data, .data, .sentinel, .sentinel, .pinned], laidTests := true, laidLooks := .later }
def FnExactSendReadCardSaid : Prop := Claim7.holds Tryd.pinned (.plain (OpenSpec.ofChange fnExactSendReadSpec)) fnExactSendReadCard

/-- THE TIED CARD OF 'laws.FnExactTrailBooks'. -/
def fnExactTrailBooksCard : Claim7 := { stood := { row := fnExactTrailBooksRow, standIns := [], harness := (true, "7dfed31cec3aaa790eefdc6d62fee99c49087e930a2ebd0774f9d7963e0d94d4"), looks := true }, kinds := [], alts := [], laidByText := true, laidKinds := [.data, .pinned], laidTests := true, laidLooks := .later }
def FnExactTrailBooksCardSaid : Prop := Claim7.holds Tryd.pinned (.plain (OpenSpec.ofChange fnExactTrailBooksSpec)) fnExactTrailBooksCard

/-- THE SECOND FORM's CARD OF 'laws.FnExactSendRead'. -/
def fnExactSendReadUptoCard : Claim7 := { stood := { row := fnExactSendReadUptoRow, standIns := [], harness := (true, "7dfed31cec3aaa790eefdc6d62fee99c49087e930a2ebd0774f9d7963e0d94d4"), looks := true }, kinds := [], alts := [], laidByText := true, laidKinds := [.data, .data, .data, .data, .sentinel, .sentinel, .pinned], laidTests := true, laidLooks := .later }
def FnExactSendReadUptoCardSaid : Prop := Claim7.holds Tryd.pinned (.plain (OpenSpec.upto fnExactSendReadSpec)) fnExactSendReadUptoCard

/-- THE SECOND FORM's CARD OF 'laws.FnExactTrailBooks'. -/
def fnExactTrailBooksUptoCard : Claim7 := { stood := { row := fnExactTrailBooksUptoRow, standIns := [], harness := (true, "7dfed31cec3aaa790eefdc6d62fee99c49087e930a2ebd0774f9d7963e0d94d4"), looks := true }, kinds := [], alts := [], laidByText := true, laidKinds := [.data, .pinned], laidTests := true, laidLooks := .later }
def FnExactTrailBooksUptoCardSaid : Prop := Claim7.holds Tryd.pinned (.plain (OpenSpec.upto fnExactTrailBooksSpec)) fnExactTrailBooksUptoCard
end Rows
end Go.Proofs.YtffammdakbbanaaDoor
