/-
  DERIVED. GIVEN WITH THE SEED: THE CARDS: each row of YtcbjbdnmhlhijaaGreatDoorRows.lean that lists a variable, with what it lists TIED to the program's text (the seventh form; the later family's looks); each row that meets fmt, with fmt's text TOLD by the authors' own Lean function (tested against real Go, not proved from fmt's source: count such statements apart). THE CARD IS WHAT COUNTS. Prove the row's statement (the work); the ties are given (YtcbjbdnmhlhijaaGreatDoorTie.lean); close each card by the builder's one call (the guide's Derived/Test/ToyasCard.lean, 'card_holds'). Laid BY PROGRAM, IN A SANDBOX (cutbox-door.mjs). By AI agents, Wed Nov 11 2026. No macro, syntax, notation, axiom, sorry.
-/
import Derived.Test.YtcbjbdnmhlhijaaGreatDoorRows
import GoSem.ClaimSeven
namespace Go.Proofs.YtcbjbdnmhlhijaaGreatDoor
namespace Rows

/-- THE TIED CARD OF 'laws.FnExactPoolCall'. -/
def fnExactPoolCallCard : Claim7 := { stood := { row := fnExactPoolCallRow, standIns := [], harness := (true, "cc65649d1714594bef1c6ae0d5c90554964daf48a54f1a68d9d0a9d5f85e006a"), looks := true }, kinds := [], alts := [], laidByText := true, laidKinds := [.data, .data, .data, .data, .pinned], laidTests := true, laidLooks := .later }
def FnExactPoolCallCardSaid : Prop := Claim7.holds Tryz.pinned (.plain (OpenSpec.ofChange fnExactPoolCallSpec)) fnExactPoolCallCard

/-- THE TIED CARD OF 'laws.FnExactVowLog'. -/
def fnExactVowLogCard : Claim7 := { stood := { row := fnExactVowLogRow, standIns := [], harness := (true, "cc65649d1714594bef1c6ae0d5c90554964daf48a54f1a68d9d0a9d5f85e006a"), looks := true }, kinds := [], alts := [], laidByText := true, laidKinds := [.data, .data, .data, .data, .sentinel, .sentinel, .pinned], laidTests := true, laidLooks := .later }
def FnExactVowLogCardSaid : Prop := Claim7.holds Tryz.pinned (.plain (OpenSpec.ofChange fnExactVowLogSpec)) fnExactVowLogCard

/-- THE TIED CARD OF 'laws.FnExactPoolCut'. -/
def fnExactPoolCutCard : Claim7 := { stood := { row := fnExactPoolCutRow, standIns := [], harness := (true, "cc65649d1714594bef1c6ae0d5c90554964daf48a54f1a68d9d0a9d5f85e006a"), looks := true }, kinds := [], alts := [], laidByText := true, laidKinds := [.data, .data, .data, .data, .pinned], laidTests := true, laidLooks := .later }
def FnExactPoolCutCardSaid : Prop := Claim7.holds Tryz.pinned (.plain (OpenSpec.ofChange fnExactPoolCutSpec)) fnExactPoolCutCard

/-- THE SECOND FORM's CARD OF 'laws.FnExactPoolCall'. -/
def fnExactPoolCallUptoCard : Claim7 := { stood := { row := fnExactPoolCallUptoRow, standIns := [], harness := (true, "cc65649d1714594bef1c6ae0d5c90554964daf48a54f1a68d9d0a9d5f85e006a"), looks := true }, kinds := [], alts := [], laidByText := true, laidKinds := [.data, .data, .data, .data, .pinned], laidTests := true, laidLooks := .later }
def FnExactPoolCallUptoCardSaid : Prop := Claim7.holds Tryz.pinned (.plain (OpenSpec.upto fnExactPoolCallSpec)) fnExactPoolCallUptoCard

/-- THE SECOND FORM's CARD OF 'laws.FnExactVowLog'. -/
def fnExactVowLogUptoCard : Claim7 := { stood := { row := fnExactVowLogUptoRow, standIns := [], harness := (true, "cc65649d1714594bef1c6ae0d5c90554964daf48a54f1a68d9d0a9d5f85e006a"), looks := true }, kinds := [], alts := [], laidByText := true, laidKinds := [.data, .data, .data, .data, .sentinel, .sentinel, .pinned], laidTests := true, laidLooks := .later }
def FnExactVowLogUptoCardSaid : Prop := Claim7.holds Tryz.pinned (.plain (OpenSpec.upto fnExactVowLogSpec)) fnExactVowLogUptoCard

/-- THE SECOND FORM's CARD OF 'laws.FnExactPoolCut'. -/
def fnExactPoolCutUptoCard : Claim7 := { stood := { row := fnExactPoolCutUptoRow, standIns := [], harness := (true, "cc65649d1714594bef1c6ae0d5c90554964daf48a54f1a68d9d0a9d5f85e006a"), looks := true }, kinds := [], alts := [], laidByText := true, laidKinds := [.data, .data, .data, .data, .pinned], laidTests := true, laidLooks := .later }
def FnExactPoolCutUptoCardSaid : Prop := Claim7.holds Tryz.pinned (.plain (OpenSpec.upto fnExactPoolCutSpec)) fnExactPoolCutUptoCard
end Rows
end Go.Proofs.YtcbjbdnmhlhijaaGreatDoor
