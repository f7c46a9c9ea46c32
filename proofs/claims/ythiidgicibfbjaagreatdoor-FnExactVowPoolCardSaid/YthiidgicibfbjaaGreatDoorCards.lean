/-
  DERIVED. GIVEN WITH THE SEED: THE CARDS: each row of YthiidgicibfbjaaGreatDoorRows.lean that lists a variable, with what it lists TIED to the program's text (the seventh form; the later family's looks); each row that meets fmt, with fmt's text TOLD by the authors' own Lean function (tested against real Go, not proved from fmt's source: count such statements apart). THE CARD IS WHAT COUNTS. Prove the row's statement (the work); the ties are given (YthiidgicibfbjaaGreatDoorTie.lean); close each card by the builder's one call (the guide's Derived/Test/ToyasCard.lean, 'card_holds'). Laid BY PROGRAM, IN A SANDBOX (cutbox-door.mjs). By AI agents, Wed Nov 11 2026. No macro, syntax, notation, axiom, sorry.
-/
import Derived.Test.YthiidgicibfbjaaGreatDoorRows
import GoSem.ClaimSeven
namespace Go.Proofs.YthiidgicibfbjaaGreatDoor
namespace Rows

/-- THE TIED CARD OF 'laws.FnExactVowDisk'. -/
def fnExactVowDiskCard : Claim7 := { stood := { row := fnExactVowDiskRow, standIns := [], harness := (true, "94ddc6106c0e87da7f990659e475fcd9fa75f92a8b1a5b1f9337df2f6a15a156"), looks := true }, kinds := [], alts := [], laidByText := true, laidKinds := [.data, .data, .data, .data, .sentinel, .sentinel, .pinned], laidTests := true, laidLooks := .later }
def FnExactVowDiskCardSaid : Prop := Claim7.holds Tryz.pinned (.plain (OpenSpec.ofChange fnExactVowDiskSpec)) fnExactVowDiskCard

/-- THE TIED CARD OF 'laws.FnExactRiseCut'. -/
def fnExactRiseCutCard : Claim7 := { stood := { row := fnExactRiseCutRow, standIns := [], harness := (true, "94ddc6106c0e87da7f990659e475fcd9fa75f92a8b1a5b1f9337df2f6a15a156"), looks := true }, kinds := [], alts := [], laidByText := true, laidKinds := [.data, .data, .data, .data, .sentinel, .sentinel, .pinned], laidTests := true, laidLooks := .later }
def FnExactRiseCutCardSaid : Prop := Claim7.holds Tryz.pinned (.plain (OpenSpec.ofChange fnExactRiseCutSpec)) fnExactRiseCutCard

/-- THE TIED CARD OF 'laws.FnExactRiseDo'. -/
def fnExactRiseDoCard : Claim7 := { stood := { row := fnExactRiseDoRow, standIns := [], harness := (true, "94ddc6106c0e87da7f990659e475fcd9fa75f92a8b1a5b1f9337df2f6a15a156"), looks := true }, kinds := [], alts := [], laidByText := true, laidKinds := [.data, .data, .data, .data, .sentinel, .sentinel, .pinned], laidTests := true, laidLooks := .later }
def FnExactRiseDoCardSaid : Prop := Claim7.holds Tryz.pinned (.plain (OpenSpec.ofChange fnExactRiseDoSpec)) fnExactRiseDoCard

/-- THE TIED CARD OF 'laws.FnExactVowPool'. -/
def fnExactVowPoolCard : Claim7 := { stood := { row := fnExactVowPoolRow, standIns := [], harness := (true, "94ddc6106c0e87da7f990659e475fcd9fa75f92a8b1a5b1f9337df2f6a15a156"), looks := true }, kinds := [], alts := [], laidByText := true, laidKinds := [.data, .data, .data, .data, .sentinel, .sentinel, .pinned], laidTests := true, laidLooks := .later }
def FnExactVowPoolCardSaid : Prop := Claim7.holds Tryz.pinned (.plain (OpenSpec.ofChange fnExactVowPoolSpec)) fnExactVowPoolCard

/-- THE SECOND FORM's CARD OF 'laws.FnExactVowDisk'. -/
def fnExactVowDiskUptoCard : Claim7 := { stood := { row := fnExactVowDiskUptoRow, standIns := [], harness := (true, "94ddc6106c0e87da7f990659e475fcd9fa75f92a8b1a5b1f9337df2f6a15a156"), looks := true }, kinds := [], alts := [], laidByText := true, laidKinds := [.data, .data, .data, .data, .sentinel, .sentinel, .pinned], laidTests := true, laidLooks := .later }
def FnExactVowDiskUptoCardSaid : Prop := Claim7.holds Tryz.pinned (.plain (OpenSpec.upto fnExactVowDiskSpec)) fnExactVowDiskUptoCard

/-- THE SECOND FORM's CARD OF 'laws.FnExactRiseCut'. -/
def fnExactRiseCutUptoCard : Claim7 := { stood := { row := fnExactRiseCutUptoRow, standIns := [], harness := (true, "94ddc6106c0e87da7f990659e475fcd9fa75f92a8b1a5b1f9337df2f6a15a156"), looks := true }, kinds := [], alts := [], laidByText := true, laidKinds := [.data, .data, .data, .data, .sentinel, .sentinel, .pinned], laidTests := true, laidLooks := .later }
def FnExactRiseCutUptoCardSaid : Prop := Claim7.holds Tryz.pinned (.plain (OpenSpec.upto fnExactRiseCutSpec)) fnExactRiseCutUptoCard

/-- THE SECOND FORM's CARD OF 'laws.FnExactRiseDo'. -/
def fnExactRiseDoUptoCard : Claim7 := { stood := { row := fnExactRiseDoUptoRow, standIns := [], harness := (true, "94ddc6106c0e87da7f990659e475fcd9fa75f92a8b1a5b1f9337df2f6a15a156"), looks := true }, kinds := [], alts := [], laidByText := true, laidKinds := [.data, .data, .data, .data, .sentinel, .sentinel, .pinned], laidTests := true, laidLooks := .later }
def FnExactRiseDoUptoCardSaid : Prop := Claim7.holds Tryz.pinned (.plain (OpenSpec.upto fnExactRiseDoSpec)) fnExactRiseDoUptoCard

/-- THE SECOND FORM's CARD OF 'laws.FnExactVowPool'. -/
def fnExactVowPoolUptoCard : Claim7 := { stood := { row := fnExactVowPoolUptoRow, standIns := [], harness := (true, "94ddc6106c0e87da7f990659e475fcd9fa75f92a8b1a5b1f9337df2f6a15a156"), looks := true }, kinds := [], alts := [], laidByText := true, laidKinds := [.data, .data, .data, .data, .sentinel, .sentinel, .pinned], laidTests := true, laidLooks := .later }
def FnExactVowPoolUptoCardSaid : Prop := Claim7.holds Tryz.pinned (.plain (OpenSpec.upto fnExactVowPoolSpec)) fnExactVowPoolUptoCard
end Rows
end Go.Proofs.YthiidgicibfbjaaGreatDoor
