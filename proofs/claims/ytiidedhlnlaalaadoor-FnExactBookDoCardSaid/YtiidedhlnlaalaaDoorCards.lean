/-
  DERIVED. GIVEN WITH THE SEED: THE CARDS: each row of YtiidedhlnlaalaaDoorRows.lean that lists a variable, with what it lists TIED to the program's text (the seventh form; the later family's looks); each row that meets fmt, with fmt's text TOLD by the authors' own Lean function (tested against real Go, not proved from fmt's source: count such statements apart). THE CARD IS WHAT COUNTS. Prove the row's statement (the work); the ties are given (YtiidedhlnlaalaaDoorTie.lean); close each card by the builder's one call (the guide's Derived/Test/ToyasCard.lean, 'card_holds'). Laid BY PROGRAM, IN A SANDBOX (cutbox-door.mjs). By AI agents, Wed Nov 11 2026. No macro, syntax, notation, axiom, sorry.
-/
import Derived.Test.YtiidedhlnlaalaaDoorRows
import GoSem.ClaimSeven
namespace Go.Proofs.YtiidedhlnlaalaaDoor
namespace Rows

/-- THE TIED CARD OF 'laws.FnBookSnap'. -/
def fnBookSnapCard : Claim7 := { stood := { row := fnBookSnapRow, standIns := [], harness := (true, "2c87a6b6aad5d6925286b7b8337d65ec16c4c216255dd393ccb0f40eda3f2dd0"), looks := true }, kinds := [], alts := [], laidByText := true, laidKinds := [.data, .pinned], laidTests := true, laidLooks := .later }
def FnBookSnapCardSaid : Prop := Claim7.holds Tryd.pinned (.plain (OpenSpec.ofChange fnBookSnapSpec)) fnBookSnapCard

/-- THE TIED CARD OF 'laws.FnBookKill'. -/
def fnBookKillCard : Claim7 := { stood := { row := fnBookKillRow, standIns := [], harness := (true, "2c87a6b6aad5d6925286b7b8337d65ec16c4c216255dd393ccb0f40eda3f2dd0"), looks := true }, kinds := [], alts := [], laidByText := true, laidKinds := [.data, .pinned], laidTests := true, laidLooks := .later }
def FnBookKillCardSaid : Prop := Claim7.holds Tryd.pinned (.plain (OpenSpec.ofChange fnBookKillSpec)) fnBookKillCard

/-- THE TIED CARD OF 'laws.FnBookOk'. -/
def fnBookOkCard : Claim7 := { stood := { row := fnBookOkRow, standIns := [], harness := (true, "2c87a6b6aad5d6925286b7b8337d65ec16c4c216255dd393ccb0f40eda3f2dd0"), looks := true }, kinds := [], alts := [], laidByText := true, laidKinds := [.data, .pinned], laidTests := true, laidLooks := .later }
def FnBookOkCardSaid : Prop := Claim7.holds Tryd.pinned (.plain (OpenSpec.ofChange fnBookOkSpec)) fnBookOkCard

/-- THE TIED CARD OF 'laws.FnTreeMay'. -/
def fnTreeMayCard : Claim7 := { stood := { row := fnTreeMayRow, standIns := [], harness := (true, "2c87a6b6aad5d6925286b7b8337d65ec16c4c216255dd393ccb0f40eda3f2dd0"), looks := true }, kinds := [], alts := [], laidByText := true, laidKinds := [.data, .pinned], laidTests := true, laidLooks := .later }
def FnTreeMayCardSaid : Prop := Claim7.holds Tryd.pinned (.plain (OpenSpec.ofChange fnTreeMaySpec)) fnTreeMayCard

/-- THE TIED CARD OF 'laws.FnTrailBooks'. -/
def fnTrailBooksCard : Claim7 := { stood := { row := fnTrailBooksRow, standIns := [], harness := (true, "2c87a6b6aad5d6925286b7b8337d65ec16c4c216255dd393ccb0f40eda3f2dd0"), looks := true }, kinds := [], alts := [], laidByText := true, laidKinds := [.data, .pinned], laidTests := true, laidLooks := .later }
def FnTrailBooksCardSaid : Prop := Claim7.holds Tryd.pinned (.plain (OpenSpec.ofChange fnTrailBooksSpec)) fnTrailBooksCard

/-- THE TIED CARD OF 'laws.FnExactStatSaved'. -/
def fnExactStatSavedCard : Claim7 := { stood := { row := fnExactStatSavedRow, standIns := [], harness := (true, "2c87a6b6aad5d6925286b7b8337d65ec16c4c216255dd393ccb0f40eda3f2dd0"), looks := true }, kinds := [], alts := [], laidByText := true, laidKinds := [.data, .pinned], laidTests := true, laidLooks := .later }
def FnExactStatSavedCardSaid : Prop := Claim7.holds Tryd.pinned (.plain (OpenSpec.ofChange fnExactStatSavedSpec)) fnExactStatSavedCard

/-- THE TIED CARD OF 'laws.FnTreeAll'. -/
def fnTreeAllCard : Claim7 := { stood := { row := fnTreeAllRow, standIns := [], harness := (true, "2c87a6b6aad5d6925286b7b8337d65ec16c4c216255dd393ccb0f40eda3f2dd0"), looks := true }, kinds := [], alts := [], laidByText := true, laidKinds := [.data, .pinned], laidTests := true, laidLooks := .later }
def FnTreeAllCardSaid : Prop := Claim7.holds Tryd.pinned (.plain (OpenSpec.ofChange fnTreeAllSpec)) fnTreeAllCard

/-- THE TIED CARD OF 'laws.FnExactStatSince'. -/
def fnExactStatSinceCard : Claim7 := { stood := { row := fnExactStatSinceRow, standIns := [], harness := (true, "2c87a6b6aad5d6925286b7b8337d65ec16c4c216255dd393ccb0f40eda3f2dd0"), looks := true }, kinds := [], alts := [], laidByText := true, laidKinds := [.data, .pinned], laidTests := true, laidLooks := .later }
def FnExactStatSinceCardSaid : Prop := Claim7.holds Tryd.pinned (.plain (OpenSpec.ofChange fnExactStatSinceSpec)) fnExactStatSinceCard

/-- THE TIED CARD OF 'laws.FnExactStatHold'. -/
def fnExactStatHoldCard : Claim7 := { stood := { row := fnExactStatHoldRow, standIns := [], harness := (true, "2c87a6b6aad5d6925286b7b8337d65ec16c4c216255dd393ccb0f40eda3f2dd0"), looks := true }, kinds := [], alts := [], laidByText := true, laidKinds := [.data, .pinned], laidTests := true, laidLooks := .later }
def FnExactStatHoldCardSaid : Prop := Claim7.holds Tryd.pinned (.plain (OpenSpec.ofChange fnExactStatHoldSpec)) fnExactStatHoldCard

/-- THE TIED CARD OF 'laws.FnExactStatOwn'. -/
def fnExactStatOwnCard : Claim7 := { stood := { row := fnExactStatOwnRow, standIns := [], harness := (true, "2c87a6b6aad5d6925286b7b8337d65ec16c4c216255dd393ccb0f40eda3f2dd0"), looks := true }, kinds := [], alts := [], laidByText := true, laidKinds := [.data, .pinned], laidTests := true, laidLooks := .later }
def FnExactStatOwnCardSaid : Prop := Claim7.holds Tryd.pinned (.plain (OpenSpec.ofChange fnExactStatOwnSpec)) fnExactStatOwnCard

/-- THE TIED CARD OF 'laws.FnExactBookDo'. -/
def fnExactBookDoCard : Claim7 := { stood := { row := fnExactBookDoRow, standIns := [], harness := (true, "2c87a6b6aad5d6925286b7b8337d65ec16c4c216255dd393ccb0f40eda3f2dd0"), looks := true }, kinds := [], alts := [], laidByText := true, laidKinds := [.data, .pinned], laidTests := true, laidLooks := .later }
def FnExactBookDoCardSaid : Prop := Claim7.holds Tryd.pinned (.plain (OpenSpec.ofChange fnExactBookDoSpec)) fnExactBookDoCard

/-- THE TIED CARD OF 'laws.FnExactSendRead'. -/
def fnExactSendReadCard : Claim7 := { stood := { row := fnExactSendReadRow, standIns := [], harness := (true, "2c87a6b6aad5d6925286b7b8337d65ec16c4c216255dd393ccb0f40eda3f2dd0"), looks := true }, kinds := [], alts := [], laidByText := true, laidKinds := [.data, .data, .data, .data, .sentinel, .sentinel, .pinned], laidTests := true, laidLooks := .later }
def FnExactSendReadCardSaid : Prop := Claim7.holds Tryd.pinned (.plain (OpenSpec.ofChange fnExactSendReadSpec)) fnExactSendReadCard

/-- THE SECOND FORM's CARD OF 'laws.FnBookSnap'. -/
def fnBookSnapUptoCard : Claim7 := { stood := { row := fnBookSnapUptoRow, standIns := [], harness := (true, "2c87a6b6aad5d6925286b7b8337d65ec16c4c216255dd393ccb0f40eda3f2dd0"), looks := true }, kinds := [], alts := [], laidByText := true, laidKinds := [.data, .pinned], laidTests := true, laidLooks := .later }
def FnBookSnapUptoCardSaid : Prop := Claim7.holds Tryd.pinned (.plain (OpenSpec.upto fnBookSnapSpec)) fnBookSnapUptoCard

/-- THE SECOND FORM's CARD OF 'laws.FnBookKill'. -/
def fnBookKillUptoCard : Claim7 := { stood := { row := fnBookKillUptoRow, standIns := [], harness := (true, "2c87a6b6aad5d6925286b7b8337d65ec16c4c216255dd393ccb0f40eda3f2dd0"), looks := true }, kinds := [], alts := [], laidByText := true, laidKinds := [.data, .pinned], laidTests := true, laidLooks := .later }
def FnBookKillUptoCardSaid : Prop := Claim7.holds Tryd.pinned (.plain (OpenSpec.upto fnBookKillSpec)) fnBookKillUptoCard

/-- THE SECOND FORM's CARD OF 'laws.FnBookOk'. -/
def fnBookOkUptoCard : Claim7 := { stood := { row := fnBookOkUptoRow, standIns := [], harness := (true, "2c87a6b6aad5d6925286b7b8337d65ec16c4c216255dd393ccb0f40eda3f2dd0"), looks := true }, kinds := [], alts := [], laidByText := true, laidKinds := [.data, .pinned], laidTests := true, laidLooks := .later }
def FnBookOkUptoCardSaid : Prop := Claim7.holds Tryd.pinned (.plain (OpenSpec.upto fnBookOkSpec)) fnBookOkUptoCard

/-- THE SECOND FORM's CARD OF 'laws.FnTreeMay'. -/
def fnTreeMayUptoCard : Claim7 := { stood := { row := fnTreeMayUptoRow, standIns := [], harness := (true, "2c87a6b6aad5d6925286b7b8337d65ec16c4c216255dd393ccb0f40eda3f2dd0"), looks := true }, kinds := [], alts := [], laidByText := true, laidKinds := [.data, .pinned], laidTests := true, laidLooks := .later }
def FnTreeMayUptoCardSaid : Prop := Claim7.holds Tryd.pinned (.plain (OpenSpec.upto fnTreeMaySpec)) fnTreeMayUptoCard

/-- THE SECOND FORM's CARD OF 'laws.FnTrailBooks'. -/
def fnTrailBooksUptoCard : Claim7 := { stood := { row := fnTrailBooksUptoRow, standIns := [], harness := (true, "2c87a6b6aad5d6925286b7b8337d65ec16c4c216255dd393ccb0f40eda3f2dd0"), looks := true }, kinds := [], alts := [], laidByText := true, laidKinds := [.data, .pinned], laidTests := true, laidLooks := .later }
def FnTrailBooksUptoCardSaid : Prop := Claim7.holds Tryd.pinned (.plain (OpenSpec.upto fnTrailBooksSpec)) fnTrailBooksUptoCard

/-- THE SECOND FORM's CARD OF 'laws.FnExactStatSaved'. -/
def fnExactStatSavedUptoCard : Claim7 := { stood := { row := fnExactStatSavedUptoRow, standIns := [], harness := (true, "2c87a6b6aad5d6925286b7b8337d65ec16c4c216255dd393ccb0f40eda3f2dd0"), looks := true }, kinds := [], alts := [], laidByText := true, laidKinds := [.data, .pinned], laidTests := true, laidLooks := .later }
def FnExactStatSavedUptoCardSaid : Prop := Claim7.holds Tryd.pinned (.plain (OpenSpec.upto fnExactStatSavedSpec)) fnExactStatSavedUptoCard

/-- THE SECOND FORM's CARD OF 'laws.FnTreeAll'. -/
def fnTreeAllUptoCard : Claim7 := { stood := { row := fnTreeAllUptoRow, standIns := [], harness := (true, "2c87a6b6aad5d6925286b7b8337d65ec16c4c216255dd393ccb0f40eda3f2dd0"), looks := true }, kinds := [], alts := [], laidByText := true, laidKinds := [.data, .pinned], laidTests := true, laidLooks := .later }
def FnTreeAllUptoCardSaid : Prop := Claim7.holds Tryd.pinned (.plain (OpenSpec.upto fnTreeAllSpec)) fnTreeAllUptoCard

/-- THE SECOND FORM's CARD OF 'laws.FnExactStatSince'. -/
def fnExactStatSinceUptoCard : Claim7 := { stood := { row := fnExactStatSinceUptoRow, standIns := [], harness := (true, "2c87a6b6aad5d6925286b7b8337d65ec16c4c216255dd393ccb0f40eda3f2dd0"), looks := true }, kinds := [], alts := [], laidByText := true, laidKinds := [.data, .pinned], laidTests := true, laidLooks := .later }
def FnExactStatSinceUptoCardSaid : Prop := Claim7.holds Tryd.pinned (.plain (OpenSpec.upto fnExactStatSinceSpec)) fnExactStatSinceUptoCard

/-- THE SECOND FORM's CARD OF 'laws.FnExactStatHold'. -/
def fnExactStatHoldUptoCard : Claim7 := { stood := { row := fnExactStatHoldUptoRow, standIns := [], harness := (true, "2c87a6b6aad5d6925286b7b8337d65ec16c4c216255dd393ccb0f40eda3f2dd0"), looks := true }, kinds := [], alts := [], laidByText := true, laidKinds := [.data, .pinned], laidTests := true, laidLooks := .later }
def FnExactStatHoldUptoCardSaid : Prop := Claim7.holds Tryd.pinned (.plain (OpenSpec.upto fnExactStatHoldSpec)) fnExactStatHoldUptoCard

/-- THE SECOND FORM's CARD OF 'laws.FnExactStatOwn'. -/
def fnExactStatOwnUptoCard : Claim7 := { stood := { row := fnExactStatOwnUptoRow, standIns := [], harness := (true, "2c87a6b6aad5d6925286b7b8337d65ec16c4c216255dd393ccb0f40eda3f2dd0"), looks := true }, kinds := [], alts := [], laidByText := true, laidKinds := [.data, .pinned], laidTests := true, laidLooks := .later }
def FnExactStatOwnUptoCardSaid : Prop := Claim7.holds Tryd.pinned (.plain (OpenSpec.upto fnExactStatOwnSpec)) fnExactStatOwnUptoCard

/-- THE SECOND FORM's CARD OF 'laws.FnExactBookDo'. -/
def fnExactBookDoUptoCard : Claim7 := { stood := { row := fnExactBookDoUptoRow, standIns := [], harness := (true, "2c87a6b6aad5d6925286b7b8337d65ec16c4c216255dd393ccb0f40eda3f2dd0"), looks := true }, kinds := [], alts := [], laidByText := true, laidKinds := [.data, .pinned], laidTests := true, laidLooks := .later }
def FnExactBookDoUptoCardSaid : Prop := Claim7.holds Tryd.pinned (.plain (OpenSpec.upto fnExactBookDoSpec)) fnExactBookDoUptoCard

/-- THE SECOND FORM's CARD OF 'laws.FnExactSendRead'. -/
def fnExactSendReadUptoCard : Claim7 := { stood := { row := fnExactSendReadUptoRow, standIns := [], harness := (true, "2c87a6b6aad5d6925286b7b8337d65ec16c4c216255dd393ccb0f40eda3f2dd0"), looks := true }, kinds := [], alts := [], laidByText := true, laidKinds := [.data, .data, .data, .data, .sentinel, .sentinel, .pinned], laidTests := true, laidLooks := .later }
def FnExactSendReadUptoCardSaid : Prop := Claim7.holds Tryd.pinned (.plain (OpenSpec.upto fnExactSendReadSpec)) fnExactSendReadUptoCard
end Rows
end Go.Proofs.YtiidedhlnlaalaaDoor
