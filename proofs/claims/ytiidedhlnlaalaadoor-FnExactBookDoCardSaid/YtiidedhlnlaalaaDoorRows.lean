/-
  NARROWER THAN 'FOR EVERY INPUT', by the rows' own cells (each row's printed sentence says how): FnBookSnap: laid · FnBookKill: laid · FnBookOk: laid · FnTreeMay: laid · FnTrailBooks: laid · FnExactStatSaved: laid · FnTreeAll: laid · FnExactStatSince: laid · FnExactStatHold: laid · FnExactStatOwn: laid · FnExactBookDo: laid · FnExactSendRead: laid.
  DERIVED. THE GIVEN ROWS OF THIS SEAT. 12 by the template 'for every input the law returns true; each argument reads behind the call as it read before'; 0 by the template 'total and deterministic' (their statements: YtiidedhlnlaalaaDoorTotals.lean).
  GIVEN WITH THE SEED: the statements are not yours to turn. If you find one false, say at which input.
  Laid BY PROGRAM, IN A SANDBOX (cutbox-rows.mjs): the forced cells as the released guide's own fill.sh prints them over the translation 855cd0c22b4d881b… (all of the seat's roots in one cut). By AI agents, Wed Nov 11 2026. No macro, syntax, notation, axiom, sorry.
-/
import Derived.Test.YtiidedhlnlaalaaDoorChecked
import GoSem.PinnedTables
import GoSem.Claim
import GoSem.ClaimJoined
import GoSem.ClaimMapViews
import Derived.JoinedTies
import Derived.KernelRfl
namespace Go.Proofs.YtiidedhlnlaalaaDoor
/- THE CELL 'sum', in the pinned program and in every row, IS THE sha256 OF THE DUMP (.gsa) THAT YtiidedhlnlaalaaDoorProg.lean LOADS. Nothing in Lean hashes anything: it is a label: what it is worth is what the hold of that sum in a sandbox is worth. -/
noncomputable def Tryd.pinned : Pinned := { name := "ytiidedhlnlaalaadoor", sum := "855cd0c22b4d881b94d0a6f000f194979973a43ed11408898185e32613d8ba18", checked := Tryd.checked }
namespace Rows
def none {H : Type} : Left H := { results := [], args := [] }

/- WHAT THE LISTED PACKAGE-LEVEL VARIABLES READ AS WHEN THE CALL BEGINS. Each datum BY PROGRAM (the guide's laid-datum.mjs) off the statement by which the dump's own 'gosem.cut.vars' lays the variable. In a bare row this is a premise. The card (YtiidedhlnlaalaaDoorCards.lean) ties it to the program's text. -/
def laid_unicode_utf8_acceptRanges {H : Type} : DataW H := .agg [.agg [.lit (.int .u8 128), .lit (.int .u8 191)], .agg [.lit (.int .u8 160), .lit (.int .u8 191)], .agg [.lit (.int .u8 128), .lit (.int .u8 159)], .agg [.lit (.int .u8 144), .lit (.int .u8 191)], .agg [.lit (.int .u8 128), .lit (.int .u8 143)], .agg [.lit (.int .u8 0), .lit (.int .u8 0)], .agg [.lit (.int .u8 0), .lit (.int .u8 0)], .agg [.lit (.int .u8 0), .lit (.int .u8 0)], .agg [.lit (.int .u8 0), .lit (.int .u8 0)], .agg [.lit (.int .u8 0), .lit (.int .u8 0)], .agg [.lit (.int .u8 0), .lit (.int .u8 0)], .agg [.lit (.int .u8 0), .lit (.int .u8 0)], .agg [.lit (.int .u8 0), .lit (.int .u8 0)], .agg [.lit (.int .u8 0), .lit (.int .u8 0)], .agg [.lit (.int .u8 0), .lit (.int .u8 0)], .agg [.lit (.int .u8 0), .lit (.int .u8 0)]]
/-- One of Go's own tables, pinned by name: the form's constant. -/
def laid_unicode_utf8_first : DataW Unit := Go.Pinned.utf8First
def laid_math_bits_deBruijn32tab {H : Type} : DataW H := .agg [.lit (.int .u8 0), .lit (.int .u8 1), .lit (.int .u8 28), .lit (.int .u8 2), .lit (.int .u8 29), .lit (.int .u8 14), .lit (.int .u8 24), .lit (.int .u8 3), .lit (.int .u8 30), .lit (.int .u8 22), .lit (.int .u8 20), .lit (.int .u8 15), .lit (.int .u8 25), .lit (.int .u8 17), .lit (.int .u8 4), .lit (.int .u8 8), .lit (.int .u8 31), .lit (.int .u8 27), .lit (.int .u8 13), .lit (.int .u8 23), .lit (.int .u8 21), .lit (.int .u8 19), .lit (.int .u8 16), .lit (.int .u8 7), .lit (.int .u8 26), .lit (.int .u8 12), .lit (.int .u8 18), .lit (.int .u8 6), .lit (.int .u8 11), .lit (.int .u8 5), .lit (.int .u8 10), .lit (.int .u8 9)]
def laid_math_bits_deBruijn64tab {H : Type} : DataW H := .agg [.lit (.int .u8 0), .lit (.int .u8 1), .lit (.int .u8 56), .lit (.int .u8 2), .lit (.int .u8 57), .lit (.int .u8 49), .lit (.int .u8 28), .lit (.int .u8 3), .lit (.int .u8 61), .lit (.int .u8 58), .lit (.int .u8 42), .lit (.int .u8 50), .lit (.int .u8 38), .lit (.int .u8 29), .lit (.int .u8 17), .lit (.int .u8 4), .lit (.int .u8 62), .lit (.int .u8 47), .lit (.int .u8 59), .lit (.int .u8 36), .lit (.int .u8 45), .lit (.int .u8 43), .lit (.int .u8 51), .lit (.int .u8 22), .lit (.int .u8 53), .lit (.int .u8 39), .lit (.int .u8 33), .lit (.int .u8 30), .lit (.int .u8 24), .lit (.int .u8 18), .lit (.int .u8 12), .lit (.int .u8 5), .lit (.int .u8 63), .lit (.int .u8 55), .lit (.int .u8 48), .lit (.int .u8 27), .lit (.int .u8 60), .lit (.int .u8 41), .lit (.int .u8 37), .lit (.int .u8 16), .lit (.int .u8 46), .lit (.int .u8 35), .lit (.int .u8 44), .lit (.int .u8 21), .lit (.int .u8 52), .lit (.int .u8 32), .lit (.int .u8 23), .lit (.int .u8 11), .lit (.int .u8 54), .lit (.int .u8 26), .lit (.int .u8 40), .lit (.int .u8 15), .lit (.int .u8 34), .lit (.int .u8 20), .lit (.int .u8 31), .lit (.int .u8 10), .lit (.int .u8 25), .lit (.int .u8 14), .lit (.int .u8 19), .lit (.int .u8 9), .lit (.int .u8 13), .lit (.int .u8 8), .lit (.int .u8 7), .lit (.int .u8 6)]
def laid_internal_strconv_uint64pow10 {H : Type} : DataW H := .agg [.lit (.int .u64 1), .lit (.int .u64 10), .lit (.int .u64 100), .lit (.int .u64 1000), .lit (.int .u64 10000), .lit (.int .u64 100000), .lit (.int .u64 1000000), .lit (.int .u64 10000000), .lit (.int .u64 100000000), .lit (.int .u64 1000000000), .lit (.int .u64 10000000000), .lit (.int .u64 100000000000), .lit (.int .u64 1000000000000), .lit (.int .u64 10000000000000), .lit (.int .u64 100000000000000), .lit (.int .u64 1000000000000000), .lit (.int .u64 10000000000000000), .lit (.int .u64 100000000000000000), .lit (.int .u64 1000000000000000000), .lit (.int .u64 10000000000000000000)]
def laid_strconv_ErrRange {H : Type} : DataW H := .iface "*errors.errorString" (.ptr (.agg [.lit (.string [118, 97, 108, 117, 101, 32, 111, 117, 116, 32, 111, 102, 32, 114, 97, 110, 103, 101])]))
def laid_strconv_ErrSyntax {H : Type} : DataW H := .iface "*errors.errorString" (.ptr (.agg [.lit (.string [105, 110, 118, 97, 108, 105, 100, 32, 115, 121, 110, 116, 97, 120])]))

/-- 'laws.FnBookSnap': WHATEVER THE INPUT: true; the input reads as it did. -/
def fnBookSnapSpec : ChangeSpec := { name := "fnBookSnap", fn := fun _ => fun
  | [d] => { results := [.lit (.bool true)], args := [d] }
  | _ => none }
def fnBookSnapRow : OpenClaim := { program := "ytiidedhlnlaalaadoor", sum := "855cd0c22b4d881b94d0a6f000f194979973a43ed11408898185e32613d8ba18", func := "loop.example/palim/laws.FnBookSnap", spec := "fnBookSnap", inPlace := ["internal/bytealg.IndexByteString", "internal/bytealg.IndexString", "internal/bytealg.abigen_runtime_cmpstring", "slices.overlaps[loop.example/palim/impl.BookSet]"], unfollowed := true, recurses := true, named := ["unicode/utf8.first", "unicode/utf8.acceptRanges", "internal/bytealg.MaxLen"], apart := false, laid := [("unicode/utf8.acceptRanges", laid_unicode_utf8_acceptRanges), ("unicode/utf8.first", laid_unicode_utf8_first)] }
def FnBookSnapSaid : Prop := fnBookSnapRow.holds Tryd.pinned (OpenSpec.ofChange fnBookSnapSpec)

/-- ITS FALSE NEIGHBOUR: 'it returns false'. Refute it at one input. -/
def fnBookSnapWrong : ChangeSpec := { name := "fnBookSnap", fn := fun _ => fun
  | [d] => { results := [.lit (.bool false)], args := [d] }
  | _ => none }
def FnBookSnapWrongFalsely : Prop := fnBookSnapRow.holds Tryd.pinned (OpenSpec.ofChange fnBookSnapWrong)

/-- 'laws.FnBookKill': WHATEVER THE INPUT: true; the input reads as it did. -/
def fnBookKillSpec : ChangeSpec := { name := "fnBookKill", fn := fun _ => fun
  | [d] => { results := [.lit (.bool true)], args := [d] }
  | _ => none }
def fnBookKillRow : OpenClaim := { program := "ytiidedhlnlaalaadoor", sum := "855cd0c22b4d881b94d0a6f000f194979973a43ed11408898185e32613d8ba18", func := "loop.example/palim/laws.FnBookKill", spec := "fnBookKill", inPlace := ["internal/bytealg.IndexByteString", "internal/bytealg.IndexString", "internal/bytealg.abigen_runtime_cmpstring", "slices.overlaps[loop.example/palim/impl.BookSet]"], unfollowed := true, recurses := true, named := ["unicode/utf8.first", "unicode/utf8.acceptRanges", "internal/bytealg.MaxLen"], apart := false, laid := [("unicode/utf8.acceptRanges", laid_unicode_utf8_acceptRanges), ("unicode/utf8.first", laid_unicode_utf8_first)] }
def FnBookKillSaid : Prop := fnBookKillRow.holds Tryd.pinned (OpenSpec.ofChange fnBookKillSpec)

/-- ITS FALSE NEIGHBOUR: 'it returns false'. Refute it at one input. -/
def fnBookKillWrong : ChangeSpec := { name := "fnBookKill", fn := fun _ => fun
  | [d] => { results := [.lit (.bool false)], args := [d] }
  | _ => none }
def FnBookKillWrongFalsely : Prop := fnBookKillRow.holds Tryd.pinned (OpenSpec.ofChange fnBookKillWrong)

/-- 'laws.FnBookOk': WHATEVER THE INPUT: true; the input reads as it did. -/
def fnBookOkSpec : ChangeSpec := { name := "fnBookOk", fn := fun _ => fun
  | [d] => { results := [.lit (.bool true)], args := [d] }
  | _ => none }
def fnBookOkRow : OpenClaim := { program := "ytiidedhlnlaalaadoor", sum := "855cd0c22b4d881b94d0a6f000f194979973a43ed11408898185e32613d8ba18", func := "loop.example/palim/laws.FnBookOk", spec := "fnBookOk", inPlace := ["internal/bytealg.IndexByteString", "internal/bytealg.IndexString", "internal/bytealg.abigen_runtime_cmpstring", "slices.overlaps[loop.example/palim/impl.BookSet]"], unfollowed := true, recurses := true, named := ["unicode/utf8.first", "unicode/utf8.acceptRanges", "internal/bytealg.MaxLen"], apart := false, laid := [("unicode/utf8.acceptRanges", laid_unicode_utf8_acceptRanges), ("unicode/utf8.first", laid_unicode_utf8_first)] }
def FnBookOkSaid : Prop := fnBookOkRow.holds Tryd.pinned (OpenSpec.ofChange fnBookOkSpec)

/-- ITS FALSE NEIGHBOUR: 'it returns false'. Refute it at one input. -/
def fnBookOkWrong : ChangeSpec := { name := "fnBookOk", fn := fun _ => fun
  | [d] => { results := [.lit (.bool false)], args := [d] }
  | _ => none }
def FnBookOkWrongFalsely : Prop := fnBookOkRow.holds Tryd.pinned (OpenSpec.ofChange fnBookOkWrong)

/-- 'laws.FnTreeMay': WHATEVER THE INPUT: true; the input reads as it did. -/
def fnTreeMaySpec : ChangeSpec := { name := "fnTreeMay", fn := fun _ => fun
  | [d] => { results := [.lit (.bool true)], args := [d] }
  | _ => none }
def fnTreeMayRow : OpenClaim := { program := "ytiidedhlnlaalaadoor", sum := "855cd0c22b4d881b94d0a6f000f194979973a43ed11408898185e32613d8ba18", func := "loop.example/palim/laws.FnTreeMay", spec := "fnTreeMay", inPlace := ["internal/bytealg.IndexByteString", "internal/bytealg.IndexString", "internal/bytealg.abigen_runtime_cmpstring", "slices.overlaps[loop.example/palim/impl.BookSet]"], unfollowed := true, recurses := true, named := ["unicode/utf8.first", "unicode/utf8.acceptRanges", "internal/bytealg.MaxLen"], apart := false, laid := [("unicode/utf8.acceptRanges", laid_unicode_utf8_acceptRanges), ("unicode/utf8.first", laid_unicode_utf8_first)] }
def FnTreeMaySaid : Prop := fnTreeMayRow.holds Tryd.pinned (OpenSpec.ofChange fnTreeMaySpec)

/-- ITS FALSE NEIGHBOUR: 'it returns false'. Refute it at one input. -/
def fnTreeMayWrong : ChangeSpec := { name := "fnTreeMay", fn := fun _ => fun
  | [d] => { results := [.lit (.bool false)], args := [d] }
  | _ => none }
def FnTreeMayWrongFalsely : Prop := fnTreeMayRow.holds Tryd.pinned (OpenSpec.ofChange fnTreeMayWrong)

/-- 'laws.FnTrailBooks': WHATEVER THE INPUT: true; the input reads as it did. -/
def fnTrailBooksSpec : ChangeSpec := { name := "fnTrailBooks", fn := fun _ => fun
  | [d] => { results := [.lit (.bool true)], args := [d] }
  | _ => none }
def fnTrailBooksRow : OpenClaim := { program := "ytiidedhlnlaalaadoor", sum := "855cd0c22b4d881b94d0a6f000f194979973a43ed11408898185e32613d8ba18", func := "loop.example/palim/laws.FnTrailBooks", spec := "fnTrailBooks", inPlace := ["internal/bytealg.IndexByteString", "internal/bytealg.IndexString", "internal/bytealg.abigen_runtime_cmpstring", "slices.overlaps[loop.example/palim/impl.BookSet]"], unfollowed := true, recurses := true, named := ["unicode/utf8.first", "unicode/utf8.acceptRanges", "internal/bytealg.MaxLen"], apart := false, laid := [("unicode/utf8.acceptRanges", laid_unicode_utf8_acceptRanges), ("unicode/utf8.first", laid_unicode_utf8_first)] }
def FnTrailBooksSaid : Prop := fnTrailBooksRow.holds Tryd.pinned (OpenSpec.ofChange fnTrailBooksSpec)

/-- ITS FALSE NEIGHBOUR: 'it returns false'. Refute it at one input. -/
def fnTrailBooksWrong : ChangeSpec := { name := "fnTrailBooks", fn := fun _ => fun
  | [d] => { results := [.lit (.bool false)], args := [d] }
  | _ => none }
def FnTrailBooksWrongFalsely : Prop := fnTrailBooksRow.holds Tryd.pinned (OpenSpec.ofChange fnTrailBooksWrong)

/-- 'laws.FnExactStatSaved': WHATEVER THE INPUT: true; the input reads as it did. -/
def fnExactStatSavedSpec : ChangeSpec := { name := "fnExactStatSaved", fn := fun _ => fun
  | [d] => { results := [.lit (.bool true)], args := [d] }
  | _ => none }
def fnExactStatSavedRow : OpenClaim := { program := "ytiidedhlnlaalaadoor", sum := "855cd0c22b4d881b94d0a6f000f194979973a43ed11408898185e32613d8ba18", func := "loop.example/palim/laws.FnExactStatSaved", spec := "fnExactStatSaved", inPlace := ["internal/bytealg.IndexByteString", "internal/bytealg.IndexString"], unfollowed := true, recurses := true, named := ["unicode/utf8.first", "unicode/utf8.acceptRanges", "internal/bytealg.MaxLen"], apart := false, laid := [("unicode/utf8.acceptRanges", laid_unicode_utf8_acceptRanges), ("unicode/utf8.first", laid_unicode_utf8_first)] }
def FnExactStatSavedSaid : Prop := fnExactStatSavedRow.holds Tryd.pinned (OpenSpec.ofChange fnExactStatSavedSpec)

/-- ITS FALSE NEIGHBOUR: 'it returns false'. Refute it at one input. -/
def fnExactStatSavedWrong : ChangeSpec := { name := "fnExactStatSaved", fn := fun _ => fun
  | [d] => { results := [.lit (.bool false)], args := [d] }
  | _ => none }
def FnExactStatSavedWrongFalsely : Prop := fnExactStatSavedRow.holds Tryd.pinned (OpenSpec.ofChange fnExactStatSavedWrong)

/-- 'laws.FnTreeAll': WHATEVER THE INPUT: true; the input reads as it did. -/
def fnTreeAllSpec : ChangeSpec := { name := "fnTreeAll", fn := fun _ => fun
  | [d] => { results := [.lit (.bool true)], args := [d] }
  | _ => none }
def fnTreeAllRow : OpenClaim := { program := "ytiidedhlnlaalaadoor", sum := "855cd0c22b4d881b94d0a6f000f194979973a43ed11408898185e32613d8ba18", func := "loop.example/palim/laws.FnTreeAll", spec := "fnTreeAll", inPlace := ["internal/bytealg.IndexByteString", "internal/bytealg.IndexString", "internal/bytealg.abigen_runtime_cmpstring", "slices.overlaps[loop.example/palim/impl.BookSet]"], unfollowed := true, recurses := true, named := ["unicode/utf8.first", "unicode/utf8.acceptRanges", "internal/bytealg.MaxLen"], apart := false, laid := [("unicode/utf8.acceptRanges", laid_unicode_utf8_acceptRanges), ("unicode/utf8.first", laid_unicode_utf8_first)] }
def FnTreeAllSaid : Prop := fnTreeAllRow.holds Tryd.pinned (OpenSpec.ofChange fnTreeAllSpec)

/-- ITS FALSE NEIGHBOUR: 'it returns false'. Refute it at one input. -/
def fnTreeAllWrong : ChangeSpec := { name := "fnTreeAll", fn := fun _ => fun
  | [d] => { results := [.lit (.bool false)], args := [d] }
  | _ => none }
def FnTreeAllWrongFalsely : Prop := fnTreeAllRow.holds Tryd.pinned (OpenSpec.ofChange fnTreeAllWrong)

/-- 'laws.FnExactStatSince': WHATEVER THE INPUT: true; the input reads as it did. -/
def fnExactStatSinceSpec : ChangeSpec := { name := "fnExactStatSince", fn := fun _ => fun
  | [d1, d2, d3] => { results := [.lit (.bool true)], args := [d1, d2, d3] }
  | _ => none }
def fnExactStatSinceRow : OpenClaim := { program := "ytiidedhlnlaalaadoor", sum := "855cd0c22b4d881b94d0a6f000f194979973a43ed11408898185e32613d8ba18", func := "loop.example/palim/laws.FnExactStatSince", spec := "fnExactStatSince", inPlace := ["internal/bytealg.IndexByteString", "internal/bytealg.IndexString"], unfollowed := true, recurses := true, named := ["unicode/utf8.first", "unicode/utf8.acceptRanges", "internal/bytealg.MaxLen"], apart := false, laid := [("unicode/utf8.acceptRanges", laid_unicode_utf8_acceptRanges), ("unicode/utf8.first", laid_unicode_utf8_first)] }
def FnExactStatSinceSaid : Prop := fnExactStatSinceRow.holds Tryd.pinned (OpenSpec.ofChange fnExactStatSinceSpec)

/-- ITS FALSE NEIGHBOUR: 'it returns false'. Refute it at one input. -/
def fnExactStatSinceWrong : ChangeSpec := { name := "fnExactStatSince", fn := fun _ => fun
  | [d1, d2, d3] => { results := [.lit (.bool false)], args := [d1, d2, d3] }
  | _ => none }
def FnExactStatSinceWrongFalsely : Prop := fnExactStatSinceRow.holds Tryd.pinned (OpenSpec.ofChange fnExactStatSinceWrong)

/-- 'laws.FnExactStatHold': WHATEVER THE INPUT: true; the input reads as it did. -/
def fnExactStatHoldSpec : ChangeSpec := { name := "fnExactStatHold", fn := fun _ => fun
  | [d1, d2] => { results := [.lit (.bool true)], args := [d1, d2] }
  | _ => none }
def fnExactStatHoldRow : OpenClaim := { program := "ytiidedhlnlaalaadoor", sum := "855cd0c22b4d881b94d0a6f000f194979973a43ed11408898185e32613d8ba18", func := "loop.example/palim/laws.FnExactStatHold", spec := "fnExactStatHold", inPlace := ["internal/bytealg.IndexByteString", "internal/bytealg.IndexString"], unfollowed := true, recurses := true, named := ["unicode/utf8.first", "unicode/utf8.acceptRanges", "internal/bytealg.MaxLen"], apart := false, laid := [("unicode/utf8.acceptRanges", laid_unicode_utf8_acceptRanges), ("unicode/utf8.first", laid_unicode_utf8_first)] }
def FnExactStatHoldSaid : Prop := fnExactStatHoldRow.holds Tryd.pinned (OpenSpec.ofChange fnExactStatHoldSpec)

/-- ITS FALSE NEIGHBOUR: 'it returns false'. Refute it at one input. -/
def fnExactStatHoldWrong : ChangeSpec := { name := "fnExactStatHold", fn := fun _ => fun
  | [d1, d2] => { results := [.lit (.bool false)], args := [d1, d2] }
  | _ => none }
def FnExactStatHoldWrongFalsely : Prop := fnExactStatHoldRow.holds Tryd.pinned (OpenSpec.ofChange fnExactStatHoldWrong)

/-- 'laws.FnExactStatOwn': WHATEVER THE INPUT: true; the input reads as it did. -/
def fnExactStatOwnSpec : ChangeSpec := { name := "fnExactStatOwn", fn := fun _ => fun
  | [d1, d2] => { results := [.lit (.bool true)], args := [d1, d2] }
  | _ => none }
def fnExactStatOwnRow : OpenClaim := { program := "ytiidedhlnlaalaadoor", sum := "855cd0c22b4d881b94d0a6f000f194979973a43ed11408898185e32613d8ba18", func := "loop.example/palim/laws.FnExactStatOwn", spec := "fnExactStatOwn", inPlace := ["internal/bytealg.IndexByteString", "internal/bytealg.IndexString"], unfollowed := true, recurses := true, named := ["unicode/utf8.first", "unicode/utf8.acceptRanges", "internal/bytealg.MaxLen"], apart := false, laid := [("unicode/utf8.acceptRanges", laid_unicode_utf8_acceptRanges), ("unicode/utf8.first", laid_unicode_utf8_first)] }
def FnExactStatOwnSaid : Prop := fnExactStatOwnRow.holds Tryd.pinned (OpenSpec.ofChange fnExactStatOwnSpec)

/-- ITS FALSE NEIGHBOUR: 'it returns false'. Refute it at one input. -/
def fnExactStatOwnWrong : ChangeSpec := { name := "fnExactStatOwn", fn := fun _ => fun
  | [d1, d2] => { results := [.lit (.bool false)], args := [d1, d2] }
  | _ => none }
def FnExactStatOwnWrongFalsely : Prop := fnExactStatOwnRow.holds Tryd.pinned (OpenSpec.ofChange fnExactStatOwnWrong)

/-- 'laws.FnExactBookDo': WHATEVER THE INPUT: true; the input reads as it did. -/
def fnExactBookDoSpec : ChangeSpec := { name := "fnExactBookDo", fn := fun _ => fun
  | [d1, d2] => { results := [.lit (.bool true)], args := [d1, d2] }
  | _ => none }
def fnExactBookDoRow : OpenClaim := { program := "ytiidedhlnlaalaadoor", sum := "855cd0c22b4d881b94d0a6f000f194979973a43ed11408898185e32613d8ba18", func := "loop.example/palim/laws.FnExactBookDo", spec := "fnExactBookDo", inPlace := ["internal/bytealg.IndexByteString", "internal/bytealg.IndexString", "internal/bytealg.abigen_runtime_cmpstring", "slices.overlaps[loop.example/palim/impl.BookSet]"], unfollowed := true, recurses := true, named := ["unicode/utf8.first", "unicode/utf8.acceptRanges", "internal/bytealg.MaxLen"], apart := false, laid := [("unicode/utf8.acceptRanges", laid_unicode_utf8_acceptRanges), ("unicode/utf8.first", laid_unicode_utf8_first)] }
def FnExactBookDoSaid : Prop := fnExactBookDoRow.holds Tryd.pinned (OpenSpec.ofChange fnExactBookDoSpec)

/-- ITS FALSE NEIGHBOUR: 'it returns false'. Refute it at one input. -/
def fnExactBookDoWrong : ChangeSpec := { name := "fnExactBookDo", fn := fun _ => fun
  | [d1, d2] => { results := [.lit (.bool false)], args := [d1, d2] }
  | _ => none }
def FnExactBookDoWrongFalsely : Prop := fnExactBookDoRow.holds Tryd.pinned (OpenSpec.ofChange fnExactBookDoWrong)

/-- 'laws.FnExactSendRead': WHATEVER THE INPUT: true; the input reads as it did. -/
def fnExactSendReadSpec : ChangeSpec := { name := "fnExactSendRead", fn := fun _ => fun
  | [d1, d2] => { results := [.lit (.bool true)], args := [d1, d2] }
  | _ => none }
def fnExactSendReadRow : OpenClaim := { program := "ytiidedhlnlaalaadoor", sum := "855cd0c22b4d881b94d0a6f000f194979973a43ed11408898185e32613d8ba18", func := "loop.example/palim/laws.FnExactSendRead", spec := "fnExactSendRead", inPlace := ["internal/bytealg.IndexByteString", "internal/bytealg.IndexString", "internal/bytealg.CountString"], recurses := true, named := ["internal/bytealg.MaxLen", "internal/strconv.uint64pow10", "math/bits.deBruijn32tab", "math/bits.deBruijn64tab", "unicode/utf8.first", "unicode/utf8.acceptRanges", "strconv.ErrSyntax", "strconv.ErrRange"], apart := false, laid := [("math/bits.deBruijn32tab", laid_math_bits_deBruijn32tab), ("math/bits.deBruijn64tab", laid_math_bits_deBruijn64tab), ("internal/strconv.uint64pow10", laid_internal_strconv_uint64pow10), ("unicode/utf8.acceptRanges", laid_unicode_utf8_acceptRanges), ("strconv.ErrRange", laid_strconv_ErrRange), ("strconv.ErrSyntax", laid_strconv_ErrSyntax), ("unicode/utf8.first", laid_unicode_utf8_first)] }
def FnExactSendReadSaid : Prop := fnExactSendReadRow.holds Tryd.pinned (OpenSpec.ofChange fnExactSendReadSpec)

/-- ITS FALSE NEIGHBOUR: 'it returns false'. Refute it at one input. -/
def fnExactSendReadWrong : ChangeSpec := { name := "fnExactSendRead", fn := fun _ => fun
  | [d1, d2] => { results := [.lit (.bool false)], args := [d1, d2] }
  | _ => none }
def FnExactSendReadWrongFalsely : Prop := fnExactSendReadRow.holds Tryd.pinned (OpenSpec.ofChange fnExactSendReadWrong)

/- THE SECOND FORM. 'bulk': how many values and letters a reading holds, each counted each time it is reached (what is shared counts as often as it is met; a slice's spare places count too). A statement '..UptoSaid' is the law's where the arguments, and the package variables that the reading takes, are together of bulk at most 1048576: NARROWER than '..Said'. Prove '..Said' where nothing that the law and all that it calls make is longer than what came in: it says more and counts as full. Else prove '..UptoSaid'. A law counts once. -/
mutual
def uptoBulk {H : Type} : DataW H → Nat
  | .lit (.string bytes) => bytes.length + 1
  | .lit _ => 1
  | .nil => 1
  | .ptr d => uptoBulk d + 1
  | .slice elems spare => uptoBulkAll elems + uptoBulkAll spare + 1
  | .agg parts => uptoBulkAll parts + 1
  | .iface _ d => uptoBulk d + 1
  | .map entries => uptoBulkEntries entries + 1
  | .held _ => 1
def uptoBulkAll {H : Type} : List (DataW H) → Nat
  | [] => 0
  | d :: r => uptoBulk d + uptoBulkAll r
def uptoBulkEntries {H : Type} : List (Lit × DataW H) → Nat
  | [] => 0
  | x :: r => uptoBulkEntry x + uptoBulkEntries r
def uptoBulkEntry {H : Type} : Lit × DataW H → Nat
  | (.string bytes, d) => bytes.length + uptoBulk d + 1
  | (_, d) => uptoBulk d + 1
 end
def uptoSmall : (H : Type) → List (DataW H) → Bool := fun _ ds => decide (uptoBulkAll ds ≤ 1048576)
def OpenSpec.upto (s : _root_.Go.ChangeSpec) : _root_.Go.OpenSpec := { _root_.Go.OpenSpec.ofChange s with cond := some uptoSmall }

/-- 'laws.FnBookSnap', WHERE WHAT IT READS IS OF BULK AT MOST 1048576: true; the input reads as it did. -/
def fnBookSnapUptoRow : OpenClaim := { program := "ytiidedhlnlaalaadoor", sum := "855cd0c22b4d881b94d0a6f000f194979973a43ed11408898185e32613d8ba18", func := "loop.example/palim/laws.FnBookSnap", spec := "fnBookSnap", inPlace := ["internal/bytealg.IndexByteString", "internal/bytealg.IndexString", "internal/bytealg.abigen_runtime_cmpstring", "slices.overlaps[loop.example/palim/impl.BookSet]"], unfollowed := true, recurses := true, named := ["unicode/utf8.first", "unicode/utf8.acceptRanges", "internal/bytealg.MaxLen"], apart := false, laid := [("unicode/utf8.acceptRanges", laid_unicode_utf8_acceptRanges), ("unicode/utf8.first", laid_unicode_utf8_first)], narrowed := true }
def FnBookSnapUptoSaid : Prop := fnBookSnapUptoRow.holds Tryd.pinned (OpenSpec.upto fnBookSnapSpec)

/-- 'laws.FnBookKill', WHERE WHAT IT READS IS OF BULK AT MOST 1048576: true; the input reads as it did. -/
def fnBookKillUptoRow : OpenClaim := { program := "ytiidedhlnlaalaadoor", sum := "855cd0c22b4d881b94d0a6f000f194979973a43ed11408898185e32613d8ba18", func := "loop.example/palim/laws.FnBookKill", spec := "fnBookKill", inPlace := ["internal/bytealg.IndexByteString", "internal/bytealg.IndexString", "internal/bytealg.abigen_runtime_cmpstring", "slices.overlaps[loop.example/palim/impl.BookSet]"], unfollowed := true, recurses := true, named := ["unicode/utf8.first", "unicode/utf8.acceptRanges", "internal/bytealg.MaxLen"], apart := false, laid := [("unicode/utf8.acceptRanges", laid_unicode_utf8_acceptRanges), ("unicode/utf8.first", laid_unicode_utf8_first)], narrowed := true }
def FnBookKillUptoSaid : Prop := fnBookKillUptoRow.holds Tryd.pinned (OpenSpec.upto fnBookKillSpec)

/-- 'laws.FnBookOk', WHERE WHAT IT READS IS OF BULK AT MOST 1048576: true; the input reads as it did. -/
def fnBookOkUptoRow : OpenClaim := { program := "ytiidedhlnlaalaadoor", sum := "855cd0c22b4d881b94d0a6f000f194979973a43ed11408898185e32613d8ba18", func := "loop.example/palim/laws.FnBookOk", spec := "fnBookOk", inPlace := ["internal/bytealg.IndexByteString", "internal/bytealg.IndexString", "internal/bytealg.abigen_runtime_cmpstring", "slices.overlaps[loop.example/palim/impl.BookSet]"], unfollowed := true, recurses := true, named := ["unicode/utf8.first", "unicode/utf8.acceptRanges", "internal/bytealg.MaxLen"], apart := false, laid := [("unicode/utf8.acceptRanges", laid_unicode_utf8_acceptRanges), ("unicode/utf8.first", laid_unicode_utf8_first)], narrowed := true }
def FnBookOkUptoSaid : Prop := fnBookOkUptoRow.holds Tryd.pinned (OpenSpec.upto fnBookOkSpec)

/-- 'laws.FnTreeMay', WHERE WHAT IT READS IS OF BULK AT MOST 1048576: true; the input reads as it did. -/
def fnTreeMayUptoRow : OpenClaim := { program := "ytiidedhlnlaalaadoor", sum := "855cd0c22b4d881b94d0a6f000f194979973a43ed11408898185e32613d8ba18", func := "loop.example/palim/laws.FnTreeMay", spec := "fnTreeMay", inPlace := ["internal/bytealg.IndexByteString", "internal/bytealg.IndexString", "internal/bytealg.abigen_runtime_cmpstring", "slices.overlaps[loop.example/palim/impl.BookSet]"], unfollowed := true, recurses := true, named := ["unicode/utf8.first", "unicode/utf8.acceptRanges", "internal/bytealg.MaxLen"], apart := false, laid := [("unicode/utf8.acceptRanges", laid_unicode_utf8_acceptRanges), ("unicode/utf8.first", laid_unicode_utf8_first)], narrowed := true }
def FnTreeMayUptoSaid : Prop := fnTreeMayUptoRow.holds Tryd.pinned (OpenSpec.upto fnTreeMaySpec)

/-- 'laws.FnTrailBooks', WHERE WHAT IT READS IS OF BULK AT MOST 1048576: true; the input reads as it did. -/
def fnTrailBooksUptoRow : OpenClaim := { program := "ytiidedhlnlaalaadoor", sum := "855cd0c22b4d881b94d0a6f000f194979973a43ed11408898185e32613d8ba18", func := "loop.example/palim/laws.FnTrailBooks", spec := "fnTrailBooks", inPlace := ["internal/bytealg.IndexByteString", "internal/bytealg.IndexString", "internal/bytealg.abigen_runtime_cmpstring", "slices.overlaps[loop.example/palim/impl.BookSet]"], unfollowed := true, recurses := true, named := ["unicode/utf8.first", "unicode/utf8.acceptRanges", "internal/bytealg.MaxLen"], apart := false, laid := [("unicode/utf8.acceptRanges", laid_unicode_utf8_acceptRanges), ("unicode/utf8.first", laid_unicode_utf8_first)], narrowed := true }
def FnTrailBooksUptoSaid : Prop := fnTrailBooksUptoRow.holds Tryd.pinned (OpenSpec.upto fnTrailBooksSpec)

/-- 'laws.FnExactStatSaved', WHERE WHAT IT READS IS OF BULK AT MOST 1048576: true; the input reads as it did. -/
def fnExactStatSavedUptoRow : OpenClaim := { program := "ytiidedhlnlaalaadoor", sum := "855cd0c22b4d881b94d0a6f000f194979973a43ed11408898185e32613d8ba18", func := "loop.example/palim/laws.FnExactStatSaved", spec := "fnExactStatSaved", inPlace := ["internal/bytealg.IndexByteString", "internal/bytealg.IndexString"], unfollowed := true, recurses := true, named := ["unicode/utf8.first", "unicode/utf8.acceptRanges", "internal/bytealg.MaxLen"], apart := false, laid := [("unicode/utf8.acceptRanges", laid_unicode_utf8_acceptRanges), ("unicode/utf8.first", laid_unicode_utf8_first)], narrowed := true }
def FnExactStatSavedUptoSaid : Prop := fnExactStatSavedUptoRow.holds Tryd.pinned (OpenSpec.upto fnExactStatSavedSpec)

/-- 'laws.FnTreeAll', WHERE WHAT IT READS IS OF BULK AT MOST 1048576: true; the input reads as it did. -/
def fnTreeAllUptoRow : OpenClaim := { program := "ytiidedhlnlaalaadoor", sum := "855cd0c22b4d881b94d0a6f000f194979973a43ed11408898185e32613d8ba18", func := "loop.example/palim/laws.FnTreeAll", spec := "fnTreeAll", inPlace := ["internal/bytealg.IndexByteString", "internal/bytealg.IndexString", "internal/bytealg.abigen_runtime_cmpstring", "slices.overlaps[loop.example/palim/impl.BookSet]"], unfollowed := true, recurses := true, named := ["unicode/utf8.first", "unicode/utf8.acceptRanges", "internal/bytealg.MaxLen"], apart := false, laid := [("unicode/utf8.acceptRanges", laid_unicode_utf8_acceptRanges), ("unicode/utf8.first", laid_unicode_utf8_first)], narrowed := true }
def FnTreeAllUptoSaid : Prop := fnTreeAllUptoRow.holds Tryd.pinned (OpenSpec.upto fnTreeAllSpec)

/-- 'laws.FnExactStatSince', WHERE WHAT IT READS IS OF BULK AT MOST 1048576: true; the input reads as it did. -/
def fnExactStatSinceUptoRow : OpenClaim := { program := "ytiidedhlnlaalaadoor", sum := "855cd0c22b4d881b94d0a6f000f194979973a43ed11408898185e32613d8ba18", func := "loop.example/palim/laws.FnExactStatSince", spec := "fnExactStatSince", inPlace := ["internal/bytealg.IndexByteString", "internal/bytealg.IndexString"], unfollowed := true, recurses := true, named := ["unicode/utf8.first", "unicode/utf8.acceptRanges", "internal/bytealg.MaxLen"], apart := false, laid := [("unicode/utf8.acceptRanges", laid_unicode_utf8_acceptRanges), ("unicode/utf8.first", laid_unicode_utf8_first)], narrowed := true }
def FnExactStatSinceUptoSaid : Prop := fnExactStatSinceUptoRow.holds Tryd.pinned (OpenSpec.upto fnExactStatSinceSpec)

/-- 'laws.FnExactStatHold', WHERE WHAT IT READS IS OF BULK AT MOST 1048576: true; the input reads as it did. -/
def fnExactStatHoldUptoRow : OpenClaim := { program := "ytiidedhlnlaalaadoor", sum := "855cd0c22b4d881b94d0a6f000f194979973a43ed11408898185e32613d8ba18", func := "loop.example/palim/laws.FnExactStatHold", spec := "fnExactStatHold", inPlace := ["internal/bytealg.IndexByteString", "internal/bytealg.IndexString"], unfollowed := true, recurses := true, named := ["unicode/utf8.first", "unicode/utf8.acceptRanges", "internal/bytealg.MaxLen"], apart := false, laid := [("unicode/utf8.acceptRanges", laid_unicode_utf8_acceptRanges), ("unicode/utf8.first", laid_unicode_utf8_first)], narrowed := true }
def FnExactStatHoldUptoSaid : Prop := fnExactStatHoldUptoRow.holds Tryd.pinned (OpenSpec.upto fnExactStatHoldSpec)

/-- 'laws.FnExactStatOwn', WHERE WHAT IT READS IS OF BULK AT MOST 1048576: true; the input reads as it did. -/
def fnExactStatOwnUptoRow : OpenClaim := { program := "ytiidedhlnlaalaadoor", sum := "855cd0c22b4d881b94d0a6f000f194979973a43ed11408898185e32613d8ba18", func := "loop.example/palim/laws.FnExactStatOwn", spec := "fnExactStatOwn", inPlace := ["internal/bytealg.IndexByteString", "internal/bytealg.IndexString"], unfollowed := true, recurses := true, named := ["unicode/utf8.first", "unicode/utf8.acceptRanges", "internal/bytealg.MaxLen"], apart := false, laid := [("unicode/utf8.acceptRanges", laid_unicode_utf8_acceptRanges), ("unicode/utf8.first", laid_unicode_utf8_first)], narrowed := true }
def FnExactStatOwnUptoSaid : Prop := fnExactStatOwnUptoRow.holds Tryd.pinned (OpenSpec.upto fnExactStatOwnSpec)

/-- 'laws.FnExactBookDo', WHERE WHAT IT READS IS OF BULK AT MOST 1048576: true; the input reads as it did. -/
def fnExactBookDoUptoRow : OpenClaim := { program := "ytiidedhlnlaalaadoor", sum := "855cd0c22b4d881b94d0a6f000f194979973a43ed11408898185e32613d8ba18", func := "loop.example/palim/laws.FnExactBookDo", spec := "fnExactBookDo", inPlace := ["internal/bytealg.IndexByteString", "internal/bytealg.IndexString", "internal/bytealg.abigen_runtime_cmpstring", "slices.overlaps[loop.example/palim/impl.BookSet]"], unfollowed := true, recurses := true, named := ["unicode/utf8.first", "unicode/utf8.acceptRanges", "internal/bytealg.MaxLen"], apart := false, laid := [("unicode/utf8.acceptRanges", laid_unicode_utf8_acceptRanges), ("unicode/utf8.first", laid_unicode_utf8_first)], narrowed := true }
def FnExactBookDoUptoSaid : Prop := fnExactBookDoUptoRow.holds Tryd.pinned (OpenSpec.upto fnExactBookDoSpec)

/-- 'laws.FnExactSendRead', WHERE WHAT IT READS IS OF BULK AT MOST 1048576: true; the input reads as it did. -/
def fnExactSendReadUptoRow : OpenClaim := { program := "ytiidedhlnlaalaadoor", sum := "855cd0c22b4d881b94d0a6f000f194979973a43ed11408898185e32613d8ba18", func := "loop.example/palim/laws.FnExactSendRead", spec := "fnExactSendRead", inPlace := ["internal/bytealg.IndexByteString", "internal/bytealg.IndexString", "internal/bytealg.CountString"], recurses := true, named := ["internal/bytealg.MaxLen", "internal/strconv.uint64pow10", "math/bits.deBruijn32tab", "math/bits.deBruijn64tab", "unicode/utf8.first", "unicode/utf8.acceptRanges", "strconv.ErrSyntax", "strconv.ErrRange"], apart := false, laid := [("math/bits.deBruijn32tab", laid_math_bits_deBruijn32tab), ("math/bits.deBruijn64tab", laid_math_bits_deBruijn64tab), ("internal/strconv.uint64pow10", laid_internal_strconv_uint64pow10), ("unicode/utf8.acceptRanges", laid_unicode_utf8_acceptRanges), ("strconv.ErrRange", laid_strconv_ErrRange), ("strconv.ErrSyntax", laid_strconv_ErrSyntax), ("unicode/utf8.first", laid_unicode_utf8_first)], narrowed := true }
def FnExactSendReadUptoSaid : Prop := fnExactSendReadUptoRow.holds Tryd.pinned (OpenSpec.upto fnExactSendReadSpec)

end Rows
end Go.Proofs.YtiidedhlnlaalaaDoor
