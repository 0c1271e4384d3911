/-
  NARROWER THAN 'FOR EVERY INPUT', by the rows' own cells (each row's printed sentence says how): StonePuts: laid · StoneTakes: laid · StoneFlips: laid · EntrySames: laid · EntryPuts: laid · LocalPuts: laid · LocalTakes: laid · LocalBack: laid · LocalFlips: laid · StoneBack: laid · FootPuts: laid · FootBack: laid · FootFlips: laid · IndexPlays: laid · IndexKeeps: laid · IndexEach: laid · IndexNone: laid · ModelMaps: laid · ModelGets: laid · ModelFinds: laid · ModelSteps: laid · ModelNone: laid.
  DERIVED. THE GIVEN ROWS OF THIS SEAT. 22 by the template 'for every input the law returns true; each argument reads behind the call as it read before'; 0 by the template 'total and deterministic' (their statements: YtbpknjldphckgaaDoorTotals.lean).
  GIVEN WITH THE SEED: the statements are not yours to turn. If you find one false, say at which input.
  Laid BY PROGRAM, IN A SANDBOX (cutbox-rows.mjs): the forced cells as the released guide's own fill.sh prints them over the translation 39137af4a19d6e93… (all of the seat's roots in one cut). By AI agents, Wed Nov 11 2026. No macro, syntax, notation, axiom, sorry.
-/
import Derived.Test.YtbpknjldphckgaaDoorChecked
import GoSem.PinnedTables
import GoSem.Claim
import GoSem.ClaimJoined
import GoSem.ClaimMapViews
import Derived.JoinedTies
import Derived.KernelRfl
namespace Go.Proofs.YtbpknjldphckgaaDoor
/- THE CELL 'sum', in the pinned program and in every row, IS THE sha256 OF THE DUMP (.gsa) THAT YtbpknjldphckgaaDoorProg.lean LOADS. Nothing in Lean hashes anything: it is a label: what it is worth is what the hold of that sum in a sandbox is worth. -/
noncomputable def Tryd.pinned : Pinned := { name := "ytbpknjldphckgaadoor", sum := "39137af4a19d6e9313099029f2b38beb6ec0e6b4acd34199f665d5d0e04696bf", checked := Tryd.checked }
namespace Rows
def none {H : Type} : Left H := { results := [], args := [] }

/- WHAT THE LISTED PACKAGE-LEVEL VARIABLES READ AS WHEN THE CALL BEGINS. Each datum BY PROGRAM (the guide's laid-datum.mjs) off the statement by which the dump's own 'gosem.cut.vars' lays the variable. In a bare row this is a premise. The card (YtbpknjldphckgaaDoorCards.lean) ties it to the program's text. -/
def laid_unicode_utf8_acceptRanges {H : Type} : DataW H := .agg [.agg [.lit (.int .u8 128), .lit (.int .u8 191)], .agg [.lit (.int .u8 160), .lit (.int .u8 191)], .agg [.lit (.int .u8 128), .lit (.int .u8 159)], .agg [.lit (.int .u8 144), .lit (.int .u8 191)], .agg [.lit (.int .u8 128), .lit (.int .u8 143)], .agg [.lit (.int .u8 0), .lit (.int .u8 0)], .agg [.lit (.int .u8 0), .lit (.int .u8 0)], .agg [.lit (.int .u8 0), .lit (.int .u8 0)], .agg [.lit (.int .u8 0), .lit (.int .u8 0)], .agg [.lit (.int .u8 0), .lit (.int .u8 0)], .agg [.lit (.int .u8 0), .lit (.int .u8 0)], .agg [.lit (.int .u8 0), .lit (.int .u8 0)], .agg [.lit (.int .u8 0), .lit (.int .u8 0)], .agg [.lit (.int .u8 0), .lit (.int .u8 0)], .agg [.lit (.int .u8 0), .lit (.int .u8 0)], .agg [.lit (.int .u8 0), .lit (.int .u8 0)]]
/-- One of Go's own tables, pinned by name: the form's constant. -/
def laid_unicode_utf8_first : DataW Unit := Go.Pinned.utf8First

/-- 'bindlelaw17.StonePuts': WHATEVER THE INPUT: true; the input reads as it did. -/
def stonePutsSpec : ChangeSpec := { name := "stonePuts", fn := fun _ => fun
  | [d] => { results := [.lit (.bool true)], args := [d] }
  | _ => none }
def stonePutsRow : OpenClaim := { program := "ytbpknjldphckgaadoor", sum := "39137af4a19d6e9313099029f2b38beb6ec0e6b4acd34199f665d5d0e04696bf", func := "bindle/bindlelaw17.StonePuts", spec := "stonePuts", inPlace := ["internal/bytealg.CountString", "internal/bytealg.IndexByteString", "internal/bytealg.IndexString"], unfollowed := true, recurses := true, named := ["unicode/utf8.first", "unicode/utf8.acceptRanges", "internal/bytealg.MaxLen"], apart := false, laid := [("unicode/utf8.acceptRanges", laid_unicode_utf8_acceptRanges), ("unicode/utf8.first", laid_unicode_utf8_first)] }
def StonePutsSaid : Prop := stonePutsRow.holds Tryd.pinned (OpenSpec.ofChange stonePutsSpec)

/-- ITS FALSE NEIGHBOUR: 'it returns false'. Refute it at one input. -/
def stonePutsWrong : ChangeSpec := { name := "stonePuts", fn := fun _ => fun
  | [d] => { results := [.lit (.bool false)], args := [d] }
  | _ => none }
def StonePutsWrongFalsely : Prop := stonePutsRow.holds Tryd.pinned (OpenSpec.ofChange stonePutsWrong)

/-- 'bindlelaw17.StoneTakes': WHATEVER THE INPUT: true; the input reads as it did. -/
def stoneTakesSpec : ChangeSpec := { name := "stoneTakes", fn := fun _ => fun
  | [d1, d2] => { results := [.lit (.bool true)], args := [d1, d2] }
  | _ => none }
def stoneTakesRow : OpenClaim := { program := "ytbpknjldphckgaadoor", sum := "39137af4a19d6e9313099029f2b38beb6ec0e6b4acd34199f665d5d0e04696bf", func := "bindle/bindlelaw17.StoneTakes", spec := "stoneTakes", inPlace := ["internal/bytealg.CountString", "internal/bytealg.IndexByteString", "internal/bytealg.IndexString"], unfollowed := true, recurses := true, named := ["unicode/utf8.first", "unicode/utf8.acceptRanges", "internal/bytealg.MaxLen"], apart := false, laid := [("unicode/utf8.acceptRanges", laid_unicode_utf8_acceptRanges), ("unicode/utf8.first", laid_unicode_utf8_first)] }
def StoneTakesSaid : Prop := stoneTakesRow.holds Tryd.pinned (OpenSpec.ofChange stoneTakesSpec)

/-- ITS FALSE NEIGHBOUR: 'it returns false'. Refute it at one input. -/
def stoneTakesWrong : ChangeSpec := { name := "stoneTakes", fn := fun _ => fun
  | [d1, d2] => { results := [.lit (.bool false)], args := [d1, d2] }
  | _ => none }
def StoneTakesWrongFalsely : Prop := stoneTakesRow.holds Tryd.pinned (OpenSpec.ofChange stoneTakesWrong)

/-- 'bindlelaw17.StoneFlips': WHATEVER THE INPUT: true; the input reads as it did. -/
def stoneFlipsSpec : ChangeSpec := { name := "stoneFlips", fn := fun _ => fun
  | [d1, d2, d3] => { results := [.lit (.bool true)], args := [d1, d2, d3] }
  | _ => none }
def stoneFlipsRow : OpenClaim := { program := "ytbpknjldphckgaadoor", sum := "39137af4a19d6e9313099029f2b38beb6ec0e6b4acd34199f665d5d0e04696bf", func := "bindle/bindlelaw17.StoneFlips", spec := "stoneFlips", inPlace := ["internal/bytealg.CountString", "internal/bytealg.IndexByteString", "internal/bytealg.IndexString"], unfollowed := true, recurses := true, named := ["unicode/utf8.first", "unicode/utf8.acceptRanges", "internal/bytealg.MaxLen"], apart := false, laid := [("unicode/utf8.acceptRanges", laid_unicode_utf8_acceptRanges), ("unicode/utf8.first", laid_unicode_utf8_first)] }
def StoneFlipsSaid : Prop := stoneFlipsRow.holds Tryd.pinned (OpenSpec.ofChange stoneFlipsSpec)

/-- ITS FALSE NEIGHBOUR: 'it returns false'. Refute it at one input. -/
def stoneFlipsWrong : ChangeSpec := { name := "stoneFlips", fn := fun _ => fun
  | [d1, d2, d3] => { results := [.lit (.bool false)], args := [d1, d2, d3] }
  | _ => none }
def StoneFlipsWrongFalsely : Prop := stoneFlipsRow.holds Tryd.pinned (OpenSpec.ofChange stoneFlipsWrong)

/-- 'bindlelaw19.EntrySames': WHATEVER THE INPUT: true; the input reads as it did. -/
def entrySamesSpec : ChangeSpec := { name := "entrySames", fn := fun _ => fun
  | [d1, d2] => { results := [.lit (.bool true)], args := [d1, d2] }
  | _ => none }
def entrySamesRow : OpenClaim := { program := "ytbpknjldphckgaadoor", sum := "39137af4a19d6e9313099029f2b38beb6ec0e6b4acd34199f665d5d0e04696bf", func := "bindle/bindlelaw19.EntrySames", spec := "entrySames", inPlace := ["internal/bytealg.CountString", "internal/bytealg.IndexByteString", "internal/bytealg.IndexString"], unfollowed := true, recurses := true, named := ["unicode/utf8.first", "unicode/utf8.acceptRanges", "internal/bytealg.MaxLen"], apart := false, laid := [("unicode/utf8.acceptRanges", laid_unicode_utf8_acceptRanges), ("unicode/utf8.first", laid_unicode_utf8_first)] }
def EntrySamesSaid : Prop := entrySamesRow.holds Tryd.pinned (OpenSpec.ofChange entrySamesSpec)

/-- ITS FALSE NEIGHBOUR: 'it returns false'. Refute it at one input. -/
def entrySamesWrong : ChangeSpec := { name := "entrySames", fn := fun _ => fun
  | [d1, d2] => { results := [.lit (.bool false)], args := [d1, d2] }
  | _ => none }
def EntrySamesWrongFalsely : Prop := entrySamesRow.holds Tryd.pinned (OpenSpec.ofChange entrySamesWrong)

/-- 'bindlelaw19.EntryPuts': WHATEVER THE INPUT: true; the input reads as it did. -/
def entryPutsSpec : ChangeSpec := { name := "entryPuts", fn := fun _ => fun
  | [d] => { results := [.lit (.bool true)], args := [d] }
  | _ => none }
def entryPutsRow : OpenClaim := { program := "ytbpknjldphckgaadoor", sum := "39137af4a19d6e9313099029f2b38beb6ec0e6b4acd34199f665d5d0e04696bf", func := "bindle/bindlelaw19.EntryPuts", spec := "entryPuts", inPlace := ["internal/bytealg.CountString", "internal/bytealg.IndexByteString", "internal/bytealg.IndexString"], unfollowed := true, recurses := true, named := ["unicode/utf8.first", "unicode/utf8.acceptRanges", "internal/bytealg.MaxLen"], apart := false, laid := [("unicode/utf8.acceptRanges", laid_unicode_utf8_acceptRanges), ("unicode/utf8.first", laid_unicode_utf8_first)] }
def EntryPutsSaid : Prop := entryPutsRow.holds Tryd.pinned (OpenSpec.ofChange entryPutsSpec)

/-- ITS FALSE NEIGHBOUR: 'it returns false'. Refute it at one input. -/
def entryPutsWrong : ChangeSpec := { name := "entryPuts", fn := fun _ => fun
  | [d] => { results := [.lit (.bool false)], args := [d] }
  | _ => none }
def EntryPutsWrongFalsely : Prop := entryPutsRow.holds Tryd.pinned (OpenSpec.ofChange entryPutsWrong)

/-- 'bindlelaw16.LocalPuts': WHATEVER THE INPUT: true; the input reads as it did. -/
def localPutsSpec : ChangeSpec := { name := "localPuts", fn := fun _ => fun
  | [d] => { results := [.lit (.bool true)], args := [d] }
  | _ => none }
def localPutsRow : OpenClaim := { program := "ytbpknjldphckgaadoor", sum := "39137af4a19d6e9313099029f2b38beb6ec0e6b4acd34199f665d5d0e04696bf", func := "bindle/bindlelaw16.LocalPuts", spec := "localPuts", inPlace := ["internal/bytealg.CountString", "internal/bytealg.IndexByteString", "internal/bytealg.IndexString"], unfollowed := true, recurses := true, named := ["unicode/utf8.first", "unicode/utf8.acceptRanges", "internal/bytealg.MaxLen"], apart := false, laid := [("unicode/utf8.acceptRanges", laid_unicode_utf8_acceptRanges), ("unicode/utf8.first", laid_unicode_utf8_first)] }
def LocalPutsSaid : Prop := localPutsRow.holds Tryd.pinned (OpenSpec.ofChange localPutsSpec)

/-- ITS FALSE NEIGHBOUR: 'it returns false'. Refute it at one input. -/
def localPutsWrong : ChangeSpec := { name := "localPuts", fn := fun _ => fun
  | [d] => { results := [.lit (.bool false)], args := [d] }
  | _ => none }
def LocalPutsWrongFalsely : Prop := localPutsRow.holds Tryd.pinned (OpenSpec.ofChange localPutsWrong)

/-- 'bindlelaw16.LocalTakes': WHATEVER THE INPUT: true; the input reads as it did. -/
def localTakesSpec : ChangeSpec := { name := "localTakes", fn := fun _ => fun
  | [d1, d2] => { results := [.lit (.bool true)], args := [d1, d2] }
  | _ => none }
def localTakesRow : OpenClaim := { program := "ytbpknjldphckgaadoor", sum := "39137af4a19d6e9313099029f2b38beb6ec0e6b4acd34199f665d5d0e04696bf", func := "bindle/bindlelaw16.LocalTakes", spec := "localTakes", inPlace := ["internal/bytealg.CountString", "internal/bytealg.IndexByteString", "internal/bytealg.IndexString"], unfollowed := true, recurses := true, named := ["unicode/utf8.first", "unicode/utf8.acceptRanges", "internal/bytealg.MaxLen"], apart := false, laid := [("unicode/utf8.acceptRanges", laid_unicode_utf8_acceptRanges), ("unicode/utf8.first", laid_unicode_utf8_first)] }
def LocalTakesSaid : Prop := localTakesRow.holds Tryd.pinned (OpenSpec.ofChange localTakesSpec)

/-- ITS FALSE NEIGHBOUR: 'it returns false'. Refute it at one input. -/
def localTakesWrong : ChangeSpec := { name := "localTakes", fn := fun _ => fun
  | [d1, d2] => { results := [.lit (.bool false)], args := [d1, d2] }
  | _ => none }
def LocalTakesWrongFalsely : Prop := localTakesRow.holds Tryd.pinned (OpenSpec.ofChange localTakesWrong)

/-- 'bindlelaw16.LocalBack': WHATEVER THE INPUT: true; the input reads as it did. -/
def localBackSpec : ChangeSpec := { name := "localBack", fn := fun _ => fun
  | [d1, d2, d3] => { results := [.lit (.bool true)], args := [d1, d2, d3] }
  | _ => none }
def localBackRow : OpenClaim := { program := "ytbpknjldphckgaadoor", sum := "39137af4a19d6e9313099029f2b38beb6ec0e6b4acd34199f665d5d0e04696bf", func := "bindle/bindlelaw16.LocalBack", spec := "localBack", inPlace := ["internal/bytealg.CountString", "internal/bytealg.IndexByteString", "internal/bytealg.IndexString"], unfollowed := true, recurses := true, named := ["unicode/utf8.first", "unicode/utf8.acceptRanges", "internal/bytealg.MaxLen"], apart := false, laid := [("unicode/utf8.acceptRanges", laid_unicode_utf8_acceptRanges), ("unicode/utf8.first", laid_unicode_utf8_first)] }
def LocalBackSaid : Prop := localBackRow.holds Tryd.pinned (OpenSpec.ofChange localBackSpec)

/-- ITS FALSE NEIGHBOUR: 'it returns false'. Refute it at one input. -/
def localBackWrong : ChangeSpec := { name := "localBack", fn := fun _ => fun
  | [d1, d2, d3] => { results := [.lit (.bool false)], args := [d1, d2, d3] }
  | _ => none }
def LocalBackWrongFalsely : Prop := localBackRow.holds Tryd.pinned (OpenSpec.ofChange localBackWrong)

/-- 'bindlelaw16.LocalFlips': WHATEVER THE INPUT: true; the input reads as it did. -/
def localFlipsSpec : ChangeSpec := { name := "localFlips", fn := fun _ => fun
  | [d1, d2, d3] => { results := [.lit (.bool true)], args := [d1, d2, d3] }
  | _ => none }
def localFlipsRow : OpenClaim := { program := "ytbpknjldphckgaadoor", sum := "39137af4a19d6e9313099029f2b38beb6ec0e6b4acd34199f665d5d0e04696bf", func := "bindle/bindlelaw16.LocalFlips", spec := "localFlips", inPlace := ["internal/bytealg.CountString", "internal/bytealg.IndexByteString", "internal/bytealg.IndexString"], unfollowed := true, recurses := true, named := ["unicode/utf8.first", "unicode/utf8.acceptRanges", "internal/bytealg.MaxLen"], apart := false, laid := [("unicode/utf8.acceptRanges", laid_unicode_utf8_acceptRanges), ("unicode/utf8.first", laid_unicode_utf8_first)] }
def LocalFlipsSaid : Prop := localFlipsRow.holds Tryd.pinned (OpenSpec.ofChange localFlipsSpec)

/-- ITS FALSE NEIGHBOUR: 'it returns false'. Refute it at one input. -/
def localFlipsWrong : ChangeSpec := { name := "localFlips", fn := fun _ => fun
  | [d1, d2, d3] => { results := [.lit (.bool false)], args := [d1, d2, d3] }
  | _ => none }
def LocalFlipsWrongFalsely : Prop := localFlipsRow.holds Tryd.pinned (OpenSpec.ofChange localFlipsWrong)

/-- 'bindlelaw17.StoneBack': WHATEVER THE INPUT: true; the input reads as it did. -/
def stoneBackSpec : ChangeSpec := { name := "stoneBack", fn := fun _ => fun
  | [d1, d2, d3] => { results := [.lit (.bool true)], args := [d1, d2, d3] }
  | _ => none }
def stoneBackRow : OpenClaim := { program := "ytbpknjldphckgaadoor", sum := "39137af4a19d6e9313099029f2b38beb6ec0e6b4acd34199f665d5d0e04696bf", func := "bindle/bindlelaw17.StoneBack", spec := "stoneBack", inPlace := ["internal/bytealg.CountString", "internal/bytealg.IndexByteString", "internal/bytealg.IndexString"], unfollowed := true, recurses := true, named := ["unicode/utf8.first", "unicode/utf8.acceptRanges", "internal/bytealg.MaxLen"], apart := false, laid := [("unicode/utf8.acceptRanges", laid_unicode_utf8_acceptRanges), ("unicode/utf8.first", laid_unicode_utf8_first)] }
def StoneBackSaid : Prop := stoneBackRow.holds Tryd.pinned (OpenSpec.ofChange stoneBackSpec)

/-- ITS FALSE NEIGHBOUR: 'it returns false'. Refute it at one input. -/
def stoneBackWrong : ChangeSpec := { name := "stoneBack", fn := fun _ => fun
  | [d1, d2, d3] => { results := [.lit (.bool false)], args := [d1, d2, d3] }
  | _ => none }
def StoneBackWrongFalsely : Prop := stoneBackRow.holds Tryd.pinned (OpenSpec.ofChange stoneBackWrong)

/-- 'bindlelaw20.FootPuts': WHATEVER THE INPUT: true; the input reads as it did. -/
def footPutsSpec : ChangeSpec := { name := "footPuts", fn := fun _ => fun
  | [d] => { results := [.lit (.bool true)], args := [d] }
  | _ => none }
def footPutsRow : OpenClaim := { program := "ytbpknjldphckgaadoor", sum := "39137af4a19d6e9313099029f2b38beb6ec0e6b4acd34199f665d5d0e04696bf", func := "bindle/bindlelaw20.FootPuts", spec := "footPuts", inPlace := ["internal/bytealg.CountString", "internal/bytealg.IndexByteString", "internal/bytealg.IndexString"], unfollowed := true, recurses := true, named := ["unicode/utf8.first", "unicode/utf8.acceptRanges", "internal/bytealg.MaxLen"], apart := false, laid := [("unicode/utf8.acceptRanges", laid_unicode_utf8_acceptRanges), ("unicode/utf8.first", laid_unicode_utf8_first)] }
def FootPutsSaid : Prop := footPutsRow.holds Tryd.pinned (OpenSpec.ofChange footPutsSpec)

/-- ITS FALSE NEIGHBOUR: 'it returns false'. Refute it at one input. -/
def footPutsWrong : ChangeSpec := { name := "footPuts", fn := fun _ => fun
  | [d] => { results := [.lit (.bool false)], args := [d] }
  | _ => none }
def FootPutsWrongFalsely : Prop := footPutsRow.holds Tryd.pinned (OpenSpec.ofChange footPutsWrong)

/-- 'bindlelaw20.FootBack': WHATEVER THE INPUT: true; the input reads as it did. -/
def footBackSpec : ChangeSpec := { name := "footBack", fn := fun _ => fun
  | [d1, d2] => { results := [.lit (.bool true)], args := [d1, d2] }
  | _ => none }
def footBackRow : OpenClaim := { program := "ytbpknjldphckgaadoor", sum := "39137af4a19d6e9313099029f2b38beb6ec0e6b4acd34199f665d5d0e04696bf", func := "bindle/bindlelaw20.FootBack", spec := "footBack", inPlace := ["internal/bytealg.CountString", "internal/bytealg.IndexByteString", "internal/bytealg.IndexString"], unfollowed := true, recurses := true, named := ["unicode/utf8.first", "unicode/utf8.acceptRanges", "internal/bytealg.MaxLen"], apart := false, laid := [("unicode/utf8.acceptRanges", laid_unicode_utf8_acceptRanges), ("unicode/utf8.first", laid_unicode_utf8_first)] }
def FootBackSaid : Prop := footBackRow.holds Tryd.pinned (OpenSpec.ofChange footBackSpec)

/-- ITS FALSE NEIGHBOUR: 'it returns false'. Refute it at one input. -/
def footBackWrong : ChangeSpec := { name := "footBack", fn := fun _ => fun
  | [d1, d2] => { results := [.lit (.bool false)], args := [d1, d2] }
  | _ => none }
def FootBackWrongFalsely : Prop := footBackRow.holds Tryd.pinned (OpenSpec.ofChange footBackWrong)

/-- 'bindlelaw20.FootFlips': WHATEVER THE INPUT: true; the input reads as it did. -/
def footFlipsSpec : ChangeSpec := { name := "footFlips", fn := fun _ => fun
  | [d1, d2, d3] => { results := [.lit (.bool true)], args := [d1, d2, d3] }
  | _ => none }
def footFlipsRow : OpenClaim := { program := "ytbpknjldphckgaadoor", sum := "39137af4a19d6e9313099029f2b38beb6ec0e6b4acd34199f665d5d0e04696bf", func := "bindle/bindlelaw20.FootFlips", spec := "footFlips", inPlace := ["internal/bytealg.CountString", "internal/bytealg.IndexByteString", "internal/bytealg.IndexString"], unfollowed := true, recurses := true, named := ["unicode/utf8.first", "unicode/utf8.acceptRanges", "internal/bytealg.MaxLen"], apart := false, laid := [("unicode/utf8.acceptRanges", laid_unicode_utf8_acceptRanges), ("unicode/utf8.first", laid_unicode_utf8_first)] }
def FootFlipsSaid : Prop := footFlipsRow.holds Tryd.pinned (OpenSpec.ofChange footFlipsSpec)

/-- ITS FALSE NEIGHBOUR: 'it returns false'. Refute it at one input. -/
def footFlipsWrong : ChangeSpec := { name := "footFlips", fn := fun _ => fun
  | [d1, d2, d3] => { results := [.lit (.bool false)], args := [d1, d2, d3] }
  | _ => none }
def FootFlipsWrongFalsely : Prop := footFlipsRow.holds Tryd.pinned (OpenSpec.ofChange footFlipsWrong)

/-- 'bindlelaw24.IndexPlays': WHATEVER THE INPUT: true; the input reads as it did. -/
def indexPlaysSpec : ChangeSpec := { name := "indexPlays", fn := fun _ => fun
  | [d1, d2] => { results := [.lit (.bool true)], args := [d1, d2] }
  | _ => none }
def indexPlaysRow : OpenClaim := { program := "ytbpknjldphckgaadoor", sum := "39137af4a19d6e9313099029f2b38beb6ec0e6b4acd34199f665d5d0e04696bf", func := "bindle/bindlelaw24.IndexPlays", spec := "indexPlays", inPlace := ["internal/bytealg.CountString", "internal/bytealg.IndexByteString", "internal/bytealg.IndexString", "internal/bytealg.abigen_runtime_cmpstring", "slices.overlaps[bindle/api.Member]"], unfollowed := true, recurses := true, named := ["unicode/utf8.first", "unicode/utf8.acceptRanges", "internal/bytealg.MaxLen"], apart := false, laid := [("unicode/utf8.acceptRanges", laid_unicode_utf8_acceptRanges), ("unicode/utf8.first", laid_unicode_utf8_first)] }
def IndexPlaysSaid : Prop := indexPlaysRow.holds Tryd.pinned (OpenSpec.ofChange indexPlaysSpec)

/-- ITS FALSE NEIGHBOUR: 'it returns false'. Refute it at one input. -/
def indexPlaysWrong : ChangeSpec := { name := "indexPlays", fn := fun _ => fun
  | [d1, d2] => { results := [.lit (.bool false)], args := [d1, d2] }
  | _ => none }
def IndexPlaysWrongFalsely : Prop := indexPlaysRow.holds Tryd.pinned (OpenSpec.ofChange indexPlaysWrong)

/-- 'bindlelaw24.IndexKeeps': WHATEVER THE INPUT: true; the input reads as it did. -/
def indexKeepsSpec : ChangeSpec := { name := "indexKeeps", fn := fun _ => fun
  | [d1, d2, d3] => { results := [.lit (.bool true)], args := [d1, d2, d3] }
  | _ => none }
def indexKeepsRow : OpenClaim := { program := "ytbpknjldphckgaadoor", sum := "39137af4a19d6e9313099029f2b38beb6ec0e6b4acd34199f665d5d0e04696bf", func := "bindle/bindlelaw24.IndexKeeps", spec := "indexKeeps", inPlace := ["internal/bytealg.CountString", "internal/bytealg.IndexByteString", "internal/bytealg.IndexString", "internal/bytealg.abigen_runtime_cmpstring", "slices.overlaps[bindle/api.Member]"], unfollowed := true, recurses := true, named := ["unicode/utf8.first", "unicode/utf8.acceptRanges", "internal/bytealg.MaxLen"], apart := false, laid := [("unicode/utf8.acceptRanges", laid_unicode_utf8_acceptRanges), ("unicode/utf8.first", laid_unicode_utf8_first)] }
def IndexKeepsSaid : Prop := indexKeepsRow.holds Tryd.pinned (OpenSpec.ofChange indexKeepsSpec)

/-- ITS FALSE NEIGHBOUR: 'it returns false'. Refute it at one input. -/
def indexKeepsWrong : ChangeSpec := { name := "indexKeeps", fn := fun _ => fun
  | [d1, d2, d3] => { results := [.lit (.bool false)], args := [d1, d2, d3] }
  | _ => none }
def IndexKeepsWrongFalsely : Prop := indexKeepsRow.holds Tryd.pinned (OpenSpec.ofChange indexKeepsWrong)

/-- 'bindlelaw24.IndexEach': WHATEVER THE INPUT: true; the input reads as it did. -/
def indexEachSpec : ChangeSpec := { name := "indexEach", fn := fun _ => fun
  | [d1, d2] => { results := [.lit (.bool true)], args := [d1, d2] }
  | _ => none }
def indexEachRow : OpenClaim := { program := "ytbpknjldphckgaadoor", sum := "39137af4a19d6e9313099029f2b38beb6ec0e6b4acd34199f665d5d0e04696bf", func := "bindle/bindlelaw24.IndexEach", spec := "indexEach", inPlace := ["internal/bytealg.CountString", "internal/bytealg.IndexByteString", "internal/bytealg.IndexString", "internal/bytealg.abigen_runtime_cmpstring", "slices.overlaps[bindle/api.Member]"], unfollowed := true, recurses := true, named := ["unicode/utf8.first", "unicode/utf8.acceptRanges", "internal/bytealg.MaxLen"], apart := false, laid := [("unicode/utf8.acceptRanges", laid_unicode_utf8_acceptRanges), ("unicode/utf8.first", laid_unicode_utf8_first)] }
def IndexEachSaid : Prop := indexEachRow.holds Tryd.pinned (OpenSpec.ofChange indexEachSpec)

/-- ITS FALSE NEIGHBOUR: 'it returns false'. Refute it at one input. -/
def indexEachWrong : ChangeSpec := { name := "indexEach", fn := fun _ => fun
  | [d1, d2] => { results := [.lit (.bool false)], args := [d1, d2] }
  | _ => none }
def IndexEachWrongFalsely : Prop := indexEachRow.holds Tryd.pinned (OpenSpec.ofChange indexEachWrong)

/-- 'bindlelaw24.IndexNone': WHATEVER THE INPUT: true; the input reads as it did. -/
def indexNoneSpec : ChangeSpec := { name := "indexNone", fn := fun _ => fun
  | [d1, d2] => { results := [.lit (.bool true)], args := [d1, d2] }
  | _ => none }
def indexNoneRow : OpenClaim := { program := "ytbpknjldphckgaadoor", sum := "39137af4a19d6e9313099029f2b38beb6ec0e6b4acd34199f665d5d0e04696bf", func := "bindle/bindlelaw24.IndexNone", spec := "indexNone", inPlace := ["internal/bytealg.abigen_runtime_cmpstring", "internal/bytealg.CountString", "internal/bytealg.IndexByteString", "internal/bytealg.IndexString", "slices.overlaps[bindle/api.Member]"], unfollowed := true, recurses := true, named := ["unicode/utf8.first", "unicode/utf8.acceptRanges", "internal/bytealg.MaxLen"], apart := false, laid := [("unicode/utf8.acceptRanges", laid_unicode_utf8_acceptRanges), ("unicode/utf8.first", laid_unicode_utf8_first)] }
def IndexNoneSaid : Prop := indexNoneRow.holds Tryd.pinned (OpenSpec.ofChange indexNoneSpec)

/-- ITS FALSE NEIGHBOUR: 'it returns false'. Refute it at one input. -/
def indexNoneWrong : ChangeSpec := { name := "indexNone", fn := fun _ => fun
  | [d1, d2] => { results := [.lit (.bool false)], args := [d1, d2] }
  | _ => none }
def IndexNoneWrongFalsely : Prop := indexNoneRow.holds Tryd.pinned (OpenSpec.ofChange indexNoneWrong)

/-- 'bindlelaw25.ModelMaps': WHATEVER THE INPUT: true; the input reads as it did. -/
def modelMapsSpec : ChangeSpec := { name := "modelMaps", fn := fun _ => fun
  | [d1, d2, d3] => { results := [.lit (.bool true)], args := [d1, d2, d3] }
  | _ => none }
def modelMapsRow : OpenClaim := { program := "ytbpknjldphckgaadoor", sum := "39137af4a19d6e9313099029f2b38beb6ec0e6b4acd34199f665d5d0e04696bf", func := "bindle/bindlelaw25.ModelMaps", spec := "modelMaps", inPlace := ["internal/bytealg.abigen_runtime_cmpstring", "internal/bytealg.CountString", "internal/bytealg.IndexByteString", "internal/bytealg.IndexString", "slices.overlaps[bindle/api.File]"], unfollowed := true, recurses := true, named := ["unicode/utf8.first", "unicode/utf8.acceptRanges", "internal/bytealg.MaxLen"], apart := false, laid := [("unicode/utf8.acceptRanges", laid_unicode_utf8_acceptRanges), ("unicode/utf8.first", laid_unicode_utf8_first)] }
def ModelMapsSaid : Prop := modelMapsRow.holds Tryd.pinned (OpenSpec.ofChange modelMapsSpec)

/-- ITS FALSE NEIGHBOUR: 'it returns false'. Refute it at one input. -/
def modelMapsWrong : ChangeSpec := { name := "modelMaps", fn := fun _ => fun
  | [d1, d2, d3] => { results := [.lit (.bool false)], args := [d1, d2, d3] }
  | _ => none }
def ModelMapsWrongFalsely : Prop := modelMapsRow.holds Tryd.pinned (OpenSpec.ofChange modelMapsWrong)

/-- 'bindlelaw25.ModelGets': WHATEVER THE INPUT: true; the input reads as it did. -/
def modelGetsSpec : ChangeSpec := { name := "modelGets", fn := fun _ => fun
  | [d1, d2] => { results := [.lit (.bool true)], args := [d1, d2] }
  | _ => none }
def modelGetsRow : OpenClaim := { program := "ytbpknjldphckgaadoor", sum := "39137af4a19d6e9313099029f2b38beb6ec0e6b4acd34199f665d5d0e04696bf", func := "bindle/bindlelaw25.ModelGets", spec := "modelGets", inPlace := ["internal/bytealg.abigen_runtime_cmpstring", "internal/bytealg.CountString", "internal/bytealg.IndexByteString", "internal/bytealg.IndexString", "slices.overlaps[bindle/api.File]"], unfollowed := true, recurses := true, named := ["unicode/utf8.first", "unicode/utf8.acceptRanges", "internal/bytealg.MaxLen"], apart := false, laid := [("unicode/utf8.acceptRanges", laid_unicode_utf8_acceptRanges), ("unicode/utf8.first", laid_unicode_utf8_first)] }
def ModelGetsSaid : Prop := modelGetsRow.holds Tryd.pinned (OpenSpec.ofChange modelGetsSpec)

/-- ITS FALSE NEIGHBOUR: 'it returns false'. Refute it at one input. -/
def modelGetsWrong : ChangeSpec := { name := "modelGets", fn := fun _ => fun
  | [d1, d2] => { results := [.lit (.bool false)], args := [d1, d2] }
  | _ => none }
def ModelGetsWrongFalsely : Prop := modelGetsRow.holds Tryd.pinned (OpenSpec.ofChange modelGetsWrong)

/-- 'bindlelaw25.ModelFinds': WHATEVER THE INPUT: true; the input reads as it did. -/
def modelFindsSpec : ChangeSpec := { name := "modelFinds", fn := fun _ => fun
  | [d1, d2] => { results := [.lit (.bool true)], args := [d1, d2] }
  | _ => none }
def modelFindsRow : OpenClaim := { program := "ytbpknjldphckgaadoor", sum := "39137af4a19d6e9313099029f2b38beb6ec0e6b4acd34199f665d5d0e04696bf", func := "bindle/bindlelaw25.ModelFinds", spec := "modelFinds", inPlace := ["internal/bytealg.abigen_runtime_cmpstring", "internal/bytealg.CountString", "internal/bytealg.IndexByteString", "internal/bytealg.IndexString", "slices.overlaps[bindle/api.File]"], unfollowed := true, recurses := true, named := ["unicode/utf8.first", "unicode/utf8.acceptRanges", "internal/bytealg.MaxLen"], apart := false, laid := [("unicode/utf8.acceptRanges", laid_unicode_utf8_acceptRanges), ("unicode/utf8.first", laid_unicode_utf8_first)] }
def ModelFindsSaid : Prop := modelFindsRow.holds Tryd.pinned (OpenSpec.ofChange modelFindsSpec)

/-- ITS FALSE NEIGHBOUR: 'it returns false'. Refute it at one input. -/
def modelFindsWrong : ChangeSpec := { name := "modelFinds", fn := fun _ => fun
  | [d1, d2] => { results := [.lit (.bool false)], args := [d1, d2] }
  | _ => none }
def ModelFindsWrongFalsely : Prop := modelFindsRow.holds Tryd.pinned (OpenSpec.ofChange modelFindsWrong)

/-- 'bindlelaw25.ModelSteps': WHATEVER THE INPUT: true; the input reads as it did. -/
def modelStepsSpec : ChangeSpec := { name := "modelSteps", fn := fun _ => fun
  | [d] => { results := [.lit (.bool true)], args := [d] }
  | _ => none }
def modelStepsRow : OpenClaim := { program := "ytbpknjldphckgaadoor", sum := "39137af4a19d6e9313099029f2b38beb6ec0e6b4acd34199f665d5d0e04696bf", func := "bindle/bindlelaw25.ModelSteps", spec := "modelSteps", inPlace := ["internal/bytealg.abigen_runtime_cmpstring", "internal/bytealg.CountString", "internal/bytealg.IndexByteString", "internal/bytealg.IndexString", "slices.overlaps[bindle/api.File]"], unfollowed := true, recurses := true, named := ["unicode/utf8.first", "unicode/utf8.acceptRanges", "internal/bytealg.MaxLen"], apart := false, laid := [("unicode/utf8.acceptRanges", laid_unicode_utf8_acceptRanges), ("unicode/utf8.first", laid_unicode_utf8_first)] }
def ModelStepsSaid : Prop := modelStepsRow.holds Tryd.pinned (OpenSpec.ofChange modelStepsSpec)

/-- ITS FALSE NEIGHBOUR: 'it returns false'. Refute it at one input. -/
def modelStepsWrong : ChangeSpec := { name := "modelSteps", fn := fun _ => fun
  | [d] => { results := [.lit (.bool false)], args := [d] }
  | _ => none }
def ModelStepsWrongFalsely : Prop := modelStepsRow.holds Tryd.pinned (OpenSpec.ofChange modelStepsWrong)

/-- 'bindlelaw25.ModelNone': WHATEVER THE INPUT: true; the input reads as it did. -/
def modelNoneSpec : ChangeSpec := { name := "modelNone", fn := fun _ => fun
  | [d1, d2, d3] => { results := [.lit (.bool true)], args := [d1, d2, d3] }
  | _ => none }
def modelNoneRow : OpenClaim := { program := "ytbpknjldphckgaadoor", sum := "39137af4a19d6e9313099029f2b38beb6ec0e6b4acd34199f665d5d0e04696bf", func := "bindle/bindlelaw25.ModelNone", spec := "modelNone", inPlace := ["internal/bytealg.abigen_runtime_cmpstring", "internal/bytealg.CountString", "internal/bytealg.IndexByteString", "internal/bytealg.IndexString", "slices.overlaps[bindle/api.File]"], unfollowed := true, recurses := true, named := ["unicode/utf8.first", "unicode/utf8.acceptRanges", "internal/bytealg.MaxLen"], apart := false, laid := [("unicode/utf8.acceptRanges", laid_unicode_utf8_acceptRanges), ("unicode/utf8.first", laid_unicode_utf8_first)] }
def ModelNoneSaid : Prop := modelNoneRow.holds Tryd.pinned (OpenSpec.ofChange modelNoneSpec)

/-- ITS FALSE NEIGHBOUR: 'it returns false'. Refute it at one input. -/
def modelNoneWrong : ChangeSpec := { name := "modelNone", fn := fun _ => fun
  | [d1, d2, d3] => { results := [.lit (.bool false)], args := [d1, d2, d3] }
  | _ => none }
def ModelNoneWrongFalsely : Prop := modelNoneRow.holds Tryd.pinned (OpenSpec.ofChange modelNoneWrong)

/- THE SECOND FORM. 'bulk': how many values and letters a reading holds, each counted each time it is reached (what is shared counts as often as it is met; a slice's spare places count too). A statement '..UptoSaid' is the law's where the arguments, and the package variables that the reading takes, are together of bulk at most 1048576: NARROWER than '..Said'. Prove '..Said' where nothing that the law and all that it calls make is longer than what came in: it says more and counts as full. Else prove '..UptoSaid'. A law counts once. -/
mutual
def uptoBulk {H : Type} : DataW H → Nat
  | .lit (.string bytes) => bytes.length + 1
  | .lit _ => 1
  | .nil => 1
  | .ptr d => uptoBulk d + 1
  | .slice elems spare => uptoBulkAll elems + uptoBulkAll spare + 1
  | .agg parts => uptoBulkAll parts + 1
  | .iface _ d => uptoBulk d + 1
  | .map entries => uptoBulkEntries entries + 1
  | .held _ => 1
def uptoBulkAll {H : Type} : List (DataW H) → Nat
  | [] => 0
  | d :: r => uptoBulk d + uptoBulkAll r
def uptoBulkEntries {H : Type} : List (Lit × DataW H) → Nat
  | [] => 0
  | x :: r => uptoBulkEntry x + uptoBulkEntries r
def uptoBulkEntry {H : Type} : Lit × DataW H → Nat
  | (.string bytes, d) => bytes.length + uptoBulk d + 1
  | (_, d) => uptoBulk d + 1
 end
def uptoSmall : (H : Type) → List (DataW H) → Bool := fun _ ds => decide (uptoBulkAll ds ≤ 1048576)
def OpenSpec.upto (s : _root_.Go.ChangeSpec) : _root_.Go.OpenSpec := { _root_.Go.OpenSpec.ofChange s with cond := some uptoSmall }

/-- 'bindlelaw17.StonePuts', WHERE WHAT IT READS IS OF BULK AT MOST 1048576: true; the input reads as it did. -/
def stonePutsUptoRow : OpenClaim := { program := "ytbpknjldphckgaadoor", sum := "39137af4a19d6e9313099029f2b38beb6ec0e6b4acd34199f665d5d0e04696bf", func := "bindle/bindlelaw17.StonePuts", spec := "stonePuts", inPlace := ["internal/bytealg.CountString", "internal/bytealg.IndexByteString", "internal/bytealg.IndexString"], unfollowed := true, recurses := true, named := ["unicode/utf8.first", "unicode/utf8.acceptRanges", "internal/bytealg.MaxLen"], apart := false, laid := [("unicode/utf8.acceptRanges", laid_unicode_utf8_acceptRanges), ("unicode/utf8.first", laid_unicode_utf8_first)], narrowed := true }
def StonePutsUptoSaid : Prop := stonePutsUptoRow.holds Tryd.pinned (OpenSpec.upto stonePutsSpec)

/-- 'bindlelaw17.StoneTakes', WHERE WHAT IT READS IS OF BULK AT MOST 1048576: true; the input reads as it did. -/
def stoneTakesUptoRow : OpenClaim := { program := "ytbpknjldphckgaadoor", sum := "39137af4a19d6e9313099029f2b38beb6ec0e6b4acd34199f665d5d0e04696bf", func := "bindle/bindlelaw17.StoneTakes", spec := "stoneTakes", inPlace := ["internal/bytealg.CountString", "internal/bytealg.IndexByteString", "internal/bytealg.IndexString"], unfollowed := true, recurses := true, named := ["unicode/utf8.first", "unicode/utf8.acceptRanges", "internal/bytealg.MaxLen"], apart := false, laid := [("unicode/utf8.acceptRanges", laid_unicode_utf8_acceptRanges), ("unicode/utf8.first", laid_unicode_utf8_first)], narrowed := true }
def StoneTakesUptoSaid : Prop := stoneTakesUptoRow.holds Tryd.pinned (OpenSpec.upto stoneTakesSpec)

/-- 'bindlelaw17.StoneFlips', WHERE WHAT IT READS IS OF BULK AT MOST 1048576: true; the input reads as it did. -/
def stoneFlipsUptoRow : OpenClaim := { program := "ytbpknjldphckgaadoor", sum := "39137af4a19d6e9313099029f2b38beb6ec0e6b4acd34199f665d5d0e04696bf", func := "bindle/bindlelaw17.StoneFlips", spec := "stoneFlips", inPlace := ["internal/bytealg.CountString", "internal/bytealg.IndexByteString", "internal/bytealg.IndexString"], unfollowed := true, recurses := true, named := ["unicode/utf8.first", "unicode/utf8.acceptRanges", "internal/bytealg.MaxLen"], apart := false, laid := [("unicode/utf8.acceptRanges", laid_unicode_utf8_acceptRanges), ("unicode/utf8.first", laid_unicode_utf8_first)], narrowed := true }
def StoneFlipsUptoSaid : Prop := stoneFlipsUptoRow.holds Tryd.pinned (OpenSpec.upto stoneFlipsSpec)

/-- 'bindlelaw19.EntrySames', WHERE WHAT IT READS IS OF BULK AT MOST 1048576: true; the input reads as it did. -/
def entrySamesUptoRow : OpenClaim := { program := "ytbpknjldphckgaadoor", sum := "39137af4a19d6e9313099029f2b38beb6ec0e6b4acd34199f665d5d0e04696bf", func := "bindle/bindlelaw19.EntrySames", spec := "entrySames", inPlace := ["internal/bytealg.CountString", "internal/bytealg.IndexByteString", "internal/bytealg.IndexString"], unfollowed := true, recurses := true, named := ["unicode/utf8.first", "unicode/utf8.acceptRanges", "internal/bytealg.MaxLen"], apart := false, laid := [("unicode/utf8.acceptRanges", laid_unicode_utf8_acceptRanges), ("unicode/utf8.first", laid_unicode_utf8_first)], narrowed := true }
def EntrySamesUptoSaid : Prop := entrySamesUptoRow.holds Tryd.pinned (OpenSpec.upto entrySamesSpec)

/-- 'bindlelaw19.EntryPuts', WHERE WHAT IT READS IS OF BULK AT MOST 1048576: true; the input reads as it did. -/
def entryPutsUptoRow : OpenClaim := { program := "ytbpknjldphckgaadoor", sum := "39137af4a19d6e9313099029f2b38beb6ec0e6b4acd34199f665d5d0e04696bf", func := "bindle/bindlelaw19.EntryPuts", spec := "entryPuts", inPlace := ["internal/bytealg.CountString", "internal/bytealg.IndexByteString", "internal/bytealg.IndexString"], unfollowed := true, recurses := true, named := ["unicode/utf8.first", "unicode/utf8.acceptRanges", "internal/bytealg.MaxLen"], apart := false, laid := [("unicode/utf8.acceptRanges", laid_unicode_utf8_acceptRanges), ("unicode/utf8.first", laid_unicode_utf8_first)], narrowed := true }
def EntryPutsUptoSaid : Prop := entryPutsUptoRow.holds Tryd.pinned (OpenSpec.upto entryPutsSpec)

/-- 'bindlelaw16.LocalPuts', WHERE WHAT IT READS IS OF BULK AT MOST 1048576: true; the input reads as it did. -/
def localPutsUptoRow : OpenClaim := { program := "ytbpknjldphckgaadoor", sum := "39137af4a19d6e9313099029f2b38beb6ec0e6b4acd34199f665d5d0e04696bf", func := "bindle/bindlelaw16.LocalPuts", spec := "localPuts", inPlace := ["internal/bytealg.CountString", "internal/bytealg.IndexByteString", "internal/bytealg.IndexString"], unfollowed := true, recurses := true, named := ["unicode/utf8.first", "unicode/utf8.acceptRanges", "internal/bytealg.MaxLen"], apart := false, laid := [("unicode/utf8.acceptRanges", laid_unicode_utf8_acceptRanges), ("unicode/utf8.first", laid_unicode_utf8_first)], narrowed := true }
def LocalPutsUptoSaid : Prop := localPutsUptoRow.holds Tryd.pinned (OpenSpec.upto localPutsSpec)

/-- 'bindlelaw16.LocalTakes', WHERE WHAT IT READS IS OF BULK AT MOST 1048576: true; the input reads as it did. -/
def localTakesUptoRow : OpenClaim := { program := "ytbpknjldphckgaadoor", sum := "39137af4a19d6e9313099029f2b38beb6ec0e6b4acd34199f665d5d0e04696bf", func := "bindle/bindlelaw16.LocalTakes", spec := "localTakes", inPlace := ["internal/bytealg.CountString", "internal/bytealg.IndexByteString", "internal/bytealg.IndexString"], unfollowed := true, recurses := true, named := ["unicode/utf8.first", "unicode/utf8.acceptRanges", "internal/bytealg.MaxLen"], apart := false, laid := [("unicode/utf8.acceptRanges", laid_unicode_utf8_acceptRanges), ("unicode/utf8.first", laid_unicode_utf8_first)], narrowed := true }
def LocalTakesUptoSaid : Prop := localTakesUptoRow.holds Tryd.pinned (OpenSpec.upto localTakesSpec)

/-- 'bindlelaw16.LocalBack', WHERE WHAT IT READS IS OF BULK AT MOST 1048576: true; the input reads as it did. -/
def localBackUptoRow : OpenClaim := { program := "ytbpknjldphckgaadoor", sum := "39137af4a19d6e9313099029f2b38beb6ec0e6b4acd34199f665d5d0e04696bf", func := "bindle/bindlelaw16.LocalBack", spec := "localBack", inPlace := ["internal/bytealg.CountString", "internal/bytealg.IndexByteString", "internal/bytealg.IndexString"], unfollowed := true, recurses := true, named := ["unicode/utf8.first", "unicode/utf8.acceptRanges", "internal/bytealg.MaxLen"], apart := false, laid := [("unicode/utf8.acceptRanges", laid_unicode_utf8_acceptRanges), ("unicode/utf8.first", laid_unicode_utf8_first)], narrowed := true }
def LocalBackUptoSaid : Prop := localBackUptoRow.holds Tryd.pinned (OpenSpec.upto localBackSpec)

/-- 'bindlelaw16.LocalFlips', WHERE WHAT IT READS IS OF BULK AT MOST 1048576: true; the input reads as it did. -/
def localFlipsUptoRow : OpenClaim := { program := "ytbpknjldphckgaadoor", sum := "39137af4a19d6e9313099029f2b38beb6ec0e6b4acd34199f665d5d0e04696bf", func := "bindle/bindlelaw16.LocalFlips", spec := "localFlips", inPlace := ["internal/bytealg.CountString", "internal/bytealg.IndexByteString", "internal/bytealg.IndexString"], unfollowed := true, recurses := true, named := ["unicode/utf8.first", "unicode/utf8.acceptRanges", "internal/bytealg.MaxLen"], apart := false, laid := [("unicode/utf8.acceptRanges", laid_unicode_utf8_acceptRanges), ("unicode/utf8.first", laid_unicode_utf8_first)], narrowed := true }
def LocalFlipsUptoSaid : Prop := localFlipsUptoRow.holds Tryd.pinned (OpenSpec.upto localFlipsSpec)

/-- 'bindlelaw17.StoneBack', WHERE WHAT IT READS IS OF BULK AT MOST 1048576: true; the input reads as it did. -/
def stoneBackUptoRow : OpenClaim := { program := "ytbpknjldphckgaadoor", sum := "39137af4a19d6e9313099029f2b38beb6ec0e6b4acd34199f665d5d0e04696bf", func := "bindle/bindlelaw17.StoneBack", spec := "stoneBack", inPlace := ["internal/bytealg.CountString", "internal/bytealg.IndexByteString", "internal/bytealg.IndexString"], unfollowed := true, recurses := true, named := ["unicode/utf8.first", "unicode/utf8.acceptRanges", "internal/bytealg.MaxLen"], apart := false, laid := [("unicode/utf8.acceptRanges", laid_unicode_utf8_acceptRanges), ("unicode/utf8.first", laid_unicode_utf8_first)], narrowed := true }
def StoneBackUptoSaid : Prop := stoneBackUptoRow.holds Tryd.pinned (OpenSpec.upto stoneBackSpec)

/-- 'bindlelaw20.FootPuts', WHERE WHAT IT READS IS OF BULK AT MOST 1048576: true; the input reads as it did. -/
def footPutsUptoRow : OpenClaim := { program := "ytbpknjldphckgaadoor", sum := "39137af4a19d6e9313099029f2b38beb6ec0e6b4acd34199f665d5d0e04696bf", func := "bindle/bindlelaw20.FootPuts", spec := "footPuts", inPlace := ["internal/bytealg.CountString", "internal/bytealg.IndexByteString", "internal/bytealg.IndexString"], unfollowed := true, recurses := true, named := ["unicode/utf8.first", "unicode/utf8.acceptRanges", "internal/bytealg.MaxLen"], apart := false, laid := [("unicode/utf8.acceptRanges", laid_unicode_utf8_acceptRanges), ("unicode/utf8.first", laid_unicode_utf8_first)], narrowed := true }
def FootPutsUptoSaid : Prop := footPutsUptoRow.holds Tryd.pinned (OpenSpec.upto footPutsSpec)

/-- 'bindlelaw20.FootBack', WHERE WHAT IT READS IS OF BULK AT MOST 1048576: true; the input reads as it did. -/
def footBackUptoRow : OpenClaim := { program := "ytbpknjldphckgaadoor", sum := "39137af4a19d6e9313099029f2b38beb6ec0e6b4acd34199f665d5d0e04696bf", func := "bindle/bindlelaw20.FootBack", spec := "footBack", inPlace := ["internal/bytealg.CountString", "internal/bytealg.IndexByteString", "internal/bytealg.IndexString"], unfollowed := true, recurses := true, named := ["unicode/utf8.first", "unicode/utf8.acceptRanges", "internal/bytealg.MaxLen"], apart := false, laid := [("unicode/utf8.acceptRanges", laid_unicode_utf8_acceptRanges), ("unicode/utf8.first", laid_unicode_utf8_first)], narrowed := true }
def FootBackUptoSaid : Prop := footBackUptoRow.holds Tryd.pinned (OpenSpec.upto footBackSpec)

/-- 'bindlelaw20.FootFlips', WHERE WHAT IT READS IS OF BULK AT MOST 1048576: true; the input reads as it did. -/
def footFlipsUptoRow : OpenClaim := { program := "ytbpknjldphckgaadoor", sum := "39137af4a19d6e9313099029f2b38beb6ec0e6b4acd34199f665d5d0e04696bf", func := "bindle/bindlelaw20.FootFlips", spec := "footFlips", inPlace := ["internal/bytealg.CountString", "internal/bytealg.IndexByteString", "internal/bytealg.IndexString"], unfollowed := true, recurses := true, named := ["unicode/utf8.first", "unicode/utf8.acceptRanges", "internal/bytealg.MaxLen"], apart := false, laid := [("unicode/utf8.acceptRanges", laid_unicode_utf8_acceptRanges), ("unicode/utf8.first", laid_unicode_utf8_first)], narrowed := true }
def FootFlipsUptoSaid : Prop := footFlipsUptoRow.holds Tryd.pinned (OpenSpec.upto footFlipsSpec)

/-- 'bindlelaw24.IndexPlays', WHERE WHAT IT READS IS OF BULK AT MOST 1048576: true; the input reads as it did. -/
def indexPlaysUptoRow : OpenClaim := { program := "ytbpknjldphckgaadoor", sum := "39137af4a19d6e9313099029f2b38beb6ec0e6b4acd34199f665d5d0e04696bf", func := "bindle/bindlelaw24.IndexPlays", spec := "indexPlays", inPlace := ["internal/bytealg.CountString", "internal/bytealg.IndexByteString", "internal/bytealg.IndexString", "internal/bytealg.abigen_runtime_cmpstring", "slices.overlaps[bindle/api.Member]"], unfollowed := true, recurses := true, named := ["unicode/utf8.first", "unicode/utf8.acceptRanges", "internal/bytealg.MaxLen"], apart := false, laid := [("unicode/utf8.acceptRanges", laid_unicode_utf8_acceptRanges), ("unicode/utf8.first", laid_unicode_utf8_first)], narrowed := true }
def IndexPlaysUptoSaid : Prop := indexPlaysUptoRow.holds Tryd.pinned (OpenSpec.upto indexPlaysSpec)

/-- 'bindlelaw24.IndexKeeps', WHERE WHAT IT READS IS OF BULK AT MOST 1048576: true; the input reads as it did. -/
def indexKeepsUptoRow : OpenClaim := { program := "ytbpknjldphckgaadoor", sum := "39137af4a19d6e9313099029f2b38beb6ec0e6b4acd34199f665d5d0e04696bf", func := "bindle/bindlelaw24.IndexKeeps", spec := "indexKeeps", inPlace := ["internal/bytealg.CountString", "internal/bytealg.IndexByteString", "internal/bytealg.IndexString", "internal/bytealg.abigen_runtime_cmpstring", "slices.overlaps[bindle/api.Member]"], unfollowed := true, recurses := true, named := ["unicode/utf8.first", "unicode/utf8.acceptRanges", "internal/bytealg.MaxLen"], apart := false, laid := [("unicode/utf8.acceptRanges", laid_unicode_utf8_acceptRanges), ("unicode/utf8.first", laid_unicode_utf8_first)], narrowed := true }
def IndexKeepsUptoSaid : Prop := indexKeepsUptoRow.holds Tryd.pinned (OpenSpec.upto indexKeepsSpec)

/-- 'bindlelaw24.IndexEach', WHERE WHAT IT READS IS OF BULK AT MOST 1048576: true; the input reads as it did. -/
def indexEachUptoRow : OpenClaim := { program := "ytbpknjldphckgaadoor", sum := "39137af4a19d6e9313099029f2b38beb6ec0e6b4acd34199f665d5d0e04696bf", func := "bindle/bindlelaw24.IndexEach", spec := "indexEach", inPlace := ["internal/bytealg.CountString", "internal/bytealg.IndexByteString", "internal/bytealg.IndexString", "internal/bytealg.abigen_runtime_cmpstring", "slices.overlaps[bindle/api.Member]"], unfollowed := true, recurses := true, named := ["unicode/utf8.first", "unicode/utf8.acceptRanges", "internal/bytealg.MaxLen"], apart := false, laid := [("unicode/utf8.acceptRanges", laid_unicode_utf8_acceptRanges), ("unicode/utf8.first", laid_unicode_utf8_first)], narrowed := true }
def IndexEachUptoSaid : Prop := indexEachUptoRow.holds Tryd.pinned (OpenSpec.upto indexEachSpec)

/-- 'bindlelaw24.IndexNone', WHERE WHAT IT READS IS OF BULK AT MOST 1048576: true; the input reads as it did. -/
def indexNoneUptoRow : OpenClaim := { program := "ytbpknjldphckgaadoor", sum := "39137af4a19d6e9313099029f2b38beb6ec0e6b4acd34199f665d5d0e04696bf", func := "bindle/bindlelaw24.IndexNone", spec := "indexNone", inPlace := ["internal/bytealg.abigen_runtime_cmpstring", "internal/bytealg.CountString", "internal/bytealg.IndexByteString", "internal/bytealg.IndexString", "slices.overlaps[bindle/api.Member]"], unfollowed := true, recurses := true, named := ["unicode/utf8.first", "unicode/utf8.acceptRanges", "internal/bytealg.MaxLen"], apart := false, laid := [("unicode/utf8.acceptRanges", laid_unicode_utf8_acceptRanges), ("unicode/utf8.first", laid_unicode_utf8_first)], narrowed := true }
def IndexNoneUptoSaid : Prop := indexNoneUptoRow.holds Tryd.pinned (OpenSpec.upto indexNoneSpec)

/-- 'bindlelaw25.ModelMaps', WHERE WHAT IT READS IS OF BULK AT MOST 1048576: true; the input reads as it did. -/
def modelMapsUptoRow : OpenClaim := { program := "ytbpknjldphckgaadoor", sum := "39137af4a19d6e9313099029f2b38beb6ec0e6b4acd34199f665d5d0e04696bf", func := "bindle/bindlelaw25.ModelMaps", spec := "modelMaps", inPlace := ["internal/bytealg.abigen_runtime_cmpstring", "internal/bytealg.CountString", "internal/bytealg.IndexByteString", "internal/bytealg.IndexString", "slices.overlaps[bindle/api.File]"], unfollowed := true, recurses := true, named := ["unicode/utf8.first", "unicode/utf8.acceptRanges", "internal/bytealg.MaxLen"], apart := false, laid := [("unicode/utf8.acceptRanges", laid_unicode_utf8_acceptRanges), ("unicode/utf8.first", laid_unicode_utf8_first)], narrowed := true }
def ModelMapsUptoSaid : Prop := modelMapsUptoRow.holds Tryd.pinned (OpenSpec.upto modelMapsSpec)

/-- 'bindlelaw25.ModelGets', WHERE WHAT IT READS IS OF BULK AT MOST 1048576: true; the input reads as it did. -/
def modelGetsUptoRow : OpenClaim := { program := "ytbpknjldphckgaadoor", sum := "39137af4a19d6e9313099029f2b38beb6ec0e6b4acd34199f665d5d0e04696bf", func := "bindle/bindlelaw25.ModelGets", spec := "modelGets", inPlace := ["internal/bytealg.abigen_runtime_cmpstring", "internal/bytealg.CountString", "internal/bytealg.IndexByteString", "internal/bytealg.IndexString", "slices.overlaps[bindle/api.File]"], unfollowed := true, recurses := true, named := ["unicode/utf8.first", "unicode/utf8.acceptRanges", "internal/bytealg.MaxLen"], apart := false, laid := [("unicode/utf8.acceptRanges", laid_unicode_utf8_acceptRanges), ("unicode/utf8.first", laid_unicode_utf8_first)], narrowed := true }
def ModelGetsUptoSaid : Prop := modelGetsUptoRow.holds Tryd.pinned (OpenSpec.upto modelGetsSpec)

/-- 'bindlelaw25.ModelFinds', WHERE WHAT IT READS IS OF BULK AT MOST 1048576: true; the input reads as it did. -/
def modelFindsUptoRow : OpenClaim := { program := "ytbpknjldphckgaadoor", sum := "39137af4a19d6e9313099029f2b38beb6ec0e6b4acd34199f665d5d0e04696bf", func := "bindle/bindlelaw25.ModelFinds", spec := "modelFinds", inPlace := ["internal/bytealg.abigen_runtime_cmpstring", "internal/bytealg.CountString", "internal/bytealg.IndexByteString", "internal/bytealg.IndexString", "slices.overlaps[bindle/api.File]"], unfollowed := true, recurses := true, named := ["unicode/utf8.first", "unicode/utf8.acceptRanges", "internal/bytealg.MaxLen"], apart := false, laid := [("unicode/utf8.acceptRanges", laid_unicode_utf8_acceptRanges), ("unicode/utf8.first", laid_unicode_utf8_first)], narrowed := true }
def ModelFindsUptoSaid : Prop := modelFindsUptoRow.holds Tryd.pinned (OpenSpec.upto modelFindsSpec)

/-- 'bindlelaw25.ModelSteps', WHERE WHAT IT READS IS OF BULK AT MOST 1048576: true; the input reads as it did. -/
def modelStepsUptoRow : OpenClaim := { program := "ytbpknjldphckgaadoor", sum := "39137af4a19d6e9313099029f2b38beb6ec0e6b4acd34199f665d5d0e04696bf", func := "bindle/bindlelaw25.ModelSteps", spec := "modelSteps", inPlace := ["internal/bytealg.abigen_runtime_cmpstring", "internal/bytealg.CountString", "internal/bytealg.IndexByteString", "internal/bytealg.IndexString", "slices.overlaps[bindle/api.File]"], unfollowed := true, recurses := true, named := ["unicode/utf8.first", "unicode/utf8.acceptRanges", "internal/bytealg.MaxLen"], apart := false, laid := [("unicode/utf8.acceptRanges", laid_unicode_utf8_acceptRanges), ("unicode/utf8.first", laid_unicode_utf8_first)], narrowed := true }
def ModelStepsUptoSaid : Prop := modelStepsUptoRow.holds Tryd.pinned (OpenSpec.upto modelStepsSpec)

/-- 'bindlelaw25.ModelNone', WHERE WHAT IT READS IS OF BULK AT MOST 1048576: true; the input reads as it did. -/
def modelNoneUptoRow : OpenClaim := { program := "ytbpknjldphckgaadoor", sum := "39137af4a19d6e9313099029f2b38beb6ec0e6b4acd34199f665d5d0e04696bf", func := "bindle/bindlelaw25.ModelNone", spec := "modelNone", inPlace := ["internal/bytealg.abigen_runtime_cmpstring", "internal/bytealg.CountString", "internal/bytealg.IndexByteString", "internal/bytealg.IndexString", "slices.overlaps[bindle/api.File]"], unfollowed := true, recurses := true, named := ["unicode/utf8.first", "unicode/utf8.acceptRanges", "internal/bytealg.MaxLen"], apart := false, laid := [("unicode/utf8.acceptRanges", laid_unicode_utf8_acceptRanges), ("unicode/utf8.first", laid_unicode_utf8_first)], narrowed := true }
def ModelNoneUptoSaid : Prop := modelNoneUptoRow.holds Tryd.pinned (OpenSpec.upto modelNoneSpec)

end Rows
end Go.Proofs.YtbpknjldphckgaaDoor
