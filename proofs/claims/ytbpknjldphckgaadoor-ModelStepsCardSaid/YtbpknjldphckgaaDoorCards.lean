/-
  DERIVED. GIVEN WITH THE SEED: THE CARDS: each row of YtbpknjldphckgaaDoorRows.lean that lists a variable, with what it lists TIED to the program's text (the seventh form; the later family's looks); each row that meets fmt, with fmt's text TOLD by the authors' own Lean function (tested against real Go, not proved from fmt's source: count such statements apart). THE CARD IS WHAT COUNTS. Prove the row's statement (the work); the ties are given (YtbpknjldphckgaaDoorTie.lean); close each card by the builder's one call (the guide's Derived/Test/ToyasCard.lean, 'card_holds'). Laid BY PROGRAM, IN A SANDBOX (cutbox-door.mjs). By AI agents, Wed Nov 11 2026. No macro, syntax, notation, axiom, sorry.
-/
import Derived.Test.YtbpknjldphckgaaDoorRows
import GoSem.ClaimSeven
namespace Go.Proofs.YtbpknjldphckgaaDoor
namespace Rows

/-- THE TIED CARD OF 'bindlelaw17.StonePuts'. -/
def stonePutsCard : Claim7 := { stood := { row := stonePutsRow, standIns := [], harness := (true, "bc9f3cb85745f96992040cc5b31babd500f1ea4e36d299bae426ae28286c4765"), looks := false }, kinds := [], alts := [], laidByText := true, laidKinds := [.data, .pinned], laidTests := true, laidLooks := .later }
def StonePutsCardSaid : Prop := Claim7.holds Tryd.pinned (.plain (OpenSpec.ofChange stonePutsSpec)) stonePutsCard

/-- THE TIED CARD OF 'bindlelaw17.StoneTakes'. -/
def stoneTakesCard : Claim7 := { stood := { row := stoneTakesRow, standIns := [], harness := (true, "bc9f3cb85745f96992040cc5b31babd500f1ea4e36d299bae426ae28286c4765"), looks := false }, kinds := [], alts := [], laidByText := true, laidKinds := [.data, .pinned], laidTests := true, laidLooks := .later }
def StoneTakesCardSaid : Prop := Claim7.holds Tryd.pinned (.plain (OpenSpec.ofChange stoneTakesSpec)) stoneTakesCard

/-- THE TIED CARD OF 'bindlelaw17.StoneFlips'. -/
def stoneFlipsCard : Claim7 := { stood := { row := stoneFlipsRow, standIns := [], harness := (true, "bc9f3cb85745f96992040cc5b31babd500f1ea4e36d299bae426ae28286c4765"), looks := false }, kinds := [], alts := [], laidByText := true, laidKinds := [.data, .pinned], laidTests := true, laidLooks := .later }
def StoneFlipsCardSaid : Prop := Claim7.holds Tryd.pinned (.plain (OpenSpec.ofChange stoneFlipsSpec)) stoneFlipsCard

/-- THE TIED CARD OF 'bindlelaw19.EntrySames'. -/
def entrySamesCard : Claim7 := { stood := { row := entrySamesRow, standIns := [], harness := (true, "bc9f3cb85745f96992040cc5b31babd500f1ea4e36d299bae426ae28286c4765"), looks := false }, kinds := [], alts := [], laidByText := true, laidKinds := [.data, .pinned], laidTests := true, laidLooks := .later }
def EntrySamesCardSaid : Prop := Claim7.holds Tryd.pinned (.plain (OpenSpec.ofChange entrySamesSpec)) entrySamesCard

/-- THE TIED CARD OF 'bindlelaw19.EntryPuts'. -/
def entryPutsCard : Claim7 := { stood := { row := entryPutsRow, standIns := [], harness := (true, "bc9f3cb85745f96992040cc5b31babd500f1ea4e36d299bae426ae28286c4765"), looks := false }, kinds := [], alts := [], laidByText := true, laidKinds := [.data, .pinned], laidTests := true, laidLooks := .later }
def EntryPutsCardSaid : Prop := Claim7.holds Tryd.pinned (.plain (OpenSpec.ofChange entryPutsSpec)) entryPutsCard

/-- THE TIED CARD OF 'bindlelaw16.LocalPuts'. -/
def localPutsCard : Claim7 := { stood := { row := localPutsRow, standIns := [], harness := (true, "bc9f3cb85745f96992040cc5b31babd500f1ea4e36d299bae426ae28286c4765"), looks := false }, kinds := [], alts := [], laidByText := true, laidKinds := [.data, .pinned], laidTests := true, laidLooks := .later }
def LocalPutsCardSaid : Prop := Claim7.holds Tryd.pinned (.plain (OpenSpec.ofChange localPutsSpec)) localPutsCard

/-- THE TIED CARD OF 'bindlelaw16.LocalTakes'. -/
def localTakesCard : Claim7 := { stood := { row := localTakesRow, standIns := [], harness := (true, "bc9f3cb85745f96992040cc5b31babd500f1ea4e36d299bae426ae28286c4765"), looks := false }, kinds := [], alts := [], laidByText := true, laidKinds := [.data, .pinned], laidTests := true, laidLooks := .later }
def LocalTakesCardSaid : Prop := Claim7.holds Tryd.pinned (.plain (OpenSpec.ofChange localTakesSpec)) localTakesCard

/-- THE TIED CARD OF 'bindlelaw16.LocalBack'. -/
def localBackCard : Claim7 := { stood := { row := localBackRow, standIns := [], harness := (true, "bc9f3cb85745f96992040cc5b31babd500f1ea4e36d299bae426ae28286c4765"), looks := false }, kinds := [], alts := [], laidByText := true, laidKinds := [.data, .pinned], laidTests := true, laidLooks := .later }
def LocalBackCardSaid : Prop := Claim7.holds Tryd.pinned (.plain (OpenSpec.ofChange localBackSpec)) localBackCard

/-- THE TIED CARD OF 'bindlelaw16.LocalFlips'. -/
def localFlipsCard : Claim7 := { stood := { row := localFlipsRow, standIns := [], harness := (true, "bc9f3cb85745f96992040cc5b31babd500f1ea4e36d299bae426ae28286c4765"), looks := false }, kinds := [], alts := [], laidByText := true, laidKinds := [.data, .pinned], laidTests := true, laidLooks := .later }
def LocalFlipsCardSaid : Prop := Claim7.holds Tryd.pinned (.plain (OpenSpec.ofChange localFlipsSpec)) localFlipsCard

/-- THE TIED CARD OF 'bindlelaw17.StoneBack'. -/
def stoneBackCard : Claim7 := { stood := { row := stoneBackRow, standIns := [], harness := (true, "bc9f3cb85745f96992040cc5b31babd500f1ea4e36d299bae426ae28286c4765"), looks := false }, kinds := [], alts := [], laidByText := true, laidKinds := [.data, .pinned], laidTests := true, laidLooks := .later }
def StoneBackCardSaid : Prop := Claim7.holds Tryd.pinned (.plain (OpenSpec.ofChange stoneBackSpec)) stoneBackCard

/-- THE TIED CARD OF 'bindlelaw20.FootPuts'. -/
def footPutsCard : Claim7 := { stood := { row := footPutsRow, standIns := [], harness := (true, "bc9f3cb85745f96992040cc5b31babd500f1ea4e36d299bae426ae28286c4765"), looks := false }, kinds := [], alts := [], laidByText := true, laidKinds := [.data, .pinned], laidTests := true, laidLooks := .later }
def FootPutsCardSaid : Prop := Claim7.holds Tryd.pinned (.plain (OpenSpec.ofChange footPutsSpec)) footPutsCard

/-- THE TIED CARD OF 'bindlelaw20.FootBack'. -/
def footBackCard : Claim7 := { stood := { row := footBackRow, standIns := [], harness := (true, "bc9f3cb85745f96992040cc5b31babd500f1ea4e36d299bae426ae28286c4765"), looks := false }, kinds := [], alts := [], laidByText := true, laidKinds := [.data, .pinned], laidTests := true, laidLooks := .later }
def FootBackCardSaid : Prop := Claim7.holds Tryd.pinned (.plain (OpenSpec.ofChange footBackSpec)) footBackCard

/-- THE TIED CARD OF 'bindlelaw20.FootFlips'. -/
def footFlipsCard : Claim7 := { stood := { row := footFlipsRow, standIns := [], harness := (true, "bc9f3cb85745f96992040cc5b31babd500f1ea4e36d299bae426ae28286c4765"), looks := false }, kinds := [], alts := [], laidByText := true, laidKinds := [.data, .pinned], laidTests := true, laidLooks := .later }
def FootFlipsCardSaid : Prop := Claim7.holds Tryd.pinned (.plain (OpenSpec.ofChange footFlipsSpec)) footFlipsCard

/-- THE TIED CARD OF 'bindlelaw24.IndexPlays'. -/
def indexPlaysCard : Claim7 := { stood := { row := indexPlaysRow, standIns := [], harness := (true, "bc9f3cb85745f96992040cc5b31babd500f1ea4e36d299bae426ae28286c4765"), looks := false }, kinds := [], alts := [], laidByText := true, laidKinds := [.data, .pinned], laidTests := true, laidLooks := .later }
def IndexPlaysCardSaid : Prop := Claim7.holds Tryd.pinned (.plain (OpenSpec.ofChange indexPlaysSpec)) indexPlaysCard

/-- THE TIED CARD OF 'bindlelaw24.IndexKeeps'. -/
def indexKeepsCard : Claim7 := { stood := { row := indexKeepsRow, standIns := [], harness := (true, "bc9f3cb85745f96992040cc5b31babd500f1ea4e36d299bae426ae28286c4765"), looks := false }, kinds := [], alts := [], laidByText := true, laidKinds := [.data, .pinned], laidTests := true, laidLooks := .later }
def IndexKeepsCardSaid : Prop := Claim7.holds Tryd.pinned (.plain (OpenSpec.ofChange indexKeepsSpec)) indexKeepsCard

/-- THE TIED CARD OF 'bindlelaw24.IndexEach'. -/
def indexEachCard : Claim7 := { stood := { row := indexEachRow, standIns := [], harness := (true, "bc9f3cb85745f96992040cc5b31babd500f1ea4e36d299bae426ae28286c4765"), looks := false }, kinds := [], alts := [], laidByText := true, laidKinds := [.data, .pinned], laidTests := true, laidLooks := .later }
def IndexEachCardSaid : Prop := Claim7.holds Tryd.pinned (.plain (OpenSpec.ofChange indexEachSpec)) indexEachCard

/-- THE TIED CARD OF 'bindlelaw24.IndexNone'. -/
def indexNoneCard : Claim7 := { stood := { row := indexNoneRow, standIns := [], harness := (true, "bc9f3cb85745f96992040cc5b31babd500f1ea4e36d299bae426ae28286c4765"), looks := false }, kinds := [], alts := [], laidByText := true, laidKinds := [.data, .pinned], laidTests := true, laidLooks := .later }
def IndexNoneCardSaid : Prop := Claim7.holds Tryd.pinned (.plain (OpenSpec.ofChange indexNoneSpec)) indexNoneCard

/-- THE TIED CARD OF 'bindlelaw25.ModelMaps'. -/
def modelMapsCard : Claim7 := { stood := { row := modelMapsRow, standIns := [], harness := (true, "bc9f3cb85745f96992040cc5b31babd500f1ea4e36d299bae426ae28286c4765"), looks := false }, kinds := [], alts := [], laidByText := true, laidKinds := [.data, .pinned], laidTests := true, laidLooks := .later }
def ModelMapsCardSaid : Prop := Claim7.holds Tryd.pinned (.plain (OpenSpec.ofChange modelMapsSpec)) modelMapsCard

/-- THE TIED CARD OF 'bindlelaw25.ModelGets'. -/
def modelGetsCard : Claim7 := { stood := { row := modelGetsRow, standIns := [], harness := (true, "bc9f3cb85745f96992040cc5b31babd500f1ea4e36d299bae426ae28286c4765"), looks := false }, kinds := [], alts := [], laidByText := true, laidKinds := [.data, .pinned], laidTests := true, laidLooks := .later }
def ModelGetsCardSaid : Prop := Claim7.holds Tryd.pinned (.plain (OpenSpec.ofChange modelGetsSpec)) modelGetsCard

/-- THE TIED CARD OF 'bindlelaw25.ModelFinds'. -/
def modelFindsCard : Claim7 := { stood := { row := modelFindsRow, standIns := [], harness := (true, "bc9f3cb85745f96992040cc5b31babd500f1ea4e36d299bae426ae28286c4765"), looks := false }, kinds := [], alts := [], laidByText := true, laidKinds := [.data, .pinned], laidTests := true, laidLooks := .later }
def ModelFindsCardSaid : Prop := Claim7.holds Tryd.pinned (.plain (OpenSpec.ofChange modelFindsSpec)) modelFindsCard

/-- THE TIED CARD OF 'bindlelaw25.ModelSteps'. -/
def modelStepsCard : Claim7 := { stood := { row := modelStepsRow, standIns := [], harness := (true, "bc9f3cb85745f96992040cc5b31babd500f1ea4e36d299bae426ae28286c4765"), looks := false }, kinds := [], alts := [], laidByText := true, laidKinds := [.data, .pinned], laidTests := true, laidLooks := .later }
def ModelStepsCardSaid : Prop := Claim7.holds Tryd.pinned (.plain (OpenSpec.ofChange modelStepsSpec)) modelStepsCard

/-- THE TIED CARD OF 'bindlelaw25.ModelNone'. -/
def modelNoneCard : Claim7 := { stood := { row := modelNoneRow, standIns := [], harness := (true, "bc9f3cb85745f96992040cc5b31babd500f1ea4e36d299bae426ae28286c4765"), looks := false }, kinds := [], alts := [], laidByText := true, laidKinds := [.data, .pinned], laidTests := true, laidLooks := .later }
def ModelNoneCardSaid : Prop := Claim7.holds Tryd.pinned (.plain (OpenSpec.ofChange modelNoneSpec)) modelNoneCard

/-- THE SECOND FORM's CARD OF 'bindlelaw17.StonePuts'. -/
def stonePutsUptoCard : Claim7 := { stood := { row := stonePutsUptoRow, standIns := [], harness := (true, "bc9f3cb85745f96992040cc5b31babd500f1ea4e36d299bae426ae28286c4765"), looks := false }, kinds := [], alts := [], laidByText := true, laidKinds := [.data, .pinned], laidTests := true, laidLooks := .later }
def StonePutsUptoCardSaid : Prop := Claim7.holds Tryd.pinned (.plain (OpenSpec.upto stonePutsSpec)) stonePutsUptoCard

/-- THE SECOND FORM's CARD OF 'bindlelaw17.StoneTakes'. -/
def stoneTakesUptoCard : Claim7 := { stood := { row := stoneTakesUptoRow, standIns := [], harness := (true, "bc9f3cb85745f96992040cc5b31babd500f1ea4e36d299bae426ae28286c4765"), looks := false }, kinds := [], alts := [], laidByText := true, laidKinds := [.data, .pinned], laidTests := true, laidLooks := .later }
def StoneTakesUptoCardSaid : Prop := Claim7.holds Tryd.pinned (.plain (OpenSpec.upto stoneTakesSpec)) stoneTakesUptoCard

/-- THE SECOND FORM's CARD OF 'bindlelaw17.StoneFlips'. -/
def stoneFlipsUptoCard : Claim7 := { stood := { row := stoneFlipsUptoRow, standIns := [], harness := (true, "bc9f3cb85745f96992040cc5b31babd500f1ea4e36d299bae426ae28286c4765"), looks := false }, kinds := [], alts := [], laidByText := true, laidKinds := [.data, .pinned], laidTests := true, laidLooks := .later }
def StoneFlipsUptoCardSaid : Prop := Claim7.holds Tryd.pinned (.plain (OpenSpec.upto stoneFlipsSpec)) stoneFlipsUptoCard

/-- THE SECOND FORM's CARD OF 'bindlelaw19.EntrySames'. -/
def entrySamesUptoCard : Claim7 := { stood := { row := entrySamesUptoRow, standIns := [], harness := (true, "bc9f3cb85745f96992040cc5b31babd500f1ea4e36d299bae426ae28286c4765"), looks := false }, kinds := [], alts := [], laidByText := true, laidKinds := [.data, .pinned], laidTests := true, laidLooks := .later }
def EntrySamesUptoCardSaid : Prop := Claim7.holds Tryd.pinned (.plain (OpenSpec.upto entrySamesSpec)) entrySamesUptoCard

/-- THE SECOND FORM's CARD OF 'bindlelaw19.EntryPuts'. -/
def entryPutsUptoCard : Claim7 := { stood := { row := entryPutsUptoRow, standIns := [], harness := (true, "bc9f3cb85745f96992040cc5b31babd500f1ea4e36d299bae426ae28286c4765"), looks := false }, kinds := [], alts := [], laidByText := true, laidKinds := [.data, .pinned], laidTests := true, laidLooks := .later }
def EntryPutsUptoCardSaid : Prop := Claim7.holds Tryd.pinned (.plain (OpenSpec.upto entryPutsSpec)) entryPutsUptoCard

/-- THE SECOND FORM's CARD OF 'bindlelaw16.LocalPuts'. -/
def localPutsUptoCard : Claim7 := { stood := { row := localPutsUptoRow, standIns := [], harness := (true, "bc9f3cb85745f96992040cc5b31babd500f1ea4e36d299bae426ae28286c4765"), looks := false }, kinds := [], alts := [], laidByText := true, laidKinds := [.data, .pinned], laidTests := true, laidLooks := .later }
def LocalPutsUptoCardSaid : Prop := Claim7.holds Tryd.pinned (.plain (OpenSpec.upto localPutsSpec)) localPutsUptoCard

/-- THE SECOND FORM's CARD OF 'bindlelaw16.LocalTakes'. -/
def localTakesUptoCard : Claim7 := { stood := { row := localTakesUptoRow, standIns := [], harness := (true, "bc9f3cb85745f96992040cc5b31babd500f1ea4e36d299bae426ae28286c4765"), looks := false }, kinds := [], alts := [], laidByText := true, laidKinds := [.data, .pinned], laidTests := true, laidLooks := .later }
def LocalTakesUptoCardSaid : Prop := Claim7.holds Tryd.pinned (.plain (OpenSpec.upto localTakesSpec)) localTakesUptoCard

/-- THE SECOND FORM's CARD OF 'bindlelaw16.LocalBack'. -/
def localBackUptoCard : Claim7 := { stood := { row := localBackUptoRow, standIns := [], harness := (true, "bc9f3cb85745f96992040cc5b31babd500f1ea4e36d299bae426ae28286c4765"), looks := false }, kinds := [], alts := [], laidByText := true, laidKinds := [.data, .pinned], laidTests := true, laidLooks := .later }
def LocalBackUptoCardSaid : Prop := Claim7.holds Tryd.pinned (.plain (OpenSpec.upto localBackSpec)) localBackUptoCard

/-- THE SECOND FORM's CARD OF 'bindlelaw16.LocalFlips'. -/
def localFlipsUptoCard : Claim7 := { stood := { row := localFlipsUptoRow, standIns := [], harness := (true, "bc9f3cb85745f96992040cc5b31babd500f1ea4e36d299bae426ae28286c4765"), looks := false }, kinds := [], alts := [], laidByText := true, laidKinds := [.data, .pinned], laidTests := true, laidLooks := .later }
def LocalFlipsUptoCardSaid : Prop := Claim7.holds Tryd.pinned (.plain (OpenSpec.upto localFlipsSpec)) localFlipsUptoCard

/-- THE SECOND FORM's CARD OF 'bindlelaw17.StoneBack'. -/
def stoneBackUptoCard : Claim7 := { stood := { row := stoneBackUptoRow, standIns := [], harness := (true, "bc9f3cb85745f96992040cc5b31babd500f1ea4e36d299bae426ae28286c4765"), looks := false }, kinds := [], alts := [], laidByText := true, laidKinds := [.data, .pinned], laidTests := true, laidLooks := .later }
def StoneBackUptoCardSaid : Prop := Claim7.holds Tryd.pinned (.plain (OpenSpec.upto stoneBackSpec)) stoneBackUptoCard

/-- THE SECOND FORM's CARD OF 'bindlelaw20.FootPuts'. -/
def footPutsUptoCard : Claim7 := { stood := { row := footPutsUptoRow, standIns := [], harness := (true, "bc9f3cb85745f96992040cc5b31babd500f1ea4e36d299bae426ae28286c4765"), looks := false }, kinds := [], alts := [], laidByText := true, laidKinds := [.data, .pinned], laidTests := true, laidLooks := .later }
def FootPutsUptoCardSaid : Prop := Claim7.holds Tryd.pinned (.plain (OpenSpec.upto footPutsSpec)) footPutsUptoCard

/-- THE SECOND FORM's CARD OF 'bindlelaw20.FootBack'. -/
def footBackUptoCard : Claim7 := { stood := { row := footBackUptoRow, standIns := [], harness := (true, "bc9f3cb85745f96992040cc5b31babd500f1ea4e36d299bae426ae28286c4765"), looks := false }, kinds := [], alts := [], laidByText := true, laidKinds := [.data, .pinned], laidTests := true, laidLooks := .later }
def FootBackUptoCardSaid : Prop := Claim7.holds Tryd.pinned (.plain (OpenSpec.upto footBackSpec)) footBackUptoCard

/-- THE SECOND FORM's CARD OF 'bindlelaw20.FootFlips'. -/
def footFlipsUptoCard : Claim7 := { stood := { row := footFlipsUptoRow, standIns := [], harness := (true, "bc9f3cb85745f96992040cc5b31babd500f1ea4e36d299bae426ae28286c4765"), looks := false }, kinds := [], alts := [], laidByText := true, laidKinds := [.data, .pinned], laidTests := true, laidLooks := .later }
def FootFlipsUptoCardSaid : Prop := Claim7.holds Tryd.pinned (.plain (OpenSpec.upto footFlipsSpec)) footFlipsUptoCard

/-- THE SECOND FORM's CARD OF 'bindlelaw24.IndexPlays'. -/
def indexPlaysUptoCard : Claim7 := { stood := { row := indexPlaysUptoRow, standIns := [], harness := (true, "bc9f3cb85745f96992040cc5b31babd500f1ea4e36d299bae426ae28286c4765"), looks := false }, kinds := [], alts := [], laidByText := true, laidKinds := [.data, .pinned], laidTests := true, laidLooks := .later }
def IndexPlaysUptoCardSaid : Prop := Claim7.holds Tryd.pinned (.plain (OpenSpec.upto indexPlaysSpec)) indexPlaysUptoCard

/-- THE SECOND FORM's CARD OF 'bindlelaw24.IndexKeeps'. -/
def indexKeepsUptoCard : Claim7 := { stood := { row := indexKeepsUptoRow, standIns := [], harness := (true, "bc9f3cb85745f96992040cc5b31babd500f1ea4e36d299bae426ae28286c4765"), looks := false }, kinds := [], alts := [], laidByText := true, laidKinds := [.data, .pinned], laidTests := true, laidLooks := .later }
def IndexKeepsUptoCardSaid : Prop := Claim7.holds Tryd.pinned (.plain (OpenSpec.upto indexKeepsSpec)) indexKeepsUptoCard

/-- THE SECOND FORM's CARD OF 'bindlelaw24.IndexEach'. -/
def indexEachUptoCard : Claim7 := { stood := { row := indexEachUptoRow, standIns := [], harness := (true, "bc9f3cb85745f96992040cc5b31babd500f1ea4e36d299bae426ae28286c4765"), looks := false }, kinds := [], alts := [], laidByText := true, laidKinds := [.data, .pinned], laidTests := true, laidLooks := .later }
def IndexEachUptoCardSaid : Prop := Claim7.holds Tryd.pinned (.plain (OpenSpec.upto indexEachSpec)) indexEachUptoCard

/-- THE SECOND FORM's CARD OF 'bindlelaw24.IndexNone'. -/
def indexNoneUptoCard : Claim7 := { stood := { row := indexNoneUptoRow, standIns := [], harness := (true, "bc9f3cb85745f96992040cc5b31babd500f1ea4e36d299bae426ae28286c4765"), looks := false }, kinds := [], alts := [], laidByText := true, laidKinds := [.data, .pinned], laidTests := true, laidLooks := .later }
def IndexNoneUptoCardSaid : Prop := Claim7.holds Tryd.pinned (.plain (OpenSpec.upto indexNoneSpec)) indexNoneUptoCard

/-- THE SECOND FORM's CARD OF 'bindlelaw25.ModelMaps'. -/
def modelMapsUptoCard : Claim7 := { stood := { row := modelMapsUptoRow, standIns := [], harness := (true, "bc9f3cb85745f96992040cc5b31babd500f1ea4e36d299bae426ae28286c4765"), looks := false }, kinds := [], alts := [], laidByText := true, laidKinds := [.data, .pinned], laidTests := true, laidLooks := .later }
def ModelMapsUptoCardSaid : Prop := Claim7.holds Tryd.pinned (.plain (OpenSpec.upto modelMapsSpec)) modelMapsUptoCard

/-- THE SECOND FORM's CARD OF 'bindlelaw25.ModelGets'. -/
def modelGetsUptoCard : Claim7 := { stood := { row := modelGetsUptoRow, standIns := [], harness := (true, "bc9f3cb85745f96992040cc5b31babd500f1ea4e36d299bae426ae28286c4765"), looks := false }, kinds := [], alts := [], laidByText := true, laidKinds := [.data, .pinned], laidTests := true, laidLooks := .later }
def ModelGetsUptoCardSaid : Prop := Claim7.holds Tryd.pinned (.plain (OpenSpec.upto modelGetsSpec)) modelGetsUptoCard

/-- THE SECOND FORM's CARD OF 'bindlelaw25.ModelFinds'. -/
def modelFindsUptoCard : Claim7 := { stood := { row := modelFindsUptoRow, standIns := [], harness := (true, "bc9f3cb85745f96992040cc5b31babd500f1ea4e36d299bae426ae28286c4765"), looks := false }, kinds := [], alts := [], laidByText := true, laidKinds := [.data, .pinned], laidTests := true, laidLooks := .later }
def ModelFindsUptoCardSaid : Prop := Claim7.holds Tryd.pinned (.plain (OpenSpec.upto modelFindsSpec)) modelFindsUptoCard

/-- THE SECOND FORM's CARD OF 'bindlelaw25.ModelSteps'. -/
def modelStepsUptoCard : Claim7 := { stood := { row := modelStepsUptoRow, standIns := [], harness := (true, "bc9f3cb85745f96992040cc5b31babd500f1ea4e36d299bae426ae28286c4765"), looks := false }, kinds := [], alts := [], laidByText := true, laidKinds := [.data, .pinned], laidTests := true, laidLooks := .later }
def ModelStepsUptoCardSaid : Prop := Claim7.holds Tryd.pinned (.plain (OpenSpec.upto modelStepsSpec)) modelStepsUptoCard

/-- THE SECOND FORM's CARD OF 'bindlelaw25.ModelNone'. -/
def modelNoneUptoCard : Claim7 := { stood := { row := modelNoneUptoRow, standIns := [], harness := (true, "bc9f3cb85745f96992040cc5b31babd500f1ea4e36d299bae426ae28286c4765"), looks := false }, kinds := [], alts := [], laidByText := true, laidKinds := [.data, .pinned], laidTests := true, laidLooks := .later }
def ModelNoneUptoCardSaid : Prop := Claim7.holds Tryd.pinned (.plain (OpenSpec.upto modelNoneSpec)) modelNoneUptoCard
end Rows
end Go.Proofs.YtbpknjldphckgaaDoor
