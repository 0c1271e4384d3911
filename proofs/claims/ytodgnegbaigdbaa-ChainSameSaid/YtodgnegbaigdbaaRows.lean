/-
  No cell of these rows narrows 'for every input' (looked for: loops, veiled, ifaces, maps, wideKeys, modest, calm, conditions, laid).
  DERIVED. THE GIVEN ROWS OF THIS SEAT. 13 by the template 'for every input the law returns true; each argument reads behind the call as it read before'; 0 by the template 'total and deterministic' (their statements: YtodgnegbaigdbaaTotals.lean).
  GIVEN WITH THE SEED: the statements are not yours to turn. If you find one false, say at which input.
  Laid BY PROGRAM, IN A SANDBOX (cutbox-rows.mjs): the forced cells as the released guide's own fill.sh prints them over the translation e6657d7de6eb3428… (all of the seat's roots in one cut). By AI agents, Wed Nov 11 2026. No macro, syntax, notation, axiom, sorry.
-/
import Derived.Test.YtodgnegbaigdbaaChecked
import GoSem.Claim
import GoSem.ClaimJoined
import GoSem.ClaimMapViews
import Derived.JoinedTies
import Derived.KernelRfl
namespace Go.Proofs.Ytodgnegbaigdbaa
/- THE CELL 'sum', in the pinned program and in every row, IS THE sha256 OF THE DUMP (.gsa) THAT YtodgnegbaigdbaaProg.lean LOADS. Nothing in Lean hashes anything: it is a label: what it is worth is what the hold of that sum in a sandbox is worth. -/
noncomputable def Try.pinned : Pinned := { name := "ytodgnegbaigdbaa", sum := "e6657d7de6eb342827a48ff604e87007f2fd77614c790ed0a69b6d2cbd9755fd", checked := Try.checked }
namespace Rows
def none {H : Type} : Left H := { results := [], args := [] }

/-- 'bindlelaw35.ChainHashes': WHATEVER THE INPUT: true; the input reads as it did. -/
def chainHashesSpec : ChangeSpec := { name := "chainHashes", fn := fun _ => fun
  | [d1, d2, d3] => { results := [.lit (.bool true)], args := [d1, d2, d3] }
  | _ => none }
def chainHashesRow : OpenClaim := { program := "ytodgnegbaigdbaa", sum := "e6657d7de6eb342827a48ff604e87007f2fd77614c790ed0a69b6d2cbd9755fd", func := "bindle/bindlelaw35.ChainHashes", spec := "chainHashes", apart := false }
def ChainHashesSaid : Prop := chainHashesRow.holds Try.pinned (OpenSpec.ofChange chainHashesSpec)

/-- ITS FALSE NEIGHBOUR: 'it returns false'. Refute it at one input. -/
def chainHashesWrong : ChangeSpec := { name := "chainHashes", fn := fun _ => fun
  | [d1, d2, d3] => { results := [.lit (.bool false)], args := [d1, d2, d3] }
  | _ => none }
def ChainHashesWrongFalsely : Prop := chainHashesRow.holds Try.pinned (OpenSpec.ofChange chainHashesWrong)

/-- 'bindlelaw35.ChainFinds': WHATEVER THE INPUT: true; the input reads as it did. -/
def chainFindsSpec : ChangeSpec := { name := "chainFinds", fn := fun _ => fun
  | [d1, d2, d3] => { results := [.lit (.bool true)], args := [d1, d2, d3] }
  | _ => none }
def chainFindsRow : OpenClaim := { program := "ytodgnegbaigdbaa", sum := "e6657d7de6eb342827a48ff604e87007f2fd77614c790ed0a69b6d2cbd9755fd", func := "bindle/bindlelaw35.ChainFinds", spec := "chainFinds", apart := false }
def ChainFindsSaid : Prop := chainFindsRow.holds Try.pinned (OpenSpec.ofChange chainFindsSpec)

/-- ITS FALSE NEIGHBOUR: 'it returns false'. Refute it at one input. -/
def chainFindsWrong : ChangeSpec := { name := "chainFinds", fn := fun _ => fun
  | [d1, d2, d3] => { results := [.lit (.bool false)], args := [d1, d2, d3] }
  | _ => none }
def ChainFindsWrongFalsely : Prop := chainFindsRow.holds Try.pinned (OpenSpec.ofChange chainFindsWrong)

/-- 'bindlelaw10.MatchLens': WHATEVER THE INPUT: true; the input reads as it did. -/
def matchLensSpec : ChangeSpec := { name := "matchLens", fn := fun _ => fun
  | [d1, d2, d3] => { results := [.lit (.bool true)], args := [d1, d2, d3] }
  | _ => none }
def matchLensRow : OpenClaim := { program := "ytodgnegbaigdbaa", sum := "e6657d7de6eb342827a48ff604e87007f2fd77614c790ed0a69b6d2cbd9755fd", func := "bindle/bindlelaw10.MatchLens", spec := "matchLens", unfollowed := true, recurses := true, apart := false }
def MatchLensSaid : Prop := matchLensRow.holds Try.pinned (OpenSpec.ofChange matchLensSpec)

/-- ITS FALSE NEIGHBOUR: 'it returns false'. Refute it at one input. -/
def matchLensWrong : ChangeSpec := { name := "matchLens", fn := fun _ => fun
  | [d1, d2, d3] => { results := [.lit (.bool false)], args := [d1, d2, d3] }
  | _ => none }
def MatchLensWrongFalsely : Prop := matchLensRow.holds Try.pinned (OpenSpec.ofChange matchLensWrong)

/-- 'bindlelaw10.MatchThere': WHATEVER THE INPUT: true; the input reads as it did. -/
def matchThereSpec : ChangeSpec := { name := "matchThere", fn := fun _ => fun
  | [d1, d2, d3] => { results := [.lit (.bool true)], args := [d1, d2, d3] }
  | _ => none }
def matchThereRow : OpenClaim := { program := "ytodgnegbaigdbaa", sum := "e6657d7de6eb342827a48ff604e87007f2fd77614c790ed0a69b6d2cbd9755fd", func := "bindle/bindlelaw10.MatchThere", spec := "matchThere", unfollowed := true, recurses := true, apart := false }
def MatchThereSaid : Prop := matchThereRow.holds Try.pinned (OpenSpec.ofChange matchThereSpec)

/-- ITS FALSE NEIGHBOUR: 'it returns false'. Refute it at one input. -/
def matchThereWrong : ChangeSpec := { name := "matchThere", fn := fun _ => fun
  | [d1, d2, d3] => { results := [.lit (.bool false)], args := [d1, d2, d3] }
  | _ => none }
def MatchThereWrongFalsely : Prop := matchThereRow.holds Try.pinned (OpenSpec.ofChange matchThereWrong)

/-- 'bindlelaw10.MatchBests': WHATEVER THE INPUT: true; the input reads as it did. -/
def matchBestsSpec : ChangeSpec := { name := "matchBests", fn := fun _ => fun
  | [d1, d2, d3] => { results := [.lit (.bool true)], args := [d1, d2, d3] }
  | _ => none }
def matchBestsRow : OpenClaim := { program := "ytodgnegbaigdbaa", sum := "e6657d7de6eb342827a48ff604e87007f2fd77614c790ed0a69b6d2cbd9755fd", func := "bindle/bindlelaw10.MatchBests", spec := "matchBests", unfollowed := true, recurses := true, apart := false }
def MatchBestsSaid : Prop := matchBestsRow.holds Try.pinned (OpenSpec.ofChange matchBestsSpec)

/-- ITS FALSE NEIGHBOUR: 'it returns false'. Refute it at one input. -/
def matchBestsWrong : ChangeSpec := { name := "matchBests", fn := fun _ => fun
  | [d1, d2, d3] => { results := [.lit (.bool false)], args := [d1, d2, d3] }
  | _ => none }
def MatchBestsWrongFalsely : Prop := matchBestsRow.holds Try.pinned (OpenSpec.ofChange matchBestsWrong)

/-- 'bindlelaw10.MatchChains': WHATEVER THE INPUT: true; the input reads as it did. -/
def matchChainsSpec : ChangeSpec := { name := "matchChains", fn := fun _ => fun
  | [d1, d2] => { results := [.lit (.bool true)], args := [d1, d2] }
  | _ => none }
def matchChainsRow : OpenClaim := { program := "ytodgnegbaigdbaa", sum := "e6657d7de6eb342827a48ff604e87007f2fd77614c790ed0a69b6d2cbd9755fd", func := "bindle/bindlelaw10.MatchChains", spec := "matchChains", unfollowed := true, recurses := true, apart := false }
def MatchChainsSaid : Prop := matchChainsRow.holds Try.pinned (OpenSpec.ofChange matchChainsSpec)

/-- ITS FALSE NEIGHBOUR: 'it returns false'. Refute it at one input. -/
def matchChainsWrong : ChangeSpec := { name := "matchChains", fn := fun _ => fun
  | [d1, d2] => { results := [.lit (.bool false)], args := [d1, d2] }
  | _ => none }
def MatchChainsWrongFalsely : Prop := matchChainsRow.holds Try.pinned (OpenSpec.ofChange matchChainsWrong)

/-- 'bindlelaw11.TokensSplits': WHATEVER THE INPUT: true; the input reads as it did. -/
def tokensSplitsSpec : ChangeSpec := { name := "tokensSplits", fn := fun _ => fun
  | [d1, d2] => { results := [.lit (.bool true)], args := [d1, d2] }
  | _ => none }
def tokensSplitsRow : OpenClaim := { program := "ytodgnegbaigdbaa", sum := "e6657d7de6eb342827a48ff604e87007f2fd77614c790ed0a69b6d2cbd9755fd", func := "bindle/bindlelaw11.TokensSplits", spec := "tokensSplits", unfollowed := true, recurses := true, apart := false }
def TokensSplitsSaid : Prop := tokensSplitsRow.holds Try.pinned (OpenSpec.ofChange tokensSplitsSpec)

/-- ITS FALSE NEIGHBOUR: 'it returns false'. Refute it at one input. -/
def tokensSplitsWrong : ChangeSpec := { name := "tokensSplits", fn := fun _ => fun
  | [d1, d2] => { results := [.lit (.bool false)], args := [d1, d2] }
  | _ => none }
def TokensSplitsWrongFalsely : Prop := tokensSplitsRow.holds Try.pinned (OpenSpec.ofChange tokensSplitsWrong)

/-- 'bindlelaw11.TokensEach': WHATEVER THE INPUT: true; the input reads as it did. -/
def tokensEachSpec : ChangeSpec := { name := "tokensEach", fn := fun _ => fun
  | [d1, d2, d3] => { results := [.lit (.bool true)], args := [d1, d2, d3] }
  | _ => none }
def tokensEachRow : OpenClaim := { program := "ytodgnegbaigdbaa", sum := "e6657d7de6eb342827a48ff604e87007f2fd77614c790ed0a69b6d2cbd9755fd", func := "bindle/bindlelaw11.TokensEach", spec := "tokensEach", unfollowed := true, recurses := true, apart := false }
def TokensEachSaid : Prop := tokensEachRow.holds Try.pinned (OpenSpec.ofChange tokensEachSpec)

/-- ITS FALSE NEIGHBOUR: 'it returns false'. Refute it at one input. -/
def tokensEachWrong : ChangeSpec := { name := "tokensEach", fn := fun _ => fun
  | [d1, d2, d3] => { results := [.lit (.bool false)], args := [d1, d2, d3] }
  | _ => none }
def TokensEachWrongFalsely : Prop := tokensEachRow.holds Try.pinned (OpenSpec.ofChange tokensEachWrong)

/-- 'bindlelaw35.ChainPrevs': WHATEVER THE INPUT: true; the input reads as it did. -/
def chainPrevsSpec : ChangeSpec := { name := "chainPrevs", fn := fun _ => fun
  | [d1, d2] => { results := [.lit (.bool true)], args := [d1, d2] }
  | _ => none }
def chainPrevsRow : OpenClaim := { program := "ytodgnegbaigdbaa", sum := "e6657d7de6eb342827a48ff604e87007f2fd77614c790ed0a69b6d2cbd9755fd", func := "bindle/bindlelaw35.ChainPrevs", spec := "chainPrevs", unfollowed := true, recurses := true, apart := false }
def ChainPrevsSaid : Prop := chainPrevsRow.holds Try.pinned (OpenSpec.ofChange chainPrevsSpec)

/-- ITS FALSE NEIGHBOUR: 'it returns false'. Refute it at one input. -/
def chainPrevsWrong : ChangeSpec := { name := "chainPrevs", fn := fun _ => fun
  | [d1, d2] => { results := [.lit (.bool false)], args := [d1, d2] }
  | _ => none }
def ChainPrevsWrongFalsely : Prop := chainPrevsRow.holds Try.pinned (OpenSpec.ofChange chainPrevsWrong)

/-- 'bindlelaw35.ChainSplits': WHATEVER THE INPUT: true; the input reads as it did. -/
def chainSplitsSpec : ChangeSpec := { name := "chainSplits", fn := fun _ => fun
  | [d1, d2, d3] => { results := [.lit (.bool true)], args := [d1, d2, d3] }
  | _ => none }
def chainSplitsRow : OpenClaim := { program := "ytodgnegbaigdbaa", sum := "e6657d7de6eb342827a48ff604e87007f2fd77614c790ed0a69b6d2cbd9755fd", func := "bindle/bindlelaw35.ChainSplits", spec := "chainSplits", unfollowed := true, recurses := true, apart := false }
def ChainSplitsSaid : Prop := chainSplitsRow.holds Try.pinned (OpenSpec.ofChange chainSplitsSpec)

/-- ITS FALSE NEIGHBOUR: 'it returns false'. Refute it at one input. -/
def chainSplitsWrong : ChangeSpec := { name := "chainSplits", fn := fun _ => fun
  | [d1, d2, d3] => { results := [.lit (.bool false)], args := [d1, d2, d3] }
  | _ => none }
def ChainSplitsWrongFalsely : Prop := chainSplitsRow.holds Try.pinned (OpenSpec.ofChange chainSplitsWrong)

/-- 'bindlelaw11.TokensExpands': WHATEVER THE INPUT: true; the input reads as it did. -/
def tokensExpandsSpec : ChangeSpec := { name := "tokensExpands", fn := fun _ => fun
  | [d1, d2] => { results := [.lit (.bool true)], args := [d1, d2] }
  | _ => none }
def tokensExpandsRow : OpenClaim := { program := "ytodgnegbaigdbaa", sum := "e6657d7de6eb342827a48ff604e87007f2fd77614c790ed0a69b6d2cbd9755fd", func := "bindle/bindlelaw11.TokensExpands", spec := "tokensExpands", unfollowed := true, recurses := true, apart := false }
def TokensExpandsSaid : Prop := tokensExpandsRow.holds Try.pinned (OpenSpec.ofChange tokensExpandsSpec)

/-- ITS FALSE NEIGHBOUR: 'it returns false'. Refute it at one input. -/
def tokensExpandsWrong : ChangeSpec := { name := "tokensExpands", fn := fun _ => fun
  | [d1, d2] => { results := [.lit (.bool false)], args := [d1, d2] }
  | _ => none }
def TokensExpandsWrongFalsely : Prop := tokensExpandsRow.holds Try.pinned (OpenSpec.ofChange tokensExpandsWrong)

/-- 'bindlelaw11.TokensBack': WHATEVER THE INPUT: true; the input reads as it did. -/
def tokensBackSpec : ChangeSpec := { name := "tokensBack", fn := fun _ => fun
  | [d1, d2] => { results := [.lit (.bool true)], args := [d1, d2] }
  | _ => none }
def tokensBackRow : OpenClaim := { program := "ytodgnegbaigdbaa", sum := "e6657d7de6eb342827a48ff604e87007f2fd77614c790ed0a69b6d2cbd9755fd", func := "bindle/bindlelaw11.TokensBack", spec := "tokensBack", unfollowed := true, recurses := true, apart := false }
def TokensBackSaid : Prop := tokensBackRow.holds Try.pinned (OpenSpec.ofChange tokensBackSpec)

/-- ITS FALSE NEIGHBOUR: 'it returns false'. Refute it at one input. -/
def tokensBackWrong : ChangeSpec := { name := "tokensBack", fn := fun _ => fun
  | [d1, d2] => { results := [.lit (.bool false)], args := [d1, d2] }
  | _ => none }
def TokensBackWrongFalsely : Prop := tokensBackRow.holds Try.pinned (OpenSpec.ofChange tokensBackWrong)

/-- 'bindlelaw35.ChainSame': WHATEVER THE INPUT: true; the input reads as it did. -/
def chainSameSpec : ChangeSpec := { name := "chainSame", fn := fun _ => fun
  | [d1, d2, d3] => { results := [.lit (.bool true)], args := [d1, d2, d3] }
  | _ => none }
def chainSameRow : OpenClaim := { program := "ytodgnegbaigdbaa", sum := "e6657d7de6eb342827a48ff604e87007f2fd77614c790ed0a69b6d2cbd9755fd", func := "bindle/bindlelaw35.ChainSame", spec := "chainSame", unfollowed := true, recurses := true, apart := false }
def ChainSameSaid : Prop := chainSameRow.holds Try.pinned (OpenSpec.ofChange chainSameSpec)

/-- ITS FALSE NEIGHBOUR: 'it returns false'. Refute it at one input. -/
def chainSameWrong : ChangeSpec := { name := "chainSame", fn := fun _ => fun
  | [d1, d2, d3] => { results := [.lit (.bool false)], args := [d1, d2, d3] }
  | _ => none }
def ChainSameWrongFalsely : Prop := chainSameRow.holds Try.pinned (OpenSpec.ofChange chainSameWrong)

/- THE SECOND FORM. 'bulk': how many values and letters a reading holds, each counted each time it is reached (what is shared counts as often as it is met; a slice's spare places count too). A statement '..UptoSaid' is the law's where the arguments, and the package variables that the reading takes, are together of bulk at most 1048576: NARROWER than '..Said'. Prove '..Said' where nothing that the law and all that it calls make is longer than what came in: it says more and counts as full. Else prove '..UptoSaid'. A law counts once. -/
mutual
def uptoBulk {H : Type} : DataW H → Nat
  | .lit (.string bytes) => bytes.length + 1
  | .lit _ => 1
  | .nil => 1
  | .ptr d => uptoBulk d + 1
  | .slice elems spare => uptoBulkAll elems + uptoBulkAll spare + 1
  | .agg parts => uptoBulkAll parts + 1
  | .iface _ d => uptoBulk d + 1
  | .map entries => uptoBulkEntries entries + 1
  | .held _ => 1
def uptoBulkAll {H : Type} : List (DataW H) → Nat
  | [] => 0
  | d :: r => uptoBulk d + uptoBulkAll r
def uptoBulkEntries {H : Type} : List (Lit × DataW H) → Nat
  | [] => 0
  | x :: r => uptoBulkEntry x + uptoBulkEntries r
def uptoBulkEntry {H : Type} : Lit × DataW H → Nat
  | (.string bytes, d) => bytes.length + uptoBulk d + 1
  | (_, d) => uptoBulk d + 1
 end
def uptoSmall : (H : Type) → List (DataW H) → Bool := fun _ ds => decide (uptoBulkAll ds ≤ 1048576)
def OpenSpec.upto (s : _root_.Go.ChangeSpec) : _root_.Go.OpenSpec := { _root_.Go.OpenSpec.ofChange s with cond := some uptoSmall }

/-- 'bindlelaw35.ChainHashes', WHERE WHAT IT READS IS OF BULK AT MOST 1048576: true; the input reads as it did. -/
def chainHashesUptoRow : OpenClaim := { program := "ytodgnegbaigdbaa", sum := "e6657d7de6eb342827a48ff604e87007f2fd77614c790ed0a69b6d2cbd9755fd", func := "bindle/bindlelaw35.ChainHashes", spec := "chainHashes", apart := false, narrowed := true }
def ChainHashesUptoSaid : Prop := chainHashesUptoRow.holds Try.pinned (OpenSpec.upto chainHashesSpec)

/-- 'bindlelaw35.ChainFinds', WHERE WHAT IT READS IS OF BULK AT MOST 1048576: true; the input reads as it did. -/
def chainFindsUptoRow : OpenClaim := { program := "ytodgnegbaigdbaa", sum := "e6657d7de6eb342827a48ff604e87007f2fd77614c790ed0a69b6d2cbd9755fd", func := "bindle/bindlelaw35.ChainFinds", spec := "chainFinds", apart := false, narrowed := true }
def ChainFindsUptoSaid : Prop := chainFindsUptoRow.holds Try.pinned (OpenSpec.upto chainFindsSpec)

/-- 'bindlelaw10.MatchLens', WHERE WHAT IT READS IS OF BULK AT MOST 1048576: true; the input reads as it did. -/
def matchLensUptoRow : OpenClaim := { program := "ytodgnegbaigdbaa", sum := "e6657d7de6eb342827a48ff604e87007f2fd77614c790ed0a69b6d2cbd9755fd", func := "bindle/bindlelaw10.MatchLens", spec := "matchLens", unfollowed := true, recurses := true, apart := false, narrowed := true }
def MatchLensUptoSaid : Prop := matchLensUptoRow.holds Try.pinned (OpenSpec.upto matchLensSpec)

/-- 'bindlelaw10.MatchThere', WHERE WHAT IT READS IS OF BULK AT MOST 1048576: true; the input reads as it did. -/
def matchThereUptoRow : OpenClaim := { program := "ytodgnegbaigdbaa", sum := "e6657d7de6eb342827a48ff604e87007f2fd77614c790ed0a69b6d2cbd9755fd", func := "bindle/bindlelaw10.MatchThere", spec := "matchThere", unfollowed := true, recurses := true, apart := false, narrowed := true }
def MatchThereUptoSaid : Prop := matchThereUptoRow.holds Try.pinned (OpenSpec.upto matchThereSpec)

/-- 'bindlelaw10.MatchBests', WHERE WHAT IT READS IS OF BULK AT MOST 1048576: true; the input reads as it did. -/
def matchBestsUptoRow : OpenClaim := { program := "ytodgnegbaigdbaa", sum := "e6657d7de6eb342827a48ff604e87007f2fd77614c790ed0a69b6d2cbd9755fd", func := "bindle/bindlelaw10.MatchBests", spec := "matchBests", unfollowed := true, recurses := true, apart := false, narrowed := true }
def MatchBestsUptoSaid : Prop := matchBestsUptoRow.holds Try.pinned (OpenSpec.upto matchBestsSpec)

/-- 'bindlelaw10.MatchChains', WHERE WHAT IT READS IS OF BULK AT MOST 1048576: true; the input reads as it did. -/
def matchChainsUptoRow : OpenClaim := { program := "ytodgnegbaigdbaa", sum := "e6657d7de6eb342827a48ff604e87007f2fd77614c790ed0a69b6d2cbd9755fd", func := "bindle/bindlelaw10.MatchChains", spec := "matchChains", unfollowed := true, recurses := true, apart := false, narrowed := true }
def MatchChainsUptoSaid : Prop := matchChainsUptoRow.holds Try.pinned (OpenSpec.upto matchChainsSpec)

/-- 'bindlelaw11.TokensSplits', WHERE WHAT IT READS IS OF BULK AT MOST 1048576: true; the input reads as it did. -/
def tokensSplitsUptoRow : OpenClaim := { program := "ytodgnegbaigdbaa", sum := "e6657d7de6eb342827a48ff604e87007f2fd77614c790ed0a69b6d2cbd9755fd", func := "bindle/bindlelaw11.TokensSplits", spec := "tokensSplits", unfollowed := true, recurses := true, apart := false, narrowed := true }
def TokensSplitsUptoSaid : Prop := tokensSplitsUptoRow.holds Try.pinned (OpenSpec.upto tokensSplitsSpec)

/-- 'bindlelaw11.TokensEach', WHERE WHAT IT READS IS OF BULK AT MOST 1048576: true; the input reads as it did. -/
def tokensEachUptoRow : OpenClaim := { program := "ytodgnegbaigdbaa", sum := "e6657d7de6eb342827a48ff604e87007f2fd77614c790ed0a69b6d2cbd9755fd", func := "bindle/bindlelaw11.TokensEach", spec := "tokensEach", unfollowed := true, recurses := true, apart := false, narrowed := true }
def TokensEachUptoSaid : Prop := tokensEachUptoRow.holds Try.pinned (OpenSpec.upto tokensEachSpec)

/-- 'bindlelaw35.ChainPrevs', WHERE WHAT IT READS IS OF BULK AT MOST 1048576: true; the input reads as it did. -/
def chainPrevsUptoRow : OpenClaim := { program := "ytodgnegbaigdbaa", sum := "e6657d7de6eb342827a48ff604e87007f2fd77614c790ed0a69b6d2cbd9755fd", func := "bindle/bindlelaw35.ChainPrevs", spec := "chainPrevs", unfollowed := true, recurses := true, apart := false, narrowed := true }
def ChainPrevsUptoSaid : Prop := chainPrevsUptoRow.holds Try.pinned (OpenSpec.upto chainPrevsSpec)

/-- 'bindlelaw35.ChainSplits', WHERE WHAT IT READS IS OF BULK AT MOST 1048576: true; the input reads as it did. -/
def chainSplitsUptoRow : OpenClaim := { program := "ytodgnegbaigdbaa", sum := "e6657d7de6eb342827a48ff604e87007f2fd77614c790ed0a69b6d2cbd9755fd", func := "bindle/bindlelaw35.ChainSplits", spec := "chainSplits", unfollowed := true, recurses := true, apart := false, narrowed := true }
def ChainSplitsUptoSaid : Prop := chainSplitsUptoRow.holds Try.pinned (OpenSpec.upto chainSplitsSpec)

/-- 'bindlelaw11.TokensExpands', WHERE WHAT IT READS IS OF BULK AT MOST 1048576: true; the input reads as it did. -/
def tokensExpandsUptoRow : OpenClaim := { program := "ytodgnegbaigdbaa", sum := "e6657d7de6eb342827a48ff604e87007f2fd77614c790ed0a69b6d2cbd9755fd", func := "bindle/bindlelaw11.TokensExpands", spec := "tokensExpands", unfollowed := true, recurses := true, apart := false, narrowed := true }
def TokensExpandsUptoSaid : Prop := tokensExpandsUptoRow.holds Try.pinned (OpenSpec.upto tokensExpandsSpec)

/-- 'bindlelaw11.TokensBack', WHERE WHAT IT READS IS OF BULK AT MOST 1048576: true; the input reads as it did. -/
def tokensBackUptoRow : OpenClaim := { program := "ytodgnegbaigdbaa", sum := "e6657d7de6eb342827a48ff604e87007f2fd77614c790ed0a69b6d2cbd9755fd", func := "bindle/bindlelaw11.TokensBack", spec := "tokensBack", unfollowed := true, recurses := true, apart := false, narrowed := true }
def TokensBackUptoSaid : Prop := tokensBackUptoRow.holds Try.pinned (OpenSpec.upto tokensBackSpec)

/-- 'bindlelaw35.ChainSame', WHERE WHAT IT READS IS OF BULK AT MOST 1048576: true; the input reads as it did. -/
def chainSameUptoRow : OpenClaim := { program := "ytodgnegbaigdbaa", sum := "e6657d7de6eb342827a48ff604e87007f2fd77614c790ed0a69b6d2cbd9755fd", func := "bindle/bindlelaw35.ChainSame", spec := "chainSame", unfollowed := true, recurses := true, apart := false, narrowed := true }
def ChainSameUptoSaid : Prop := chainSameUptoRow.holds Try.pinned (OpenSpec.upto chainSameSpec)

end Rows
end Go.Proofs.Ytodgnegbaigdbaa
