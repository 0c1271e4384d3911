/-
  No cell of these rows narrows 'for every input' (looked for: loops, veiled, ifaces, maps, wideKeys, modest, calm, conditions, laid).
  DERIVED. THE GIVEN ROWS OF THIS SEAT. 9 by the template 'for every input the law returns true; each argument reads behind the call as it read before'; 0 by the template 'total and deterministic' (their statements: YtlgkcbdpaffigaaTotals.lean).
  GIVEN WITH THE SEED: the statements are not yours to turn. If you find one false, say at which input.
  Laid BY PROGRAM, IN A SANDBOX (cutbox-rows.mjs): the forced cells as the released guide's own fill.sh prints them over the translation f27de9e49c1ee27f… (all of the seat's roots in one cut). By AI agents, Wed Nov 11 2026. No macro, syntax, notation, axiom, sorry.
-/
import Derived.Test.YtlgkcbdpaffigaaChecked
import GoSem.Claim
import GoSem.ClaimJoined
import GoSem.ClaimMapViews
import Derived.JoinedTies
import Derived.KernelRfl
namespace Go.Proofs.Ytlgkcbdpaffigaa
/- THE CELL 'sum', in the pinned program and in every row, IS THE sha256 OF THE DUMP (.gsa) THAT YtlgkcbdpaffigaaProg.lean LOADS. Nothing in Lean hashes anything: it is a label: what it is worth is what the hold of that sum in a sandbox is worth. -/
noncomputable def Try.pinned : Pinned := { name := "ytlgkcbdpaffigaa", sum := "f27de9e49c1ee27fc92b3ff0d0dd39999a824042df41690b199107dc9dcc4ff0", checked := Try.checked }
namespace Rows
def none {H : Type} : Left H := { results := [], args := [] }

/-- 'bindlelaw04.DiskPlays': WHATEVER THE INPUT: true; the input reads as it did. -/
def diskPlaysSpec : ChangeSpec := { name := "diskPlays", fn := fun _ => fun
  | [d] => { results := [.lit (.bool true)], args := [d] }
  | _ => none }
def diskPlaysRow : OpenClaim := { program := "ytlgkcbdpaffigaa", sum := "f27de9e49c1ee27fc92b3ff0d0dd39999a824042df41690b199107dc9dcc4ff0", func := "bindle/bindlelaw04.DiskPlays", spec := "diskPlays", apart := false }
def DiskPlaysSaid : Prop := diskPlaysRow.holds Try.pinned (OpenSpec.ofChange diskPlaysSpec)

/-- ITS FALSE NEIGHBOUR: 'it returns false'. Refute it at one input. -/
def diskPlaysWrong : ChangeSpec := { name := "diskPlays", fn := fun _ => fun
  | [d] => { results := [.lit (.bool false)], args := [d] }
  | _ => none }
def DiskPlaysWrongFalsely : Prop := diskPlaysRow.holds Try.pinned (OpenSpec.ofChange diskPlaysWrong)

/-- 'bindlelaw04.DiskSynced': WHATEVER THE INPUT: true; the input reads as it did. -/
def diskSyncedSpec : ChangeSpec := { name := "diskSynced", fn := fun _ => fun
  | [d1, d2] => { results := [.lit (.bool true)], args := [d1, d2] }
  | _ => none }
def diskSyncedRow : OpenClaim := { program := "ytlgkcbdpaffigaa", sum := "f27de9e49c1ee27fc92b3ff0d0dd39999a824042df41690b199107dc9dcc4ff0", func := "bindle/bindlelaw04.DiskSynced", spec := "diskSynced", apart := false }
def DiskSyncedSaid : Prop := diskSyncedRow.holds Try.pinned (OpenSpec.ofChange diskSyncedSpec)

/-- ITS FALSE NEIGHBOUR: 'it returns false'. Refute it at one input. -/
def diskSyncedWrong : ChangeSpec := { name := "diskSynced", fn := fun _ => fun
  | [d1, d2] => { results := [.lit (.bool false)], args := [d1, d2] }
  | _ => none }
def DiskSyncedWrongFalsely : Prop := diskSyncedRow.holds Try.pinned (OpenSpec.ofChange diskSyncedWrong)

/-- 'bindlelaw04.DiskWhole': WHATEVER THE INPUT: true; the input reads as it did. -/
def diskWholeSpec : ChangeSpec := { name := "diskWhole", fn := fun _ => fun
  | [d] => { results := [.lit (.bool true)], args := [d] }
  | _ => none }
def diskWholeRow : OpenClaim := { program := "ytlgkcbdpaffigaa", sum := "f27de9e49c1ee27fc92b3ff0d0dd39999a824042df41690b199107dc9dcc4ff0", func := "bindle/bindlelaw04.DiskWhole", spec := "diskWhole", apart := false }
def DiskWholeSaid : Prop := diskWholeRow.holds Try.pinned (OpenSpec.ofChange diskWholeSpec)

/-- ITS FALSE NEIGHBOUR: 'it returns false'. Refute it at one input. -/
def diskWholeWrong : ChangeSpec := { name := "diskWhole", fn := fun _ => fun
  | [d] => { results := [.lit (.bool false)], args := [d] }
  | _ => none }
def DiskWholeWrongFalsely : Prop := diskWholeRow.holds Try.pinned (OpenSpec.ofChange diskWholeWrong)

/-- 'bindlelaw06.CrashfsKeeps': WHATEVER THE INPUT: true; the input reads as it did. -/
def crashfsKeepsSpec : ChangeSpec := { name := "crashfsKeeps", fn := fun _ => fun
  | [d1, d2] => { results := [.lit (.bool true)], args := [d1, d2] }
  | _ => none }
def crashfsKeepsRow : OpenClaim := { program := "ytlgkcbdpaffigaa", sum := "f27de9e49c1ee27fc92b3ff0d0dd39999a824042df41690b199107dc9dcc4ff0", func := "bindle/bindlelaw06.CrashfsKeeps", spec := "crashfsKeeps", inPlace := ["maps.clone"], unfollowed := true, recurses := true, apart := false }
def CrashfsKeepsSaid : Prop := crashfsKeepsRow.holds Try.pinned (OpenSpec.ofChange crashfsKeepsSpec)

/-- ITS FALSE NEIGHBOUR: 'it returns false'. Refute it at one input. -/
def crashfsKeepsWrong : ChangeSpec := { name := "crashfsKeeps", fn := fun _ => fun
  | [d1, d2] => { results := [.lit (.bool false)], args := [d1, d2] }
  | _ => none }
def CrashfsKeepsWrongFalsely : Prop := crashfsKeepsRow.holds Try.pinned (OpenSpec.ofChange crashfsKeepsWrong)

/-- 'bindlelaw05.NamesCrash': WHATEVER THE INPUT: true; the input reads as it did. -/
def namesCrashSpec : ChangeSpec := { name := "namesCrash", fn := fun _ => fun
  | [d1, d2] => { results := [.lit (.bool true)], args := [d1, d2] }
  | _ => none }
def namesCrashRow : OpenClaim := { program := "ytlgkcbdpaffigaa", sum := "f27de9e49c1ee27fc92b3ff0d0dd39999a824042df41690b199107dc9dcc4ff0", func := "bindle/bindlelaw05.NamesCrash", spec := "namesCrash", inPlace := ["maps.clone"], unfollowed := true, recurses := true, apart := false }
def NamesCrashSaid : Prop := namesCrashRow.holds Try.pinned (OpenSpec.ofChange namesCrashSpec)

/-- ITS FALSE NEIGHBOUR: 'it returns false'. Refute it at one input. -/
def namesCrashWrong : ChangeSpec := { name := "namesCrash", fn := fun _ => fun
  | [d1, d2] => { results := [.lit (.bool false)], args := [d1, d2] }
  | _ => none }
def NamesCrashWrongFalsely : Prop := namesCrashRow.holds Try.pinned (OpenSpec.ofChange namesCrashWrong)

/-- 'bindlelaw05.NamesMoved': WHATEVER THE INPUT: true; the input reads as it did. -/
def namesMovedSpec : ChangeSpec := { name := "namesMoved", fn := fun _ => fun
  | [d1, d2] => { results := [.lit (.bool true)], args := [d1, d2] }
  | _ => none }
def namesMovedRow : OpenClaim := { program := "ytlgkcbdpaffigaa", sum := "f27de9e49c1ee27fc92b3ff0d0dd39999a824042df41690b199107dc9dcc4ff0", func := "bindle/bindlelaw05.NamesMoved", spec := "namesMoved", inPlace := ["maps.clone"], unfollowed := true, recurses := true, apart := false }
def NamesMovedSaid : Prop := namesMovedRow.holds Try.pinned (OpenSpec.ofChange namesMovedSpec)

/-- ITS FALSE NEIGHBOUR: 'it returns false'. Refute it at one input. -/
def namesMovedWrong : ChangeSpec := { name := "namesMoved", fn := fun _ => fun
  | [d1, d2] => { results := [.lit (.bool false)], args := [d1, d2] }
  | _ => none }
def NamesMovedWrongFalsely : Prop := namesMovedRow.holds Try.pinned (OpenSpec.ofChange namesMovedWrong)

/-- 'bindlelaw05.NamesPlay': WHATEVER THE INPUT: true; the input reads as it did. -/
def namesPlaySpec : ChangeSpec := { name := "namesPlay", fn := fun _ => fun
  | [d] => { results := [.lit (.bool true)], args := [d] }
  | _ => none }
def namesPlayRow : OpenClaim := { program := "ytlgkcbdpaffigaa", sum := "f27de9e49c1ee27fc92b3ff0d0dd39999a824042df41690b199107dc9dcc4ff0", func := "bindle/bindlelaw05.NamesPlay", spec := "namesPlay", inPlace := ["maps.clone"], unfollowed := true, recurses := true, apart := false }
def NamesPlaySaid : Prop := namesPlayRow.holds Try.pinned (OpenSpec.ofChange namesPlaySpec)

/-- ITS FALSE NEIGHBOUR: 'it returns false'. Refute it at one input. -/
def namesPlayWrong : ChangeSpec := { name := "namesPlay", fn := fun _ => fun
  | [d] => { results := [.lit (.bool false)], args := [d] }
  | _ => none }
def NamesPlayWrongFalsely : Prop := namesPlayRow.holds Try.pinned (OpenSpec.ofChange namesPlayWrong)

/-- 'bindlelaw05.NamesLook': WHATEVER THE INPUT: true; the input reads as it did. -/
def namesLookSpec : ChangeSpec := { name := "namesLook", fn := fun _ => fun
  | [d1, d2, d3] => { results := [.lit (.bool true)], args := [d1, d2, d3] }
  | _ => none }
def namesLookRow : OpenClaim := { program := "ytlgkcbdpaffigaa", sum := "f27de9e49c1ee27fc92b3ff0d0dd39999a824042df41690b199107dc9dcc4ff0", func := "bindle/bindlelaw05.NamesLook", spec := "namesLook", inPlace := ["maps.clone"], unfollowed := true, recurses := true, apart := false }
def NamesLookSaid : Prop := namesLookRow.holds Try.pinned (OpenSpec.ofChange namesLookSpec)

/-- ITS FALSE NEIGHBOUR: 'it returns false'. Refute it at one input. -/
def namesLookWrong : ChangeSpec := { name := "namesLook", fn := fun _ => fun
  | [d1, d2, d3] => { results := [.lit (.bool false)], args := [d1, d2, d3] }
  | _ => none }
def NamesLookWrongFalsely : Prop := namesLookRow.holds Try.pinned (OpenSpec.ofChange namesLookWrong)

/-- 'bindlelaw06.CrashfsNone': WHATEVER THE INPUT: true; the input reads as it did. -/
def crashfsNoneSpec : ChangeSpec := { name := "crashfsNone", fn := fun _ => fun
  | [d1, d2] => { results := [.lit (.bool true)], args := [d1, d2] }
  | _ => none }
def crashfsNoneRow : OpenClaim := { program := "ytlgkcbdpaffigaa", sum := "f27de9e49c1ee27fc92b3ff0d0dd39999a824042df41690b199107dc9dcc4ff0", func := "bindle/bindlelaw06.CrashfsNone", spec := "crashfsNone", inPlace := ["maps.clone"], unfollowed := true, recurses := true, apart := false }
def CrashfsNoneSaid : Prop := crashfsNoneRow.holds Try.pinned (OpenSpec.ofChange crashfsNoneSpec)

/-- ITS FALSE NEIGHBOUR: 'it returns false'. Refute it at one input. -/
def crashfsNoneWrong : ChangeSpec := { name := "crashfsNone", fn := fun _ => fun
  | [d1, d2] => { results := [.lit (.bool false)], args := [d1, d2] }
  | _ => none }
def CrashfsNoneWrongFalsely : Prop := crashfsNoneRow.holds Try.pinned (OpenSpec.ofChange crashfsNoneWrong)

/- THE SECOND FORM. 'bulk': how many values and letters a reading holds, each counted each time it is reached (what is shared counts as often as it is met; a slice's spare places count too). A statement '..UptoSaid' is the law's where the arguments, and the package variables that the reading takes, are together of bulk at most 1048576: NARROWER than '..Said'. Prove '..Said' where nothing that the law and all that it calls make is longer than what came in: it says more and counts as full. Else prove '..UptoSaid'. A law counts once. -/
mutual
def uptoBulk {H : Type} : DataW H → Nat
  | .lit (.string bytes) => bytes.length + 1
  | .lit _ => 1
  | .nil => 1
  | .ptr d => uptoBulk d + 1
  | .slice elems spare => uptoBulkAll elems + uptoBulkAll spare + 1
  | .agg parts => uptoBulkAll parts + 1
  | .iface _ d => uptoBulk d + 1
  | .map entries => uptoBulkEntries entries + 1
  | .held _ => 1
def uptoBulkAll {H : Type} : List (DataW H) → Nat
  | [] => 0
  | d :: r => uptoBulk d + uptoBulkAll r
def uptoBulkEntries {H : Type} : List (Lit × DataW H) → Nat
  | [] => 0
  | x :: r => uptoBulkEntry x + uptoBulkEntries r
def uptoBulkEntry {H : Type} : Lit × DataW H → Nat
  | (.string bytes, d) => bytes.length + uptoBulk d + 1
  | (_, d) => uptoBulk d + 1
 end
def uptoSmall : (H : Type) → List (DataW H) → Bool := fun _ ds => decide (uptoBulkAll ds ≤ 1048576)
def OpenSpec.upto (s : _root_.Go.ChangeSpec) : _root_.Go.OpenSpec := { _root_.Go.OpenSpec.ofChange s with cond := some uptoSmall }

/-- 'bindlelaw04.DiskPlays', WHERE WHAT IT READS IS OF BULK AT MOST 1048576: true; the input reads as it did. -/
def diskPlaysUptoRow : OpenClaim := { program := "ytlgkcbdpaffigaa", sum := "f27de9e49c1ee27fc92b3ff0d0dd39999a824042df41690b199107dc9dcc4ff0", func := "bindle/bindlelaw04.DiskPlays", spec := "diskPlays", apart := false, narrowed := true }
def DiskPlaysUptoSaid : Prop := diskPlaysUptoRow.holds Try.pinned (OpenSpec.upto diskPlaysSpec)

/-- 'bindlelaw04.DiskSynced', WHERE WHAT IT READS IS OF BULK AT MOST 1048576: true; the input reads as it did. -/
def diskSyncedUptoRow : OpenClaim := { program := "ytlgkcbdpaffigaa", sum := "f27de9e49c1ee27fc92b3ff0d0dd39999a824042df41690b199107dc9dcc4ff0", func := "bindle/bindlelaw04.DiskSynced", spec := "diskSynced", apart := false, narrowed := true }
def DiskSyncedUptoSaid : Prop := diskSyncedUptoRow.holds Try.pinned (OpenSpec.upto diskSyncedSpec)

/-- 'bindlelaw04.DiskWhole', WHERE WHAT IT READS IS OF BULK AT MOST 1048576: true; the input reads as it did. -/
def diskWholeUptoRow : OpenClaim := { program := "ytlgkcbdpaffigaa", sum := "f27de9e49c1ee27fc92b3ff0d0dd39999a824042df41690b199107dc9dcc4ff0", func := "bindle/bindlelaw04.DiskWhole", spec := "diskWhole", apart := false, narrowed := true }
def DiskWholeUptoSaid : Prop := diskWholeUptoRow.holds Try.pinned (OpenSpec.upto diskWholeSpec)

/-- 'bindlelaw06.CrashfsKeeps', WHERE WHAT IT READS IS OF BULK AT MOST 1048576: true; the input reads as it did. -/
def crashfsKeepsUptoRow : OpenClaim := { program := "ytlgkcbdpaffigaa", sum := "f27de9e49c1ee27fc92b3ff0d0dd39999a824042df41690b199107dc9dcc4ff0", func := "bindle/bindlelaw06.CrashfsKeeps", spec := "crashfsKeeps", inPlace := ["maps.clone"], unfollowed := true, recurses := true, apart := false, narrowed := true }
def CrashfsKeepsUptoSaid : Prop := crashfsKeepsUptoRow.holds Try.pinned (OpenSpec.upto crashfsKeepsSpec)

/-- 'bindlelaw05.NamesCrash', WHERE WHAT IT READS IS OF BULK AT MOST 1048576: true; the input reads as it did. -/
def namesCrashUptoRow : OpenClaim := { program := "ytlgkcbdpaffigaa", sum := "f27de9e49c1ee27fc92b3ff0d0dd39999a824042df41690b199107dc9dcc4ff0", func := "bindle/bindlelaw05.NamesCrash", spec := "namesCrash", inPlace := ["maps.clone"], unfollowed := true, recurses := true, apart := false, narrowed := true }
def NamesCrashUptoSaid : Prop := namesCrashUptoRow.holds Try.pinned (OpenSpec.upto namesCrashSpec)

/-- 'bindlelaw05.NamesMoved', WHERE WHAT IT READS IS OF BULK AT MOST 1048576: true; the input reads as it did. -/
def namesMovedUptoRow : OpenClaim := { program := "ytlgkcbdpaffigaa", sum := "f27de9e49c1ee27fc92b3ff0d0dd39999a824042df41690b199107dc9dcc4ff0", func := "bindle/bindlelaw05.NamesMoved", spec := "namesMoved", inPlace := ["maps.clone"], unfollowed := true, recurses := true, apart := false, narrowed := true }
def NamesMovedUptoSaid : Prop := namesMovedUptoRow.holds Try.pinned (OpenSpec.upto namesMovedSpec)

/-- 'bindlelaw05.NamesPlay', WHERE WHAT IT READS IS OF BULK AT MOST 1048576: true; the input reads as it did. -/
def namesPlayUptoRow : OpenClaim := { program := "ytlgkcbdpaffigaa", sum := "f27de9e49c1ee27fc92b3ff0d0dd39999a824042df41690b199107dc9dcc4ff0", func := "bindle/bindlelaw05.NamesPlay", spec := "namesPlay", inPlace := ["maps.clone"], unfollowed := true, recurses := true, apart := false, narrowed := true }
def NamesPlayUptoSaid : Prop := namesPlayUptoRow.holds Try.pinned (OpenSpec.upto namesPlaySpec)

/-- 'bindlelaw05.NamesLook', WHERE WHAT IT READS IS OF BULK AT MOST 1048576: true; the input reads as it did. -/
def namesLookUptoRow : OpenClaim := { program := "ytlgkcbdpaffigaa", sum := "f27de9e49c1ee27fc92b3ff0d0dd39999a824042df41690b199107dc9dcc4ff0", func := "bindle/bindlelaw05.NamesLook", spec := "namesLook", inPlace := ["maps.clone"], unfollowed := true, recurses := true, apart := false, narrowed := true }
def NamesLookUptoSaid : Prop := namesLookUptoRow.holds Try.pinned (OpenSpec.upto namesLookSpec)

/-- 'bindlelaw06.CrashfsNone', WHERE WHAT IT READS IS OF BULK AT MOST 1048576: true; the input reads as it did. -/
def crashfsNoneUptoRow : OpenClaim := { program := "ytlgkcbdpaffigaa", sum := "f27de9e49c1ee27fc92b3ff0d0dd39999a824042df41690b199107dc9dcc4ff0", func := "bindle/bindlelaw06.CrashfsNone", spec := "crashfsNone", inPlace := ["maps.clone"], unfollowed := true, recurses := true, apart := false, narrowed := true }
def CrashfsNoneUptoSaid : Prop := crashfsNoneUptoRow.holds Try.pinned (OpenSpec.upto crashfsNoneSpec)

end Rows
end Go.Proofs.Ytlgkcbdpaffigaa
