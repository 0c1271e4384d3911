/-
  No cell of these rows narrows 'for every input' (looked for: loops, veiled, ifaces, maps, wideKeys, modest, calm, conditions, laid).
  DERIVED. THE GIVEN ROWS OF THIS SEAT. 2 by the template 'for every input the law returns true; each argument reads behind the call as it read before'; 0 by the template 'total and deterministic' (their statements: YtlgkcbdpaffigaaGreatTotals.lean).
  GIVEN WITH THE SEED: the statements are not yours to turn. If you find one false, say at which input.
  Laid BY PROGRAM, IN A SANDBOX (cutbox-rows.mjs): the forced cells as the released guide's own fill.sh prints them over the translation 2b9f36fb08696095… (all of the seat's roots in one cut). By AI agents, Wed Nov 11 2026. No macro, syntax, notation, axiom, sorry.
-/
import Derived.Test.YtlgkcbdpaffigaaGreatChecked
import GoSem.Claim
import GoSem.ClaimJoined
import GoSem.ClaimMapViews
import Derived.JoinedTies
import Derived.KernelRfl
namespace Go.Proofs.YtlgkcbdpaffigaaGreat
/- THE CELL 'sum', in the pinned program and in every row, IS THE sha256 OF THE DUMP (.gsa) THAT YtlgkcbdpaffigaaGreatProg.lean LOADS. Nothing in Lean hashes anything: it is a label: what it is worth is what the hold of that sum in a sandbox is worth. -/
noncomputable def Tryz.pinned : Pinned := { name := "ytlgkcbdpaffigaagreat", sum := "2b9f36fb08696095c066f3a81639bde02a0dc5925bc343db8c8ad8c8c3610e45", checked := Tryz.checked }
namespace Rows
def none {H : Type} : Left H := { results := [], args := [] }

/-- 'bindlelaw06.CrashfsPlays': WHATEVER THE INPUT: true; the input reads as it did. -/
def crashfsPlaysSpec : ChangeSpec := { name := "crashfsPlays", fn := fun _ => fun
  | [d1, d2] => { results := [.lit (.bool true)], args := [d1, d2] }
  | _ => none }
def crashfsPlaysRow : OpenClaim := { program := "ytlgkcbdpaffigaagreat", sum := "2b9f36fb08696095c066f3a81639bde02a0dc5925bc343db8c8ad8c8c3610e45", func := "bindle/bindlelaw06.CrashfsPlays", spec := "crashfsPlays", inPlace := ["maps.clone"], unfollowed := true, recurses := true, apart := false }
def CrashfsPlaysSaid : Prop := crashfsPlaysRow.holds Tryz.pinned (OpenSpec.ofChange crashfsPlaysSpec)

/-- ITS FALSE NEIGHBOUR: 'it returns false'. Refute it at one input. -/
def crashfsPlaysWrong : ChangeSpec := { name := "crashfsPlays", fn := fun _ => fun
  | [d1, d2] => { results := [.lit (.bool false)], args := [d1, d2] }
  | _ => none }
def CrashfsPlaysWrongFalsely : Prop := crashfsPlaysRow.holds Tryz.pinned (OpenSpec.ofChange crashfsPlaysWrong)

/-- 'bindlelaw06.CrashfsRefuses': WHATEVER THE INPUT: true; the input reads as it did. -/
def crashfsRefusesSpec : ChangeSpec := { name := "crashfsRefuses", fn := fun _ => fun
  | [d1, d2, d3] => { results := [.lit (.bool true)], args := [d1, d2, d3] }
  | _ => none }
def crashfsRefusesRow : OpenClaim := { program := "ytlgkcbdpaffigaagreat", sum := "2b9f36fb08696095c066f3a81639bde02a0dc5925bc343db8c8ad8c8c3610e45", func := "bindle/bindlelaw06.CrashfsRefuses", spec := "crashfsRefuses", inPlace := ["maps.clone"], unfollowed := true, recurses := true, apart := false }
def CrashfsRefusesSaid : Prop := crashfsRefusesRow.holds Tryz.pinned (OpenSpec.ofChange crashfsRefusesSpec)

/-- ITS FALSE NEIGHBOUR: 'it returns false'. Refute it at one input. -/
def crashfsRefusesWrong : ChangeSpec := { name := "crashfsRefuses", fn := fun _ => fun
  | [d1, d2, d3] => { results := [.lit (.bool false)], args := [d1, d2, d3] }
  | _ => none }
def CrashfsRefusesWrongFalsely : Prop := crashfsRefusesRow.holds Tryz.pinned (OpenSpec.ofChange crashfsRefusesWrong)

/- THE SECOND FORM. 'bulk': how many values and letters a reading holds, each counted each time it is reached (what is shared counts as often as it is met; a slice's spare places count too). A statement '..UptoSaid' is the law's where the arguments, and the package variables that the reading takes, are together of bulk at most 1048576: NARROWER than '..Said'. Prove '..Said' where nothing that the law and all that it calls make is longer than what came in: it says more and counts as full. Else prove '..UptoSaid'. A law counts once. -/
mutual
def uptoBulk {H : Type} : DataW H → Nat
  | .lit (.string bytes) => bytes.length + 1
  | .lit _ => 1
  | .nil => 1
  | .ptr d => uptoBulk d + 1
  | .slice elems spare => uptoBulkAll elems + uptoBulkAll spare + 1
  | .agg parts => uptoBulkAll parts + 1
  | .iface _ d => uptoBulk d + 1
  | .map entries => uptoBulkEntries entries + 1
  | .held _ => 1
def uptoBulkAll {H : Type} : List (DataW H) → Nat
  | [] => 0
  | d :: r => uptoBulk d + uptoBulkAll r
def uptoBulkEntries {H : Type} : List (Lit × DataW H) → Nat
  | [] => 0
  | x :: r => uptoBulkEntry x + uptoBulkEntries r
def uptoBulkEntry {H : Type} : Lit × DataW H → Nat
  | (.string bytes, d) => bytes.length + uptoBulk d + 1
  | (_, d) => uptoBulk d + 1
 end
def uptoSmall : (H : Type) → List (DataW H) → Bool := fun _ ds => decide (uptoBulkAll ds ≤ 1048576)
def OpenSpec.upto (s : _root_.Go.ChangeSpec) : _root_.Go.OpenSpec := { _root_.Go.OpenSpec.ofChange s with cond := some uptoSmall }

/-- 'bindlelaw06.CrashfsPlays', WHERE WHAT IT READS IS OF BULK AT MOST 1048576: true; the input reads as it did. -/
def crashfsPlaysUptoRow : OpenClaim := { program := "ytlgkcbdpaffigaagreat", sum := "2b9f36fb08696095c066f3a81639bde02a0dc5925bc343db8c8ad8c8c3610e45", func := "bindle/bindlelaw06.CrashfsPlays", spec := "crashfsPlays", inPlace := ["maps.clone"], unfollowed := true, recurses := true, apart := false, narrowed := true }
def CrashfsPlaysUptoSaid : Prop := crashfsPlaysUptoRow.holds Tryz.pinned (OpenSpec.upto crashfsPlaysSpec)

/-- 'bindlelaw06.CrashfsRefuses', WHERE WHAT IT READS IS OF BULK AT MOST 1048576: true; the input reads as it did. -/
def crashfsRefusesUptoRow : OpenClaim := { program := "ytlgkcbdpaffigaagreat", sum := "2b9f36fb08696095c066f3a81639bde02a0dc5925bc343db8c8ad8c8c3610e45", func := "bindle/bindlelaw06.CrashfsRefuses", spec := "crashfsRefuses", inPlace := ["maps.clone"], unfollowed := true, recurses := true, apart := false, narrowed := true }
def CrashfsRefusesUptoSaid : Prop := crashfsRefusesUptoRow.holds Tryz.pinned (OpenSpec.upto crashfsRefusesSpec)

end Rows
end Go.Proofs.YtlgkcbdpaffigaaGreat
