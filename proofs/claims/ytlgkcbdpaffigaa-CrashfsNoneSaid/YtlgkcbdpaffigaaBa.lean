import Derived.Test.YtlgkcbdpaffigaaSxMap
import Derived.Test.YtlgkcbdpaffigaaProg
import Derived.Lib.AppendZerosOnto
namespace Go.Proofs.Ytlgkcbdpaffigaa
open Go Go.SX Go.Proofs
set_option maxRecDepth 100000
set_option linter.unusedVariables false

theorem noNGp : noNG Try.prog := by
  have h : (Try.prog.funcs.toList.all (fun fn => !(fn.name == "runtime.NumGoroutine"))) = true := by kernel_rfl
  exact h
theorem mixed : Try.prog.follows .mixedOrders = true := by kernel_rfl
theorem ent {k : FuncId} {fn : Func} {ann : List (Nat × LoopAnn)} {w : World} {R : Value → World → Prop} (args : List Value) (hf : Try.prog.funcs[k]? = some fn)
    (h : vcFn Try.prog ann fn (args.map SV.v) [] w (fun e w' => ∃ v, e = .returned v ∧ R v w')) : Rets Try.prog k args.toArray w R := by
  have := vcFn_sound noNGp mixed hf Sat.plain h
  simp only [List.map_map] at this
  have e : args.map (SV.val ∘ SV.v) = args := by
    rw [show (SV.val ∘ SV.v) = id from rfl]; simp
  rw [e] at this
  exact this
theorem ptr_some (a : Addr) (K : Addr → Prop) : Ptr (some a) K = K a := rfl
end Go.Proofs.Ytlgkcbdpaffigaa
