/- Going through strings. -/
import Derived.Test.YtbpknjldphckgaaDoorSxBig
import Derived.Lib.OthersKept
set_option linter.unusedSimpArgs false
set_option linter.unusedVariables false
namespace Go.SX
open Go Go.Lib
/-! ### Going through a string's code points -/
theorem range_str {P : Program} {w : World} {t : TypeId} {s : ByteArray} {K : Value → World → Prop} (ht : P.underlying t = some .string) (hK : K (.pointer (some ⟨w.heap.size, 0, none⟩)) (w.alloc (.stringIter s 0))) : Runs P (Instr.range t (.string s)) w K := by
  refine ⟨_, _, ?_, hK⟩
  simp [Instr.range, run_underlying ht]
theorem next_str {P : Program} {w : World} {r : Nat} {s : ByteArray} {pos : Nat} {ty : TypeId} {K : Value → World → Prop} (hr : w.heap[r]? = some (.stringIter s pos))
    (h1 : pos < s.size → K (.tuple #[.bool true, .int .i64 pos, .int .i32 (Utf8.decode s pos).1]) (w.putObj r (.stringIter s (pos + (Utf8.decode s pos).2)))) (h2 : ¬ pos < s.size → K (.tuple #[.bool false]) w) : Runs P (Instr.next (.pointer (some ⟨r, 0, none⟩)) true ty) w K := by
  by_cases h : pos < s.size
  · exact ⟨_, _, run_next_any_at w r s pos ty hr h, h1 h⟩
  · exact ⟨_, _, run_next_end_at w r s pos ty hr h, h2 h⟩
theorem ba_get! {s : ByteArray} {i : Nat} (h : i < s.size) : s.get! i = s[i] := by
  cases s with
  | mk bs =>
    show bs[i]! = bs[i]'h
    exact getElem!_pos bs i h
theorem dec_low {s : ByteArray} {i : Nat} (h : i < s.size) (hl : (s[i]).toNat < 128) : Utf8.decode s i = ((s[i]).toNat, 1) := by
  unfold Utf8.decode
  simp only [Nat.add_zero, ba_get! h]
  rw [if_pos hl]
theorem dec_high {s : ByteArray} {i : Nat} (h : i < s.size) (hl : ¬ (s[i]).toNat < 128) : 128 ≤ (Utf8.decode s i).1 ∧ 1 ≤ (Utf8.decode s i).2 := by
  unfold Utf8.decode
  simp only [Nat.add_zero, ba_get! h]
  rw [if_neg hl]
  split
  · split
    · rename_i h2; exact ⟨by omega, by omega⟩
    · exact ⟨by decide, by decide⟩
  · split
    · split
      · rename_i h2
        simp only [Bool.and_eq_true, decide_eq_true_eq] at h2
        exact ⟨by omega, by omega⟩
      · exact ⟨by decide, by decide⟩
    · split
      · split
        · rename_i h2
          simp only [Bool.and_eq_true, decide_eq_true_eq] at h2
          exact ⟨by omega, by omega⟩
        · exact ⟨by decide, by decide⟩
      · exact ⟨by decide, by decide⟩
end Go.SX
