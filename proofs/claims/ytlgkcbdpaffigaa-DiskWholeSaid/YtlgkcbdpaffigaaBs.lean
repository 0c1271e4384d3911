import Derived.Test.YtlgkcbdpaffigaaBr
namespace Go.Proofs.Ytlgkcbdpaffigaa
open Go Go.SX Go.Proofs Go.Lib
set_option maxRecDepth 100000
set_option linter.unusedVariables false
set_option linter.unusedSimpArgs false
/-! ### Laws of the states -/
/-- All is safe, and nothing waits. -/
structure Synced (s : St) : Prop where
  has : ∀ i, i < s.size → s.has i = true
  safe : ∀ p : Int, 0 ≤ p → p < 512 * s.size → s.safe p = s.now p
  wait : s.wait = []
theorem sync_synced (s : St) : Synced (syncSt s) := ⟨fun i hi => if_pos hi, fun p h0 h1 => if_pos ⟨h0, h1⟩, rfl⟩
theorem crash_size (s : St) (n : Nat) (kb : Nat → Bool) (fill : Int) : (crashSt s n kb fill).size = s.size := by
  show (keepsA (crashA s fill s.size) n kb s.wait.length).size = _
  rw [(keepsA_same _ n kb _).1, (crashA_same s fill _).1]
theorem crashA_now (s : St) (fill : Int) (p : Int) : ∀ k : Nat, (crashA s fill k).now p = if 0 ≤ p ∧ p < 512 * k then (if s.has (p / 512).toNat = true then s.safe p else strangeF (p / 512).toNat fill (p - 512 * (p / 512).toNat)) else s.now p
  | 0 => by rw [if_neg (by omega)]; rfl
  | k + 1 => by
    show (if 512 * (k : Int) ≤ p ∧ p < 512 * k + 512 then (if s.has k = true then secAt s.safe k else strangeF k fill) (p - 512 * k) else (crashA s fill k).now p) = _
    by_cases c : 512 * (k : Int) ≤ p ∧ p < 512 * k + 512
    · have e : (p / 512).toNat = k := by omega
      have c' : 0 ≤ p ∧ p < 512 * ((k + 1 : Nat) : Int) := by omega
      rw [if_pos c, if_pos c', e]
      by_cases hh : s.has k = true
      · rw [if_pos hh, if_pos hh]
        unfold secAt
        congr 1
        omega
      · rw [if_neg hh, if_neg hh]
    · rw [if_neg c, crashA_now s fill p k]
      by_cases c2 : 0 ≤ p ∧ p < 512 * (k : Int)
      · have c3 : 0 ≤ p ∧ p < 512 * ((k + 1 : Nat) : Int) := by omega
        rw [if_pos c2, if_pos c3]
      · have c3 : ¬ (0 ≤ p ∧ p < 512 * ((k + 1 : Nat) : Int)) := by omega
        rw [if_neg c2, if_neg c3]
theorem crash_synced {s : St} (h : Synced s) (n : Nat) (kb : Nat → Bool) (fill : Int) {p : Int} (h0 : 0 ≤ p) (h1 : p < 512 * s.size) : (crashSt s n kb fill).now p = s.now p := by
  show (keepsA (crashA s fill s.size) n kb s.wait.length).now p = _
  rw [h.wait]
  show (crashA s fill s.size).now p = _
  rw [crashA_now, if_pos ⟨h0, h1⟩, if_pos (h.has _ (by omega)), h.safe p h0 h1]
theorem waits_get (lo c : Nat) (F : Int → Int) {k : Nat} (h : k < c) : (waits lo c F)[k]? = some (lo + k, F) := by simp [waits, h]
theorem waits_len (lo c : Nat) (F : Int → Int) : (waits lo c F).length = c := by simp [waits]
theorem keepsA_waits {s : St} {lo c : Nat} {F : Int → Int} (hw : s.wait = waits lo c F) (n : Nat) (kb : Nat → Bool) (p : Int) : ∀ k : Nat, k ≤ c →
    (keepsA s n kb k).now p = if 512 * (lo : Int) ≤ p ∧ p < 512 * (lo + k) ∧ (p / 512).toNat - lo < n ∧ kb ((p / 512).toNat - lo) = true then F p else s.now p
  | 0, _ => by rw [if_neg (by omega)]; rfl
  | k + 1, hk => by
    have ih := keepsA_waits hw n kb p k (by omega)
    rw [keepsA, hw, waits_get lo c F (by omega)]
    show (if k < n ∧ kb k = true then setNow (keepsA s n kb k) (lo + k) (secAt F (lo + k)) else keepsA s n kb k).now p = _
    by_cases c1 : 512 * ((lo + k : Nat) : Int) ≤ p ∧ p < 512 * ((lo + k : Nat) : Int) + 512
    · have e : (p / 512).toNat - lo = k := by omega
      rw [e]
      rw [e] at ih
      by_cases c2 : k < n ∧ kb k = true
      · rw [if_pos c2, if_pos ⟨by omega, by omega, c2.1, c2.2⟩]
        show (if _ then _ else _) = _
        rw [if_pos c1]
        unfold secAt
        congr 1
        omega
      · rw [if_neg c2, ih, if_neg (by omega), if_neg (fun h => c2 h.2.2)]
    · have e2 : (if k < n ∧ kb k = true then setNow (keepsA s n kb k) (lo + k) (secAt F (lo + k)) else keepsA s n kb k).now p = (keepsA s n kb k).now p := by
        split
        · show (if _ then _ else _) = _
          rw [if_neg c1]
        · rfl
      rw [e2, ih]
      by_cases c3 : 512 * (lo : Int) ≤ p ∧ p < 512 * (lo + k) ∧ (p / 512).toNat - lo < n ∧ kb ((p / 512).toNat - lo) = true
      · rw [if_pos c3, if_pos ⟨c3.1, by omega, c3.2.2⟩]
      · rw [if_neg c3, if_neg (fun h => c3 ⟨h.1, by omega, h.2.2⟩)]
/-- A write that makes no disk longer, and a crash behind it. -/
theorem crash_write {s : St} (h : Synced s) {at_ : Int} {m : Nat} {b : Int → Int} (ha : 0 ≤ at_) (hs : hiF at_ m ≤ s.size) (n : Nat) (kb : Nat → Bool) (fill : Int) {p : Int} (h0 : 0 ≤ p) (h1 : p < 512 * s.size) :
    (crashSt (writeSt s at_ m b) n kb fill).now p = if 512 * (loF at_ : Int) ≤ p ∧ p < 512 * (hiF at_ m : Int) ∧ (p / 512).toNat - loF at_ < n ∧ kb ((p / 512).toNat - loF at_) = true then overF s.now b at_ m p else s.now p := by
  have hg : growSt s (hiF at_ m) = s := if_neg (by omega)
  have hw : writeSt s at_ m b = { s with now := overF s.now b at_ m, wait := waits (loF at_) (hiF at_ m - loF at_) (overF s.now b at_ m) } := by
    unfold writeSt
    rw [hg, h.wait]
    rfl
  rw [hw]
  show (keepsA (crashA _ fill s.size) n kb (waits (loF at_) (hiF at_ m - loF at_) (overF s.now b at_ m)).length).now p = _
  have e1 : (if s.has (p / 512).toNat = true then s.safe p else strangeF (p / 512).toNat fill (p - 512 * (p / 512).toNat)) = s.now p := by
    rw [if_pos (h.has _ (by omega)), h.safe p h0 h1]
  have e2 := crashA_now { s with now := overF s.now b at_ m, wait := waits (loF at_) (hiF at_ m - loF at_) (overF s.now b at_ m) } fill p s.size
  rw [if_pos ⟨h0, h1⟩] at e2
  have e3 := e2.trans e1
  rw [waits_len, keepsA_waits (lo := loF at_) (c := hiF at_ m - loF at_) (F := overF s.now b at_ m) (by rw [(crashA_same _ fill _).2.2.2]) n kb p _ (Nat.le_refl _), e3]
  by_cases c : 512 * (loF at_ : Int) ≤ p ∧ p < 512 * (hiF at_ m : Int) ∧ (p / 512).toNat - loF at_ < n ∧ kb ((p / 512).toNat - loF at_) = true
  · rw [if_pos c, if_pos ⟨c.1, by omega, c.2.2⟩]
  · rw [if_neg c, if_neg (fun h => c ⟨h.1, by omega, h.2.2⟩)]
theorem crash_all {s : St} (h : Synced s) {at_ : Int} {m : Nat} {b : Int → Int} (ha : 0 ≤ at_) (hm : m ≠ 0) (hs : hiF at_ m ≤ s.size) (n : Nat) (hn : hiF at_ m - loF at_ ≤ n) (kb : Nat → Bool) (hk : ∀ i, i < n → kb i = true) (fill : Int) {p : Int} (h0 : 0 ≤ p) (h1 : p < 512 * s.size) :
    (crashSt (writeSt s at_ m b) n kb fill).now p = (writeSt s at_ m b).now p := by
  rw [crash_write h ha hs n kb fill h0 h1]
  have hg : growSt s (hiF at_ m) = s := if_neg (by omega)
  have e : (writeSt s at_ m b).now p = overF s.now b at_ m p := by
    unfold writeSt
    rw [hg]
  rw [e]
  have hlo : 512 * (loF at_ : Int) ≤ at_ := by unfold loF; omega
  have hhi : at_ + m ≤ 512 * (hiF at_ m : Int) := by unfold hiF; omega
  by_cases c : 512 * (loF at_ : Int) ≤ p ∧ p < 512 * (hiF at_ m : Int)
  · have : (p / 512).toNat - loF at_ < n := by omega
    rw [if_pos ⟨c.1, c.2, this, hk _ this⟩]
  · rw [if_neg (fun h => c ⟨h.1, h.2.1⟩)]
    unfold overF
    rw [if_neg (by omega)]
theorem read_str {s s' : St} (hz : s.size = s'.size) (h : ∀ p : Int, 0 ≤ p → p < 512 * s.size → s.now p = s'.now p) (n : Nat) (hn : n ≤ 512 * s.size) : strOf (readF s 0) 0 n = strOf (readF s' 0) 0 n := strOf_eq fun j hj => by
  unfold readF
  rw [← hz, if_pos (by omega), if_pos (by omega)]
  exact h _ (by omega) (by omega)
end Go.Proofs.Ytlgkcbdpaffigaa
