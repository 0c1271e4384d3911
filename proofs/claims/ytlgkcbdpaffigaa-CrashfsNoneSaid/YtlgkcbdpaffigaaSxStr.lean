/- Strings appended to rows. -/
import Derived.Test.YtlgkcbdpaffigaaSxRows
import Derived.Lib.AppendStr
set_option linter.unusedSimpArgs false
set_option linter.unusedVariables false
namespace Go.SX
open Go Go.Lib

/-! ### Strings appended to rows of one's own -/
/-- 'append(b, s...)', s a string. -/
theorem append_str {P : Program} {w : World} {own : Nat → Prop} {t u ty e : TypeId} {v : Value} {n : Nat} {xs : List Value} {K : Value → World → Prop}
    (ht : P.underlying t = some (.slice e)) (hu : P.underlying u = some .string) (he : ∃ i, P.info? e = some i ∧ i.zero = some (.int .u8 0) ∧ i.size = 1 ∧ i.bytes = 1)
    (hown : OwnRow w own e 1 v n xs) (s : ByteArray) (hb : n + s.size ≤ 137438953472)
    (hK : ∀ v' w', OwnRow w' (fun i => own i ∨ fresh w i) e 1 v' (n + s.size) (xs ++ strCells s) → Kp own w w' → K v' w') : Runs P (Builtin.append_ #[t, u] ty #[v, .string s]) w K := by
  obtain ⟨i, hi, hz, hsize, hby⟩ := he
  have h63 : n + s.size ≤ maxLen := by simp only [maxLen]; omega
  have hsmall : n + s.size ≤ 9223372036854775807 := by simp only [maxLen] at h63; omega
  have hxl : xs.length = n := by simpa using hown.1
  have hlen : (xs ++ strCells s).length = (n + s.size) * 1 := by rw [List.length_append, hxl, strCells_length, Nat.mul_one]
  have grown : ∀ old : Nat, old < n + s.size →
      OwnRow (w.drew.alloc (.cells (xs.toArray ++ (strCells s).toArray ++ Builtin.zeroCells (Value.int .u8 0).cells (grownCap w (n + s.size) old e - (n + s.size))) e)) (fun i => own i ∨ fresh w i) e 1 (.slice (some ⟨w.heap.size, 0, none⟩) (n + s.size) (grownCap w (n + s.size) old e)) (n + s.size) (xs ++ strCells s) ∧
      Kp own w (w.drew.alloc (.cells (xs.toArray ++ (strCells s).toArray ++ Builtin.zeroCells (Value.int .u8 0).cells (grownCap w (n + s.size) old e - (n + s.size))) e)) := by
    intro old ho
    have hge := grownCap_ge w (n + s.size) old e
    refine ⟨⟨hlen, .inr ⟨w.heap.size, _, _, rfl, .inr (Nat.le_refl _), by rw [alloc_get]; exact if_pos rfl, hge, grownCap_le_maxLen w (n + s.size) old e h63, ?_, ?_⟩⟩, (Kp.refl own w).drew.alloc _ _⟩
    · have hz1 : (Value.int IntKind.u8 0).cells.size = 1 := rfl
      simp only [Array.size_append, List.size_toArray, size_zeroCells, hz1, hxl, strCells_length]
      omega
    · simp only [Array.toList_append, List.append_assoc]
      rw [← List.append_assoc, ← hlen]
      exact List.take_left
  rcases hown.2 with ⟨rfl, rfl⟩ | ⟨g, cap, cur, rfl, hog, hg, hnc, hcm, hcs, htake⟩
  · have hx : xs = [] := List.eq_nil_of_length_eq_zero hxl
    subst hx
    by_cases hm : s.size = 0
    · have hn : strCells s = [] := List.eq_nil_of_length_eq_zero (by rw [strCells_length]; exact hm)
      refine ⟨.slice none 0 0, w, ?_, hK _ _ (by rw [hm, hn]; exact OwnRow.nil _ _ _ _) (Kp.refl _ _)⟩
      have hf := run_firstCells_string (P := P) w 1 s
      rw [hm] at hf
      simp [Builtin.append_, run_underlying ht, run_underlying hu, sizeOf, typeInfo, hi, hsize, Builtin.lenOf, hm, hf]
    · have hr := run_append_nil_string (P := P) w t u ty e i (.int .u8 0) ht hu hi hz s (by omega) (by omega) (by rw [hby]; omega)
      obtain ⟨g1, g2⟩ := grown 0 (by omega)
      simp only [Nat.zero_add, List.nil_append, Array.empty_append] at g1 g2
      have e1 : (s.data.map fun b => Value.int .u8 b.toNat) = (strCells s).toArray := by
        apply Array.ext'
        simp [strCells]
      rw [e1] at hr
      exact ⟨_, _, hr, hK _ _ (by simpa using g1) g2⟩
  · by_cases hroom : n + s.size ≤ cap
    · have hcs' : cur.size = cap := by simpa using hcs
      have hr := run_append_room_string (P := P) w t u ty e i ht hu hi hsize g n cap cur hg s hroom (by omega)
      refine ⟨_, _, hr, hK _ _ ⟨hlen, .inr ⟨g, cap, _, rfl, .inl hog, setRow_heap w g cur _ e _ hg, hroom, hcm, ?_, ?_⟩⟩ (setRow_kp hg hog)⟩
      · simp only [List.size_toArray, List.length_append, List.length_take, List.length_drop, Array.length_toList, strCells_length]
        omega
      · have ht' : cur.toList.take n = xs := by simpa using htake
        rw [ht', ← hlen]
        exact List.take_left
    · have holds : ∀ j u, xs[j]? = some u → w.cell? ((⟨g, 0, none⟩ : Addr).add j) = some u := fun j u hj => by
        obtain ⟨_, e1, e2⟩ := hown.at hj
        cases e1; exact e2
      have hr := run_append_grow_string (P := P) w t u ty e i (.int .u8 0) ht hu hi hz ⟨g, 0, none⟩ n cap xs (by rw [hsize]; simpa using hxl) holds s (by omega) (by omega) (by rw [hby]; exact growslice_fits (by omega) (by omega))
      obtain ⟨g1, g2⟩ := grown cap (by omega)
      exact ⟨_, _, hr, hK _ _ g1 g2⟩
/-- 'make([]T, 0, n)' -/
theorem make_cap {P : Program} {w : World} {t e : TypeId} {n : Nat} {K : Value → World → Prop} (ht : P.underlying t = some (.slice e)) (he : ∃ i z, P.info? e = some i ∧ i.zero = some z ∧ i.size = 1 ∧ z.cells = #[z] ∧ i.bytes ≤ 1024) (hn : n ≤ 137438953472)
    (hK : ∀ w', OwnRow w' (fresh w) e 1 (.slice (some ⟨w.heap.size, 0, none⟩) 0 n) 0 [] → Kp none_ w w' → K (.slice (some ⟨w.heap.size, 0, none⟩) 0 n) w') :
    Runs P (Instr.makeSlice t (.int .i64 0) (.int .i64 n)) w K := by
  obtain ⟨i, z, hi, hz, hsize, hzc, hby⟩ := he
  have hw : IntKind.i64.wrap (n : Int) = n := by rw [IntKind.wrap_i64]; omega
  have hw0 : IntKind.i64.wrap 0 = 0 := by decide
  have hb : i.bytes * n ≤ 281474976710656 := Nat.le_trans (Nat.mul_le_mul_right n hby) (by omega)
  have hbi : ¬ (281474976710656 < (i.bytes : Int) * (n : Int)) := by
    rw [← Int.natCast_mul]
    omega
  have hneg : ¬ ((n : Int) < 0) := by omega
  have hr : (Instr.makeSlice t (.int .i64 0) (.int .i64 n)).run P w = .ok (.slice (some ⟨w.heap.size, 0, none⟩) 0 n) (w.alloc (.cells (List.replicate n z).toArray e)) := by
    by_cases h0 : n = 0
    · subst h0
      simp [Instr.makeSlice, run_underlying ht, sizeOf, typeInfo, zeroValue, hi, hz, asInt, asIntOf, hw0, hsize, newRow]
      have e0 : (Array.range 0).map (fun _ => (default : Value)) = #[] := by apply Array.ext <;> simp
      rw [e0]
    · simp [Instr.makeSlice, run_underlying ht, sizeOf, typeInfo, zeroValue, hi, hz, asInt, asIntOf, hw, hw0, hbi, hneg, hsize, h0, newRow]
      have e1 : Array.map (fun x => z.cells[x % z.cells.size]!) (Array.range n) = Array.replicate n z := by
        apply Array.ext
        · simp
        · intro j h1 h2
          simp [hzc, Nat.mod_one]
      rw [e1]
  refine ⟨_, _, hr, hK _ ⟨by simp, .inr ⟨w.heap.size, n, _, rfl, Nat.le_refl _, by rw [alloc_get]; exact if_pos rfl, by omega, by simp only [maxLen]; omega, by simp, by simp⟩⟩ ((Kp.refl none_ w).alloc _ _)⟩
theorem strCells_of {b : Int → Int} (hb : ∀ p, 0 ≤ b p ∧ b p < 256) (a : Int) (k : Nat) : strCells (strOf b a k) = (List.range k).map fun i : Nat => .int .u8 (b (a + i)) := by
  unfold strCells strOf
  simp only [List.map_map]
  apply List.map_congr_left
  intro i hi
  have := hb (a + i)
  simp only [Function.comp]
  congr 1
  rw [UInt8.toNat_ofNat']
  omega
/-- A string of bytes, cut. -/
theorem strOf_cut (b : Int → Int) (a : Int) (k l r : Nat) (h : r ≤ k) (h' : l ≤ r) : (strOf b a k).extract l r = strOf b (a + l) (r - l) := by
  apply ByteArray.ext
  unfold strOf
  rw [ByteArray.data_extract]
  apply Array.ext
  · simp; omega
  · intro i h1 h2
    simp at h2
    simp only [Array.getElem_extract, List.getElem_toArray, List.getElem_map, List.getElem_range]
    congr 3
    omega
theorem strOf_app (b : Int → Int) (a : Int) (k m : Nat) : strOf b a k ++ strOf b (a + k) m = strOf b a (k + m) := by
  apply ByteArray.ext
  unfold strOf
  rw [ByteArray.data_append]
  apply Array.ext
  · simp
  · intro i h1 h2
    simp only [List.size_toArray, List.length_map, List.length_range] at h2
    simp only [List.getElem_toArray, List.getElem_map, List.getElem_range]
    by_cases h : i < k
    · rw [Array.getElem_append_left (by simpa using h)]
      simp
    · rw [Array.getElem_append_right (by simpa using h)]
      simp only [List.getElem_toArray, List.getElem_map, List.getElem_range, List.size_toArray, List.length_map, List.length_range]
      congr 3
      omega
end Go.SX
