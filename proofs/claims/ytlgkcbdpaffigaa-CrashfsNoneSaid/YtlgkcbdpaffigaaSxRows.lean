/- More on rows of own. -/
import Derived.Test.YtlgkcbdpaffigaaSxMap
import Derived.Laws.CopyRow
import Derived.Lib.AppendZerosOnto
set_option linter.unusedSimpArgs false
set_option linter.unusedVariables false
namespace Go.SX
open Go

/-! ### More on rows of one's own -/
theorem OwnRow.parts {w : World} {own : Nat → Prop} {e : TypeId} {size n m c : Nat} {q : Option Addr} {xs : List Value} (h : OwnRow w own e size (.slice q m c) n xs) (hn : 0 < n) :
    ∃ g cur, q = some ⟨g, 0, none⟩ ∧ m = n ∧ own g ∧ w.heap[g]? = some (Obj.cells cur e (0, 0)) ∧ n ≤ c ∧ c ≤ maxLen ∧ cur.size = c * size ∧ cur.toList.take (n * size) = xs := by
  rcases h.2 with ⟨_, h2⟩ | ⟨g, cap, cur, h1, h2, h3, h4, h5, h6, h7⟩
  · omega
  · cases h1
    exact ⟨g, cur, rfl, rfl, h2, h3, h4, h5, h6, h7⟩
theorem OwnRow.lens {w : World} {own : Nat → Prop} {e : TypeId} {size n m c : Nat} {q : Option Addr} {xs : List Value} (h : OwnRow w own e size (.slice q m c) n xs) : m = n ∧ n ≤ c := by
  rcases h.2 with ⟨h1, h2⟩ | ⟨g, cap, cur, h1, h2, h3, h4, h5, h6, h7⟩
  · cases h1; omega
  · cases h1; exact ⟨rfl, h4⟩
/-- 'copy' into a row of one's own, from a place on. -/
theorem copy_own {P : Program} {w : World} {own : Nat → Prop} {dT sT ty e : TypeId} {n cap o dLen dCap sLen sCap : Nat} {q : Option Addr} {xs cs : List Value} {a : Addr} {K : Value → World → Prop}
    (hu : P.underlying dT = some (.slice e)) (hs : (P.info? e).map (·.size) = some 1) (hown : OwnRow w own e 1 (.slice q n cap) n xs) (hn : cs.length = Nat.min sLen dLen) (hpos : 0 < cs.length) (ho : o + dLen ≤ n)
    (hsrc : ∀ j v, cs[j]? = some v → w.cell? (a.add j) = some v) (h1 : ∀ v ∈ cs, v.oneCell' = true)
    (hK : ∀ w', OwnRow w' own e 1 (.slice q n cap) n (xs.take o ++ cs ++ xs.drop (o + cs.length)) → Kp own w w' → K (.int .i64 cs.length) w') :
    Runs P (Builtin.copy_ #[dT, sT] ty #[.slice (cutA q cap o 1) dLen dCap, .slice (some a) sLen sCap]) w K := by
  have hle : cs.length ≤ dLen := by rw [hn]; exact Nat.min_le_right _ _
  obtain ⟨g, cur, rfl, _, hog, hg, hnc, hcm, hcs, htake⟩ := hown.parts (by omega)
  have hcut : cutA (some ⟨g, 0, none⟩) cap o 1 = some ⟨g, o, none⟩ := by
    unfold cutA
    rw [if_neg (by omega)]
    simp [ad_add]
  rw [hcut]
  have hfit : o + cs.length ≤ cur.size := by omega
  refine ⟨_, _, run_copy_row (P := P) w dT sT ty e g o dLen dCap a sLen sCap cur e cs hu hs hg hn hsrc hfit h1, ?_⟩
  have hxl : xs.length = n := by have := hown.1; omega
  refine hK _ ⟨?_, .inr ⟨g, cap, _, rfl, hog, setRow_heap w g cur _ e _ hg, hnc, hcm, ?_, ?_⟩⟩ (setRow_kp hg hog)
  · simp only [List.length_append, List.length_take, List.length_drop]; omega
  · simp only [List.size_toArray, List.length_append, List.length_take, List.length_drop, Array.length_toList]
    omega
  · rw [Nat.mul_one] at htake ⊢
    simp only []
    apply List.ext_getElem?
    intro j
    rw [← htake]
    simp only [List.getElem?_take, List.getElem?_append, List.length_take, List.length_append, List.getElem?_drop, Array.length_toList, List.length_drop]
    repeat' split
    all_goals first | rfl | omega | (congr 1; omega) | skip
    all_goals (first | (symm; apply List.getElem?_eq_none; omega) | (apply List.getElem?_eq_none; simp; omega) | skip)
/-- Zeros of an element type. -/
def zerosL (z : Value) (k : Nat) : List Value := (Builtin.zeroCells z.cells k).toList
theorem zerosL_one {z : Value} (hz : z.cells = #[z]) (k : Nat) : zerosL z k = List.replicate k z := by
  unfold zerosL Builtin.zeroCells
  rw [hz]
  apply List.ext_getElem
  · simp
  · intro i h1 h2
    simp [Nat.mod_one]
/-- 'append(s, make([]T, k)...)' -/
theorem zeros_own {P : Program} {w : World} {own : Nat → Prop} {t tn ty e : TypeId} {size bytes : Nat} {z : Value} {kn kq : IntKind} {v : Value} {n k : Nat} {xs : List Value} {K : Value → World → Prop}
    (ht : P.underlying t = some (.slice e)) (htn : P.underlying tn = some (.int kn)) (he : ∃ i, P.info? e = some i ∧ i.zero = some z ∧ i.size = size ∧ i.bytes = bytes) (hzs : z.cells.size = size) (hby : bytes ≤ 1024) (hsz : 0 < size) (h1z : ∀ u ∈ zerosL z k, u.oneCell' = true)
    (hown : OwnRow w own e size v n xs) (hk : 0 < k) (hb : n + k ≤ 137438953472)
    (hK : ∀ q c w', OwnRow w' (fun i => own i ∨ fresh w i) e size (.slice q (n + k) c) (n + k) (xs ++ zerosL z k) → Kp own w w' → K (.slice q (n + k) c) w') : Runs P (Builtin.append_ #[t, tn] ty #[v, .int kq k]) w K := by
  obtain ⟨i, hi, hz, hsize, hbytes⟩ := he
  subst hsize
  have h63 : n + k ≤ maxLen := by simp only [maxLen]; omega
  have hb0 : (n + k) * i.bytes ≤ 140737488355328 := Nat.le_trans (Nat.mul_le_mul_left _ (by omega : i.bytes ≤ 1024)) (by omega)
  have hzl : (zerosL z k).length = k * i.size := by unfold zerosL; simp [Builtin.zeroCells, hzs]
  have hlen : (xs ++ zerosL z k).length = (n + k) * i.size := by rw [List.length_append, hown.1, hzl, Nat.add_mul]
  have kb : k * i.bytes ≤ (n + k) * i.bytes := Nat.mul_le_mul_right _ (by omega)
  have grown : ∀ old : Nat, old < n + k →
      OwnRow (w.drew.alloc (.cells (xs.toArray ++ Builtin.zeroCells z.cells k ++ Builtin.zeroCells z.cells (grownCap w (n + k) old e - (n + k))) e)) (fun i => own i ∨ fresh w i) e i.size (.slice (some ⟨w.heap.size, 0, none⟩) (n + k) (grownCap w (n + k) old e)) (n + k) (xs ++ zerosL z k) ∧
      Kp own w (w.drew.alloc (.cells (xs.toArray ++ Builtin.zeroCells z.cells k ++ Builtin.zeroCells z.cells (grownCap w (n + k) old e - (n + k))) e)) := by
    intro old ho
    have hge := grownCap_ge w (n + k) old e
    refine ⟨⟨hlen, .inr ⟨w.heap.size, _, _, rfl, .inr (Nat.le_refl _), by rw [alloc_get]; exact if_pos rfl, hge, grownCap_le_maxLen w (n + k) old e h63, ?_, ?_⟩⟩, (Kp.refl own w).drew.alloc _ _⟩
    · simp only [Array.size_append, List.size_toArray, size_zeroCells, hzs, hown.1, ← Nat.add_mul]
      congr 1
      omega
    · simp only [Array.toList_append, List.append_assoc]
      rw [← List.append_assoc, ← hlen]
      exact List.take_left
  rcases hown.2 with ⟨rfl, rfl⟩ | ⟨g, cap, cur, rfl, hog, hg, hnc, hcm, hcs, htake⟩
  · have hx : xs = [] := List.eq_nil_of_length_eq_zero (by simpa using hown.1)
    subst hx
    have hr := Go.Lib.run_append_nil_zeros (P := P) w t tn ty e i z kq kn ht htn hi hz k hk hsz (by omega) (by omega)
    obtain ⟨g1, g2⟩ := grown 0 (by omega)
    simp only [Nat.zero_add, List.nil_append, Array.empty_append] at g1 g2
    refine ⟨_, _, hr, ?_⟩
    have := hK _ _ _ (by simpa using g1) g2
    simpa using this
  · by_cases hroom : n + k ≤ cap
    · have hfit : n * i.size + (zerosL z k).length ≤ cur.size := by rw [hzl, hcs, ← Nat.add_mul]; exact Nat.mul_le_mul_right _ hroom
      have hst := run_storeCells_at P g (n * i.size) e (zerosL z k) 0 cur w hg (by simpa using hfit) h1z
      simp only [Nat.add_zero] at hst
      have hr : (Builtin.append_ #[t, tn] ty #[.slice (some ⟨g, 0, none⟩) n cap, .int kq k]).run P w =
          .ok (.slice (some ⟨g, 0, none⟩) (n + k) cap) (w.setRow g (cur.toList.take (n * i.size) ++ zerosL z k ++ cur.toList.drop (n * i.size + (zerosL z k).length)).toArray) := by
        have hw : IntKind.i64.wrap (k : Int) = k := by rw [IntKind.wrap_i64]; omega
        have hneg : ¬ ((k : Int) < 0) := by omega
        have h48i : ¬ (281474976710656 < (k : Int) * (i.bytes : Int)) := by
          rw [← Int.natCast_mul]
          omega
        have hns : ¬ (k * i.size = 0) := Nat.mul_ne_zero (by omega) (by omega)
        unfold zerosL at hst ⊢
        simp [Builtin.append_, run_underlying ht, run_underlying htn, sizeOf, typeInfo, zeroValue, hi, hz, asInt, asIntOf, hw, hneg, hns, h48i, hroom, Addr.add_lit]
        have hst' := hst
        simp at hst'
        rw [hst']
        rfl
      refine ⟨_, _, hr, hK _ _ _ ⟨hlen, .inr ⟨g, cap, _, rfl, .inl hog, setRow_heap w g cur _ e _ hg, hroom, hcm, ?_, ?_⟩⟩ (setRow_kp hg hog)⟩
      · simp only [List.size_toArray, List.length_append, List.length_take, List.length_drop, Array.length_toList]
        omega
      · rw [htake, ← hlen]
        exact List.take_left
    · have holds : ∀ j u, xs[j]? = some u → w.cell? ((⟨g, 0, none⟩ : Addr).add j) = some u := fun j u hj => by
        obtain ⟨_, e1, e2⟩ := hown.at hj
        cases e1; exact e2
      have hold := run_firstCells_some (P := P) w.drew i.size n ⟨g, 0, none⟩ n cap xs hown.1 holds
      have hr := Go.Lib.run_append_grow_zeros (P := P) w t tn ty e i z kq kn ht htn hi hz (some ⟨g, 0, none⟩) n cap xs hold k hk hsz (by omega) (by omega) (by omega) (growslice_fits (by omega) hb0)
      obtain ⟨g1, g2⟩ := grown cap (by omega)
      exact ⟨_, _, hr, hK _ _ _ g1 g2⟩
/-- 'append([]T{}, src...)': a new row. -/
theorem lit_append {P : Program} {w : World} {t ty e : TypeId} {b0 a : Addr} {m c : Nat} {news : List Value} {K : Value → World → Prop}
    (ht : P.underlying t = some (.slice e)) (he : elemOk P e 1 = true) (hl : news.length = m) (hnews : ∀ j u, news[j]? = some u → w.cell? (a.add j) = some u) (hm : 0 < m) (hb : m ≤ 137438953472)
    (hK : ∀ g c' w', OwnRow w' (fresh w) e 1 (.slice (some ⟨g, 0, none⟩) m c') m news → Kp none_ w w' → K (.slice (some ⟨g, 0, none⟩) m c') w') : Runs P (Builtin.append_ #[t, t] ty #[.slice (some b0) 0 0, .slice (some a) m c]) w K := by
  obtain ⟨i, z, hi, hz, hsize, hzs, hby⟩ := elemOk_spec he
  have h63 : m ≤ maxLen := by simp only [maxLen]; omega
  have hbytes : m * i.bytes ≤ 140737488355328 := Nat.le_trans (Nat.mul_le_mul_left _ hby) (by omega)
  have hr := run_append_grow (P := P) w t ty e i z ht hi hz b0 0 0 [] (by simp) (by intro j v hj; simp at hj) a m c news (by rw [hl, hsize, Nat.mul_one]) hnews (by omega) (by omega) (growslice_fits (by omega) (by simpa using hbytes))
  simp only [Nat.zero_add] at hr
  have hge := grownCap_ge w m 0 e
  have hcm := grownCap_le_maxLen w m 0 e h63
  refine ⟨_, _, hr, hK _ _ _ ⟨by rw [hl, Nat.mul_one], .inr ⟨w.heap.size, _, _, rfl, Nat.le_refl _, by rw [alloc_get]; exact if_pos rfl, hge, hcm, ?_, ?_⟩⟩ ((Kp.refl none_ w).drew.alloc _ _)⟩
  · simp only [Array.size_append, List.size_toArray, size_zeroCells, hzs, hl, List.length_nil]
    omega
  · simp only [Array.toList_append, List.nil_append, Nat.mul_one]
    rw [← hl]
    exact List.take_left
/-- 'make([]T, n)' -/
theorem make_own {P : Program} {w : World} {t e : TypeId} {n : Nat} {K : Value → World → Prop} (ht : P.underlying t = some (.slice e)) (he : ∃ i z, P.info? e = some i ∧ i.zero = some z ∧ i.size = 1 ∧ z.cells = #[z] ∧ i.bytes ≤ 1024 ∧
      ∀ w', OwnRow w' (fresh w) e 1 (.slice (some ⟨w.heap.size, 0, none⟩) n n) n (List.replicate n z) → Kp none_ w w' → K (.slice (some ⟨w.heap.size, 0, none⟩) n n) w') (hn : n ≤ 137438953472) :
    Runs P (Instr.makeSlice t (.int .i64 n) (.int .i64 n)) w K := by
  obtain ⟨i, z, hi, hz, hsize, hzc, hby, hK⟩ := he
  have hw : IntKind.i64.wrap (n : Int) = n := by rw [IntKind.wrap_i64]; omega
  have hb : i.bytes * n ≤ 281474976710656 := Nat.le_trans (Nat.mul_le_mul_right n hby) (by omega)
  have hbi : ¬ (281474976710656 < (i.bytes : Int) * (n : Int)) := by
    rw [← Int.natCast_mul]
    omega
  have hneg : ¬ ((n : Int) < 0) := by omega
  have hr : (Instr.makeSlice t (.int .i64 n) (.int .i64 n)).run P w = .ok (.slice (some ⟨w.heap.size, 0, none⟩) n n) (w.alloc (.cells (List.replicate n z).toArray e)) := by
    by_cases h0 : n = 0
    · subst h0
      have hw0 : IntKind.i64.wrap 0 = 0 := by simpa using hw
      simp [Instr.makeSlice, run_underlying ht, sizeOf, typeInfo, zeroValue, hi, hz, asInt, asIntOf, hw0, hsize, newRow]
      have e0 : (Array.range 0).map (fun _ => (default : Value)) = #[] := by apply Array.ext <;> simp
      rw [e0]
    · simp [Instr.makeSlice, run_underlying ht, sizeOf, typeInfo, zeroValue, hi, hz, asInt, asIntOf, hw, hbi, hneg, hsize, h0, newRow]
      have e1 : Array.map (fun x => z.cells[x % z.cells.size]!) (Array.range n) = Array.replicate n z := by
        apply Array.ext
        · simp
        · intro j h1 h2
          simp [hzc, Nat.mod_one]
      rw [e1]
  refine ⟨_, _, hr, hK _ ⟨by simp, .inr ⟨w.heap.size, n, _, rfl, Nat.le_refl _, by rw [alloc_get]; exact if_pos rfl, Nat.le_refl _, by simp only [maxLen]; omega, by simp, by simp⟩⟩ ((Kp.refl none_ w).alloc _ _)⟩
theorem lit_run {P : Program} (w : World) {t e : TypeId} (ht : P.underlying t = some (.slice e)) (he : ∃ i, P.info? e = some i) :
    (Instr.buildSlice t 0 #[]).run P w = .ok (.slice (some ⟨w.heap.size, 0, none⟩) 0 0) (w.alloc (.cells #[] e)) := by
  obtain ⟨i, hi⟩ := he
  simp [Instr.buildSlice, run_underlying ht, sizeOf, typeInfo, hi, newRow, Instr.fill]
  have e0 : (Array.range 0).map (fun _ => (default : Value)) = #[] := by apply Array.ext <;> simp
  rw [e0]
end Go.SX
