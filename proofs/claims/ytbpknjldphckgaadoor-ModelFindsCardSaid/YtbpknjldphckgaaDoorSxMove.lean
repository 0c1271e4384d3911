/- Elements of rows, moved. -/
import Derived.Test.YtbpknjldphckgaaDoorSxRows
import Derived.Lib.Overlaps
set_option linter.unusedSimpArgs false
set_option linter.unusedVariables false
namespace Go.SX
open Go
/-! ### Rows of one's own: elements moved to and fro -/
theorem cut_zero {g cap size : Nat} : cutA (some ⟨g, 0, none⟩) cap 0 size = some ⟨g, 0, none⟩ := by
  unfold cutA
  split
  · rfl
  · simp [ad_add]
theorem cut_zero_none {cap size : Nat} : cutA none cap 0 size = none := by
  unfold cutA
  split <;> rfl
theorem cut_at {g cap o size : Nat} (h : cap ≠ o) : cutA (some ⟨g, 0, none⟩) cap o size = some ⟨g, o * size, none⟩ := by
  unfold cutA
  rw [if_neg h]
  simp [ad_add]
/-- 'copy' of elements of any size into a block of one's own. -/
theorem run_copy_any {P : Program} (w : World) (dT sT ty e : TypeId) (g o dLen dCap : Nat) (a : Addr) (sLen sCap : Nat) (cur : Array Value) (t : TypeId) (cs : List Value) {i : TypeInfo}
    (hu : P.underlying dT = some (.slice e)) (hi : P.info? e = some i) (hg : w.heap[g]? = some (.cells cur t (0, 0))) (hn : cs.length = Nat.min sLen dLen * i.size)
    (hsrc : ∀ j v, cs[j]? = some v → w.cell? (a.add j) = some v) (hfit : o + cs.length ≤ cur.size) (h1 : ∀ v ∈ cs, v.oneCell' = true) :
    (Builtin.copy_ #[dT, sT] ty #[.slice (some ⟨g, o, none⟩) dLen dCap, .slice (some a) sLen sCap]).run P w =
      .ok (goInt (Nat.min sLen dLen)) (w.setRow g (cur.toList.take o ++ cs ++ cur.toList.drop (o + cs.length)).toArray) := by
  have hl := run_loadCells_list (P := P) w a cs hsrc
  have hst := run_storeCells_at P g o t cs 0 cur w hg (by simpa using hfit) h1
  simp [Builtin.copy_, run_underlying hu, Builtin.lenOf, Builtin.firstCells, sizeOf, typeInfo, hi, ← hn, hl, hst]
theorem OwnRow.front {w : World} {own : Nat → Prop} {e : TypeId} {size n i c m : Nat} {q : Option Addr} {xs : List Value} (h : OwnRow w own e size (.slice q m c) n xs) (hi : i ≤ n) : OwnRow w own e size (.slice q i c) i (xs.take (i * size)) := by
  have hil : i * size ≤ n * size := Nat.mul_le_mul_right _ hi
  refine ⟨by rw [List.length_take, h.1]; omega, ?_⟩
  rcases h.2 with ⟨h1, h2⟩ | ⟨g, cap, cur, h1, h2, h3, h4, h5, h6, h7⟩
  · cases h1
    have : i = 0 := by omega
    subst this
    exact .inl ⟨rfl, rfl⟩
  · cases h1
    refine .inr ⟨g, c, cur, rfl, h2, h3, by omega, h5, h6, ?_⟩
    rw [← h7, List.take_take, Nat.min_eq_left hil]
theorem OwnRow.extend {w : World} {own : Nat → Prop} {e : TypeId} {size n c m : Nat} {q : Option Addr} {xs : List Value} (h : OwnRow w own e size (.slice q m c) n xs) {k : Nat} (hk : n + k ≤ c) : ∃ ys, ys.length = k * size ∧ OwnRow w own e size (.slice q (n + k) c) (n + k) (xs ++ ys) := by
  rcases h.2 with ⟨h1, h2⟩ | ⟨g, cap, cur, h1, h2, h3, h4, h5, h6, h7⟩
  · cases h1
    have : k = 0 := by omega
    subst this
    subst h2
    exact ⟨[], by simp, by simpa using h⟩
  · cases h1
    have hcap : (n + k) * size ≤ c * size := Nat.mul_le_mul_right _ hk
    have e1 : (n + k) * size = n * size + k * size := Nat.add_mul _ _ _
    have hcl : cur.toList.length = c * size := by rw [Array.length_toList]; exact h6
    refine ⟨(cur.toList.drop (n * size)).take (k * size), by rw [List.length_take, List.length_drop]; omega, ?_, .inr ⟨g, c, cur, rfl, h2, h3, hk, h5, h6, ?_⟩⟩
    · rw [List.length_append, h.1, List.length_take, List.length_drop]; omega
    · rw [e1, ← h7, List.take_add]
/-- 'copy' into a row of one's own, elements of any size, from a place on. -/
theorem copy_own_any {P : Program} {w : World} {own : Nat → Prop} {dT sT ty e : TypeId} {n cap o dLen dCap sLen sCap size : Nat} {q : Option Addr} {xs cs : List Value} {a : Addr} {K : Value → World → Prop}
    (hu : P.underlying dT = some (.slice e)) (hs : elemOk P e size = true) (hsz : 0 < size) (hown : OwnRow w own e size (.slice q n cap) n xs) (hn : cs.length = Nat.min sLen dLen * size) (hd : 0 < dLen) (ho : o + dLen ≤ n)
    (hsrc : ∀ j v, cs[j]? = some v → w.cell? (a.add j) = some v) (h1 : ∀ v ∈ cs, v.oneCell' = true)
    (hK : ∀ w', OwnRow w' own e size (.slice q n cap) n (xs.take (o * size) ++ cs ++ xs.drop (o * size + cs.length)) → Kp own w w' → K (.int .i64 (Nat.min sLen dLen)) w') :
    Runs P (Builtin.copy_ #[dT, sT] ty #[.slice (cutA q cap o size) dLen dCap, .slice (some a) sLen sCap]) w K := by
  obtain ⟨i, z, hi, hz, hsize, hzs, hby⟩ := elemOk_spec hs
  subst hsize
  have hle : Nat.min sLen dLen * i.size ≤ dLen * i.size := Nat.mul_le_mul_right _ (Nat.min_le_right _ _)
  obtain ⟨g, cur, rfl, _, hog, hg, hnc, hcm, hcs, htake⟩ := hown.parts (by omega)
  rw [cut_at (by omega)]
  have hol : (o + dLen) * i.size ≤ n * i.size := Nat.mul_le_mul_right _ ho
  have hcl : n * i.size ≤ cap * i.size := Nat.mul_le_mul_right _ hnc
  rw [Nat.add_mul] at hol
  have hfit : o * i.size + cs.length ≤ cur.size := by omega
  refine ⟨_, _, run_copy_any (P := P) w dT sT ty e g (o * i.size) dLen dCap a sLen sCap cur e cs hu hi hg hn hsrc hfit h1, ?_⟩
  have hxl : xs.length = n * i.size := hown.1
  refine hK _ ⟨?_, .inr ⟨g, cap, _, rfl, hog, setRow_heap w g cur _ e _ hg, hnc, hcm, ?_, ?_⟩⟩ (setRow_kp hg hog)
  · simp only [List.length_append, List.length_take, List.length_drop]; omega
  · simp only [List.size_toArray, List.length_append, List.length_take, List.length_drop, Array.length_toList]
    omega
  · simp only []
    apply List.ext_getElem?
    intro j
    rw [← htake]
    simp only [List.getElem?_take, List.getElem?_append, List.length_take, List.length_append, List.getElem?_drop, Array.length_toList, List.length_drop]
    repeat' split
    all_goals first | rfl | omega | (congr 1; omega) | skip
    all_goals (first | (symm; apply List.getElem?_eq_none; omega) | (apply List.getElem?_eq_none; simp; omega) | skip)
/-- 'append(s, t...)' where there is room: the row stays where it is. -/
theorem append_room {P : Program} {w : World} {own : Nat → Prop} {t ty e : TypeId} {size n c m c' k : Nat} {q : Option Addr} {a : Option Addr} {xs news : List Value} {K : Value → World → Prop}
    (ht : P.underlying t = some (.slice e)) (he : elemOk P e size = true) (hsz : 0 < size) (hown : OwnRow w own e size (.slice q k c) n xs) (hq : ∃ g, q = some ⟨g, 0, none⟩) (hl : news.length = m * size) (hnews : ∀ j u, news[j]? = some u → ∃ x, a = some x ∧ w.cell? (x.add j) = some u) (h1 : ∀ u ∈ news, u.oneCell' = true) (hroom : n + m ≤ c)
    (hK : ∀ w', OwnRow w' own e size (.slice q (n + m) c) (n + m) (xs ++ news) → Kp own w w' → K (.slice q (n + m) c) w') : Runs P (Builtin.append_ #[t, t] ty #[.slice q n c, .slice a m c']) w K := by
  obtain ⟨i, z, hi, hz, hsize, hzs, hby⟩ := elemOk_spec he
  subst hsize
  obtain ⟨g, rfl⟩ := hq
  have hlen : (xs ++ news).length = (n + m) * i.size := by rw [List.length_append, hown.1, hl, Nat.add_mul]
  rcases hown.2 with ⟨h0, _⟩ | ⟨g', cap, cur, h0, hog, hg, hnc, hcm, hcs, htake⟩
  · cases h0
  · cases h0
    by_cases hm : m = 0
    · subst hm
      have : news = [] := List.eq_nil_of_length_eq_zero (by simpa using hl)
      subst this
      refine ⟨_, w, ?_, hK w ⟨by simpa using hown.1, .inr ⟨g, c, cur, rfl, hog, hg, hnc, hcm, hcs, by simpa using htake⟩⟩ (Kp.refl _ _)⟩
      cases a <;> simp [Builtin.append_, run_underlying ht, sizeOf, typeInfo, hi, Builtin.lenOf, Builtin.firstCells, loadCells, loadCellsFrom, hnc, storeCells]
    · obtain ⟨x, rfl, _⟩ := hnews 0 (news[0]'(by rw [hl]; exact Nat.mul_pos (by omega) hsz)) (List.getElem?_eq_getElem _)
      have hn' : ∀ j u, news[j]? = some u → w.cell? (x.add j) = some u := fun j u hj => by
        obtain ⟨y, e, hc⟩ := hnews j u hj
        cases e; exact hc
      have hfit : n * i.size + news.length ≤ cur.size := by rw [hl, hcs, ← Nat.add_mul]; exact Nat.mul_le_mul_right _ hroom
      have hr := run_append_room (P := P) w t ty e i ht hi g n c cur hg x m c' news hl hn' h1 hroom hfit
      refine ⟨_, _, hr, hK _ ⟨hlen, .inr ⟨g, c, _, rfl, hog, setRow_heap w g cur _ e _ hg, hroom, hcm, ?_, ?_⟩⟩ (setRow_kp hg hog)⟩
      · simp only [List.size_toArray, List.length_append, List.length_take, List.length_drop, Array.length_toList]
        omega
      · rw [htake, ← hlen]
        exact List.take_left
/-- 'clear(s[n:n+d])' behind a row. -/
theorem clear_own {P : Program} {w : World} {own : Nat → Prop} {t ty e : TypeId} {size n c d k : Nat} {q : Option Addr} {xs : List Value} {z : Value} {K : Value → World → Prop}
    (ht : P.underlying t = some (.slice e)) (he : elemOk P e size = true) (hz : ∀ w, (zeroValue e).run P w = .ok z w) (h1 : ∀ u ∈ zerosL z d, u.oneCell' = true) (hzs : z.cells.size = size) (hown : OwnRow w own e size (.slice q n c) n xs) (hd : 0 < d) (hroom : n + d ≤ c) (hq : ∃ g, q = some ⟨g, 0, none⟩)
    (hK : ∀ w', OwnRow w' own e size (.slice q n c) n xs → Kp own w w' → K (.tuple #[]) w') : Runs P (Builtin.clear_ #[t] ty #[.slice (cutA q c n size) d k]) w K := by
  obtain ⟨g, rfl⟩ := hq
  rcases hown.2 with ⟨h0, _⟩ | ⟨g', cap, cur, h0, hog, hg, hnc, hcm, hcs, htake⟩
  · cases h0
  · cases h0
    rw [cut_at (by omega)]
    have hzl : (zerosL z d).length = d * size := by unfold zerosL; simp [Builtin.zeroCells, hzs]
    have hrm : (n + d) * size ≤ c * size := Nat.mul_le_mul_right _ hroom
    rw [Nat.add_mul] at hrm
    have hst := run_storeCells_at P g (n * size) e (zerosL z d) 0 cur w hg (by rw [hzl]; omega) h1
    simp only [Nat.add_zero] at hst
    have hr : (Builtin.clear_ #[t] ty #[.slice (some ⟨g, n * size, none⟩) d k]).run P w = .ok (.tuple #[]) (w.setRow g (cur.toList.take (n * size) ++ zerosL z d ++ cur.toList.drop (n * size + (zerosL z d).length)).toArray) := by
      cases d with
      | zero => omega
      | succ d =>
        unfold zerosL at hst ⊢
        simp [Builtin.clear_, run_underlying ht, hz]
        simp at hst
        rw [hst]
        rfl
    refine ⟨_, _, hr, hK _ ⟨hown.1, .inr ⟨g, c, _, rfl, hog, setRow_heap w g cur _ e _ hg, hnc, hcm, ?_, ?_⟩⟩ (setRow_kp hg hog)⟩
    · simp only [List.size_toArray, List.length_append, List.length_take, List.length_drop, Array.length_toList]
      omega
    · have hx := hown.1
      rw [htake, ← hx, List.append_assoc]
      exact List.take_left
/-- 'append(s[:i], make([]T, k)...)' where there is no room: a new row, and the old one is as it was. -/
theorem zeros_grow {P : Program} {w : World} {own : Nat → Prop} {t tn ty e : TypeId} {size : Nat} {z : Value} {kn kq : IntKind} {n k c : Nat} {q : Option Addr} {xs : List Value} {K : Value → World → Prop}
    (ht : P.underlying t = some (.slice e)) (htn : P.underlying tn = some (.int kn)) (he : elemOk P e size = true) (hzero : ∃ i, P.info? e = some i ∧ i.zero = some z) (hzs : z.cells.size = size) (hsz : 0 < size)
    (hown : OwnRow w own e size (.slice q n c) n xs) (hq : ∃ g, q = some ⟨g, 0, none⟩) (hk : 0 < k) (hroom : c < n + k) (hb : n + k ≤ 137438953472)
    (hK : ∀ g c w', OwnRow w' (fun i => w.heap.size ≤ i) e size (.slice (some ⟨g, 0, none⟩) (n + k) c) (n + k) (xs ++ zerosL z k) → w.heap.size ≤ g → Kp none_ w w' → K (.slice (some ⟨g, 0, none⟩) (n + k) c) w') : Runs P (Builtin.append_ #[t, tn] ty #[.slice q n c, .int kq k]) w K := by
  obtain ⟨i, z', hi, hz', hsize, _, hby⟩ := elemOk_spec he
  obtain ⟨i', hi', hz⟩ := hzero
  have : i' = i := by rw [hi] at hi'; exact (Option.some.inj hi').symm
  subst this
  subst hsize
  obtain ⟨g, rfl⟩ := hq
  have h63 : n + k ≤ maxLen := by simp only [maxLen]; omega
  have hb0 : (n + k) * i'.bytes ≤ 140737488355328 := Nat.le_trans (Nat.mul_le_mul_left _ (by omega : i'.bytes ≤ 1024)) (by omega)
  have kb : k * i'.bytes ≤ (n + k) * i'.bytes := Nat.mul_le_mul_right _ (by omega)
  have hzl : (zerosL z k).length = k * i'.size := by unfold zerosL; simp [Builtin.zeroCells, hzs]
  have hlen : (xs ++ zerosL z k).length = (n + k) * i'.size := by rw [List.length_append, hown.1, hzl, Nat.add_mul]
  rcases hown.2 with ⟨h0, _⟩ | ⟨g', cap, cur, h0, hog, hg, hnc, hcm, hcs, htake⟩
  · cases h0
  · cases h0
    have holds : ∀ j u, xs[j]? = some u → w.cell? ((⟨g, 0, none⟩ : Addr).add j) = some u := fun j u hj => by
      obtain ⟨_, e1, e2⟩ := hown.at hj
      cases e1; exact e2
    have hold := run_firstCells_some (P := P) w.drew i'.size n ⟨g, 0, none⟩ n c xs hown.1 holds
    have hr := Go.Lib.run_append_grow_zeros (P := P) w t tn ty e i' z kq kn ht htn hi hz (some ⟨g, 0, none⟩) n c xs hold k hk hsz (by omega) (by omega) (by omega) (growslice_fits (by omega) hb0)
    have hge := grownCap_ge w (n + k) c e
    refine ⟨_, _, hr, hK _ _ _ ⟨hlen, .inr ⟨w.heap.size, _, _, rfl, Nat.le_refl _, by rw [alloc_get]; exact if_pos rfl, hge, grownCap_le_maxLen w (n + k) c e h63, ?_, ?_⟩⟩ (Nat.le_refl _) ((Kp.refl none_ w).drew.alloc _ _)⟩
    · simp only [Array.size_append, List.size_toArray, size_zeroCells, hzs, hown.1, ← Nat.add_mul]
      congr 1
      omega
    · simp only [Array.toList_append, List.append_assoc]
      rw [← List.append_assoc, ← hlen]
      exact List.take_left
/-- Cells of a row, from an element on. -/
theorem OwnRow.drop_at {w : World} {own : Nat → Prop} {e : TypeId} {size n c m : Nat} {q : Option Addr} {xs : List Value} (h : OwnRow w own e size (.slice q m c) n xs) {o : Nat} (ho : c ≠ o) : ∀ j u, (xs.drop (o * size))[j]? = some u → ∃ x, cutA q c o size = some x ∧ w.cell? (x.add j) = some u := fun j u hj => by
  rw [List.getElem?_drop] at hj
  obtain ⟨a, rfl, hc⟩ := h.at hj
  refine ⟨a.add (o * size), ?_, ?_⟩
  · unfold cutA
    rw [if_neg ho]
    rfl
  · rw [add_add]; exact hc
end Go.SX
namespace Go.SX
open Go
/-- An element type's zero. -/
structure ZeroOk (P : Program) (e : TypeId) (size : Nat) (z : Value) : Prop where
  info : ∃ i, P.info? e = some i ∧ i.zero = some z
  size : z.cells.size = size
  one : ∀ u ∈ z.cells.toList, u.oneCell' = true
theorem ZeroOk.run {P : Program} {e : TypeId} {size : Nat} {z : Value} (h : ZeroOk P e size z) (w : World) : (zeroValue e).run P w = .ok z w := by
  obtain ⟨i, hi, hz⟩ := h.info
  simp [zeroValue, typeInfo, hi, hz]
theorem ZeroOk.ones {P : Program} {e : TypeId} {size : Nat} {z : Value} (h : ZeroOk P e size z) (hs : 0 < size) (k : Nat) : ∀ u ∈ zerosL z k, u.oneCell' = true := fun u hu => by
  unfold zerosL Builtin.zeroCells at hu
  simp only [Array.toList_map, Array.toList_range, List.mem_map] at hu
  obtain ⟨x, _, e⟩ := hu
  have hm : x % z.cells.size < z.cells.size := Nat.mod_lt _ (by rw [h.size]; exact hs)
  rw [getElem!_pos z.cells _ hm] at e
  refine h.one u ?_
  rw [← e]
  simp
theorem zerosL_len {z : Value} {size : Nat} (h : z.cells.size = size) (k : Nat) : (zerosL z k).length = k * size := by unfold zerosL; simp [Builtin.zeroCells, h]
theorem run_cap_row {P : Program} {t ty e : TypeId} {q : Option Addr} {n c : Nat} (ht : P.underlying t = some (.slice e)) (w : World) : (Builtin.cap_ #[t] ty #[.slice q n c]).run P w = .ok (.int .i64 c) w := by
  simp [Builtin.cap_, run_underlying ht, goInt]
/-- 'slices.overlaps' of a value that was just laid and a part of a row of one's own: they don't. -/
theorem overlaps_own {P : Program} {w : World} {f : FuncId} {fn : Func} {tS tR e : TypeId} {size g g2 o la ca lb cb : Nat} {cur cur2 : Array Value} {e2 : TypeId} {K : Value → World → Prop}
    (hf : P.funcs[f]? = some fn) (hname : (fn.name == "runtime.NumGoroutine") = false) (hb : fn.body.isNone = true) (hn : Extern.findNext fn = none) (he : Extern.find fn = some (Extern.SlicesOverlaps.overlaps #[tS, tS] #[tR]))
    (ht : P.underlying tS = some (.slice e)) (hok : elemOk P e size = true) (hg : w.heap[g]? = some (.cells cur e (0, 0))) (hg2 : w.heap[g2]? = some (.cells cur2 e2 (0, 0))) (hne : g2 ≠ g) (hcur : cur.size ≠ 0) (hK : K (.bool false) w) :
    RetsX P f #[.slice (some ⟨g2, 0, none⟩) la ca, .slice (some ⟨g, o, none⟩) lb cb] w K := by
  obtain ⟨i, z, hi, hz, hsize, _⟩ := elemOk_spec hok
  have h1 := Go.Lib.run_overlaps_apart (P := P) w tS tR e ht i.size (fun w => by simp [sizeOf, typeInfo, hi]) ⟨g2, 0, none⟩ ⟨g, o, none⟩ la ca lb cb hne e2 e cur2.size cur.size (by simp [World.shape?, hg2]) (by simp [World.shape?, hg]) hcur (by simp [World.frozen?, hg2]) (by simp [World.frozen?, hg2])
  exact ⟨_, _, by rw [run_callFunc_extern hf hname hb hn he, h1]; rfl, hK⟩
end Go.SX
namespace Go.SX
open Go
/-- A cell of a row of one's own is set. -/
theorem OwnRow.setCell {w : World} {own : Nat → Prop} {e : TypeId} {size n m c g : Nat} {xs : List Value} (h : OwnRow w own e size (.slice (some ⟨g, 0, none⟩) m c) n xs) {k : Nat} (hk : k < xs.length) :
    own g ∧ (∃ u, w.cell? ⟨g, k, none⟩ = some u) ∧ w.frozen? ⟨g, k, none⟩ = false ∧ ∀ x, OwnRow (w.setCell ⟨g, k, none⟩ x) own e size (.slice (some ⟨g, 0, none⟩) m c) n (xs.set k x) ∧ Kp own w (w.setCell ⟨g, k, none⟩ x) := by
  rcases h.2 with ⟨h0, _⟩ | ⟨g', cap, cur, h0, hog, hg, hnc, hcm, hcs, htake⟩
  · cases h0
  · cases h0
    have hxl := h.1
    have hle : n * size ≤ c * size := Nat.mul_le_mul_right _ hnc
    have hic : k < cur.size := by omega
    refine ⟨hog, ⟨cur[k], by simp [World.cell?, hg, hic]⟩, by simp [World.frozen?, hg], fun x => ⟨⟨by rw [List.length_set]; exact hxl, .inr ⟨g, c, cur.setIfInBounds k x, rfl, hog, ?_, hnc, hcm, by simpa using hcs, ?_⟩⟩, Kp.setCell (Kp.refl _ w) _ (.inl hog)⟩⟩
    · rw [setCell_eq_setRow w g k cur e (0, 0) _ hg]
      exact setRow_heap w g cur _ e _ hg
    · rw [Array.toList_setIfInBounds, List.take_set, htake]
end Go.SX
