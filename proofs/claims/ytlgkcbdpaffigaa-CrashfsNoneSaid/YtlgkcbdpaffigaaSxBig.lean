/- Great values. -/
import Derived.Test.YtlgkcbdpaffigaaSxBy
import Derived.Lib.SlBytesConst
set_option linter.unusedSimpArgs false
set_option linter.unusedVariables false
namespace Go.SX
open Go Go.Lib
/-! ### Great values: arrays of many cells -/
theorem cellsAt_of {w : World} {a : Addr} : ∀ {vs : List Value} {i : Nat}, (∀ j u, vs[j]? = some u → w.cell? (a.add (i + j)) = some u) → CellsAt w a i vs
  | [], _, _ => trivial
  | v :: r, i, h => ⟨by have := h 0 v rfl; simpa using this, cellsAt_of fun j u hj => by
      have := h (j + 1) u (by simpa using hj)
      rwa [show i + (j + 1) = i + 1 + j by omega] at this⟩
theorem cellsAt_get {w : World} {a : Addr} : ∀ {vs : List Value} {i : Nat}, CellsAt w a i vs → ∀ j u, vs[j]? = some u → w.cell? (a.add (i + j)) = some u
  | [], _, _, j, u, hj => by simp at hj
  | v :: r, i, h, 0, u, hj => by
    simp at hj; subst hj
    exact h.1
  | v :: r, i, h, j + 1, u, hj => by
    have := cellsAt_get h.2 j u (by simpa using hj)
    rwa [show i + 1 + j = i + (j + 1) by omega] at this
/-- A block that is one great value, of one's own. -/
def Big (w : World) (g : Nat) (e : TypeId) (cs : List Value) : Prop := w.heap[g]? = some (Obj.cells cs.toArray e (0, 0))
theorem Big.lt {w : World} {g : Nat} {e : TypeId} {cs : List Value} (h : Big w g e cs) : g < w.heap.size := (Array.getElem?_eq_some_iff.1 h).1
theorem Big.cell {w : World} {g : Nat} {e : TypeId} {cs : List Value} (h : Big w g e cs) (i : Nat) : w.cell? ⟨g, i, none⟩ = cs[i]? := by
  unfold World.cell?
  rw [h]
  simp
theorem Big.frz {w : World} {g : Nat} {e : TypeId} {cs : List Value} (h : Big w g e cs) (i : Nat) : w.frozen? ⟨g, i, none⟩ = false := by
  unfold World.frozen?
  rw [h]
  simp
theorem Big.cellsOf {w : World} {g : Nat} {e : TypeId} {cs : List Value} (h : Big w g e cs) : CellsOf w ⟨g, 0, none⟩ cs.length cs := ⟨rfl, cellsAt_of fun j u hj => by
  rw [Nat.zero_add, ad_add, Nat.zero_add, h.cell]; exact hj⟩
theorem Big.kp {S : Nat → Prop} {w w' : World} {g : Nat} {e : TypeId} {cs : List Value} (h : Big w g e cs) (hk : Kp S w w') (hs : ¬ S g) : Big w' g e cs := (hk.same g h.lt hs).trans h
theorem Big.new (w : World) (cs : Array Value) (e : TypeId) : Big (w.alloc (.cells cs e)) w.heap.size e cs.toList := by
  unfold Big
  rw [alloc_get, if_pos rfl]
theorem Big.set {w : World} {g : Nat} {e : TypeId} {cs : List Value} (h : Big w g e cs) (i : Nat) (v : Value) : Big (w.setCell ⟨g, i, none⟩ v) g e (cs.set i v) := by
  unfold Big
  rw [heap_setCell_same w g i cs.toArray e v h]
  simp
theorem Big.setKp {w : World} {g : Nat} (i : Nat) (v : Value) {S : Nat → Prop} (hs : S g) : Kp S w (w.setCell ⟨g, i, none⟩ v) := Kp.setCell (Kp.refl S w) v (.inl hs)
/-- A great value is stored. -/
theorem store_big {P : Program} {w : World} {t e : TypeId} {g : Nat} {cs vs : List Value} {K : Unit → World → Prop} (h : Big w g e cs) (hi : hasInfo P t = true) (hn : vs.length = sizeT P t) (hl : vs.length = cs.length) (h1 : ∀ v ∈ vs, v.oneCell' = true)
    (hK : ∀ w', Big w' g e vs → Kp (one_ g) w w' → K () w') : Runs P (Instr.storeAt t (.pointer (some ⟨g, 0, none⟩)) (.agg vs.toArray)) w K := by
  have hr := run_storeCells_fr (P := P) g 0 e (0, 0) vs 0 cs.toArray w h (.inl rfl) (by simp; omega) h1
  have hst : (Instr.storeAt t (.pointer (some ⟨g, 0, none⟩)) (.agg vs.toArray)).run P w = .ok () (w.setRow g (cs.toArray.toList.take (0 + 0) ++ vs ++ cs.toArray.toList.drop (0 + 0 + vs.length)).toArray) := by
    unfold Instr.storeAt
    simp only [Instr.sureAddr, Sem.run_bind, Sem.run_pure, Result.andThen_ok]
    exact run_storeVar hi (by simpa [Value.cells] using hn) (by simpa [Value.cells] using hr)
  refine ⟨(), _, hst, hK _ ?_ (setRow_kpf h rfl)⟩
  unfold Big
  rw [setRow_heap' w g cs.toArray _ e _ h]
  simp [hl]
/-- A byte of a row is set. -/
theorem Buf.setAt {w : World} {E : Nat} {e : TypeId} {q : Option Addr} {n c : Nat} {l : List UInt8} (h : Buf w E e (.slice q n c) l) {i : Nat} (hi : i < l.length) :
    ∃ g, q = some ⟨g, 0, none⟩ ∧ (∃ u, w.cell? ⟨g, i, none⟩ = some u) ∧ w.frozen? ⟨g, i, none⟩ = false ∧ ∀ x : UInt8, Buf (w.setCell ⟨g, i, none⟩ (.int .u8 x.toNat)) E e (.slice q n c) (l.set i x) ∧ Kp (fun i => E ≤ i) w (w.setCell ⟨g, i, none⟩ (.int .u8 x.toNat)) := by
  rcases h with ⟨_, rfl⟩ | ⟨g, cap, cur, fr, h1, h2, h3, h4, h5, h6, h7, h8⟩
  · simp at hi
  · cases h1
    have hic : i < cur.size := by omega
    refine ⟨g, rfl, ⟨cur[i], by simp [World.cell?, h3, hic]⟩, noFrz_cell h3 h4 hic, fun x => ⟨.inr ⟨g, _, cur.setIfInBounds i (.int .u8 x.toNat), fr, by rw [List.length_set], h2, ?_, by simpa using h4, by simpa using h5, h6, by simpa using h7, ?_⟩, Kp.setCell (Kp.refl _ w) _ (.inl h2)⟩⟩
    · rw [setCell_eq_setRow w g i cur e fr _ h3]
      exact setRow_heap w g cur _ e _ h3
    · rw [List.length_set, Array.toList_setIfInBounds, List.take_set, h8]
      unfold strCells ba
      simp [List.map_set]
theorem lit_buf {P : Program} {w : World} {t e : TypeId} {K : Value → World → Prop} (ht : P.underlying t = some (.slice e)) (he : byteT P e)
    (hK : ∀ v' w', Buf w' w.heap.size e v' [] → Kp none_ w w' → K v' w') : Runs P (Instr.buildSlice t 0 #[]) w K := by
  obtain ⟨i, hi, _⟩ := he
  refine lit_own (size := 1) ht ⟨i, hi⟩ fun w' r k => hK _ w' (Buf.of (own := fresh w) (n := 0) ?_ (fun i h => h)) k
  have : strCells (ba []) = [] := by simp [strCells, ba]
  rw [this]
  exact r
/-- 'make([]byte, n)' -/
theorem make_buf {P : Program} {w : World} {t e : TypeId} {n : Nat} {K : Value → World → Prop} (ht : P.underlying t = some (.slice e)) (he : byteT P e) (hn : n ≤ 137438953472)
    (hK : ∀ v' w', Buf w' w.heap.size e v' (List.replicate n 0) → Kp none_ w w' → K v' w') : Runs P (Instr.makeSlice t (.int .i64 n) (.int .i64 n)) w K := by
  obtain ⟨i, hi, hz, hs, hb⟩ := he
  refine make_own ht ⟨i, _, hi, hz, hs, rfl, by omega, fun w' r k => hK _ w' (Buf.of (own := fresh w) (n := n) ?_ (fun i h => h)) k⟩ hn
  have : strCells (ba (List.replicate n 0)) = List.replicate n (.int .u8 0) := by simp [strCells, ba]
  rw [this]
  exact r
/-- 'copy' into a row of bytes of one's own. -/
theorem buf_copy {P : Program} {w : World} {E : Nat} {t t' ty e : TypeId} {q q' : Option Addr} {n c c' : Nat} {xs ys : List UInt8} {K : Value → World → Prop} (ht : P.underlying t = some (.slice e)) (he : byteT P e)
    (h : Buf w E e (.slice q n c) xs) (hb : BytesAt w q' (ba ys))
    (hK : ∀ w', Buf w' E e (.slice q n c) (ys.take xs.length ++ xs.drop ys.length) → Kp (fun i => E ≤ i) w w' → K (.int .i64 (min ys.length xs.length : Nat)) w') :
    Runs P (Builtin.copy_ #[t, t'] ty #[.slice q n c, .slice q' ys.length c']) w K := by
  obtain ⟨i, hi, hz, hs, hby⟩ := he
  have hn : n = xs.length := h.lens.1
  subst hn
  by_cases h0 : min ys.length xs.length = 0
  · have e : ys.take xs.length ++ xs.drop ys.length = xs := by
      rcases Nat.eq_zero_or_pos ys.length with hy | hy
      · have : ys = [] := List.eq_nil_of_length_eq_zero hy
        subst this; simp
      · have : xs = [] := List.eq_nil_of_length_eq_zero (by omega)
        subst this; simp
    have hm : Nat.min ys.length xs.length = 0 := h0
    refine ⟨.int .i64 0, w, ?_, by have := hK w (by rw [e]; exact h) (Kp.refl _ _); rw [h0] at this; exact this⟩
    rcases h with ⟨h1, h2⟩ | ⟨g, cap, cur, fr, h1, h2, h3, h4⟩
    · subst h2
      cases h1
      cases q' <;> simp [Builtin.copy_, run_underlying ht, Builtin.lenOf, Builtin.firstCells, sizeOf, typeInfo, hi, hs, h0, loadCells, loadCellsFrom, storeCells, goInt]
    · cases h1
      cases q' <;> simp [Builtin.copy_, run_underlying ht, Builtin.lenOf, Builtin.firstCells, sizeOf, typeInfo, hi, hs, h0, loadCells, loadCellsFrom, storeCells, goInt]
  rcases h with ⟨_, h2⟩ | ⟨g, cap, cur, fr, h1, h2, h3, h4, h5, h6, h7, h8⟩
  · subst h2; simp at h0
  cases h1
  obtain ⟨a, rfl, _⟩ := hb 0 (by rw [ba_size]; omega)
  have hkl : (ys.take xs.length).length = min ys.length xs.length := by rw [List.length_take, Nat.min_comm]
  have hcl : (strCells (ba (ys.take xs.length))).length = min ys.length xs.length := by rw [strCells_length, ba_size, hkl]
  have hsrc : ∀ j u, (strCells (ba (ys.take xs.length)))[j]? = some u → w.cell? (a.add j) = some u := fun j u hj => by
    have hj' : j < (ba (ys.take xs.length)).size := by have := (List.getElem?_eq_some_iff.1 hj).1; rwa [strCells_length] at this
    rw [strCells_get hj', ba_get] at hj
    rw [ba_size, hkl] at hj'
    obtain ⟨a', e', hc⟩ := hb j (by rw [ba_size]; omega)
    cases e'
    rw [hc, ba_get, ← hj]
    simp
  have hl := run_loadCells_list (P := P) w a (strCells (ba (ys.take xs.length))) hsrc
  have hst := run_storeCells_fr (P := P) g 0 e fr (strCells (ba (ys.take xs.length))) 0 cur w h3 h4 (by rw [hcl]; omega) (strCells_oneCell _)
  rw [hcl] at hl hst
  simp only [Nat.add_zero, Nat.zero_add, List.take_zero, List.nil_append] at hst
  have hlen : (ys.take xs.length ++ xs.drop ys.length).length = xs.length := by simp [List.length_append]; omega
  have hnat : Nat.min ys.length xs.length = min ys.length xs.length := rfl
  refine ⟨.int .i64 (min ys.length xs.length : Nat), w.setRow g (strCells (ba (ys.take xs.length)) ++ cur.toList.drop (min ys.length xs.length)).toArray, ?_, hK _ (.inr ⟨g, _, _, fr, by rw [hlen], h2, setRow_heap w g cur _ e _ h3, ?_, by omega, h6, ?_, ?_⟩) (setRow_kpf h3 h2)⟩
  · simp [Builtin.copy_, run_underlying ht, Builtin.lenOf, Builtin.firstCells, sizeOf, typeInfo, hi, hs, hnat, hl, hst, goInt]
  · simp only [List.size_toArray, List.length_append, List.length_drop, Array.length_toList, hcl]
    rw [show min ys.length xs.length + (cur.size - min ys.length xs.length) = cur.size by omega]
    exact h4
  · simp only [List.size_toArray, List.length_append, List.length_drop, Array.length_toList, hcl]
    omega
  · rw [hlen]
    show (strCells (ba (ys.take xs.length)) ++ cur.toList.drop (min ys.length xs.length)).take xs.length = _
    rw [← ba_app, strCells_app, List.take_append, hcl, List.take_of_length_le (by rw [hcl]; omega)]
    congr 1
    have hd : ∀ (l : List UInt8) (k : Nat), (strCells (ba l)).drop k = strCells (ba (l.drop k)) := fun l k => by simp [strCells, ba]
    rw [List.take_drop, show min ys.length xs.length + (xs.length - min ys.length xs.length) = xs.length by omega, h8, hd]
    by_cases hyx : ys.length ≤ xs.length
    · rw [show min ys.length xs.length = ys.length by omega]
    · rw [List.drop_eq_nil_of_le (by omega), List.drop_eq_nil_of_le (by omega)]
/-- Bytes that were just laid, as a literal, appended. -/
theorem buf_lit {P : Program} {w : World} {E : Nat} {t ty e e' : TypeId} {v : Value} {l new : List UInt8} {cs : Array Value} {m m' : Nat} {K : Value → World → Prop} (ht : P.underlying t = some (.slice e)) (he : byteT P e) (h : Buf w E e v l) (hE : E ≤ w.heap.size) (hcs : cs.toList = strCells (ba new)) (hm : m = new.length) (hmax : l.length + new.length ≤ 137438953472)
    (hK : ∀ v' w', Buf w' E e v' (l ++ new) → Kp (fun i => E ≤ i) w w' → Keeps (w.alloc (.cells cs e')) w' [] → K v' w') : Runs P (Builtin.append_ #[t, t] ty #[v, .slice (some ⟨w.heap.size, 0, none⟩) m m']) (w.alloc (.cells cs e')) K := by
  have ka : Kp none_ w (w.alloc (.cells cs e')) := (Kp.refl none_ w).alloc1 _
  refine buf_app ht he (h.kp0 ka) (Nat.le_trans hE ka.size) hm (fun i hi => ⟨_, rfl, ?_⟩) hmax fun v' w' b k => hK v' w' b (ka.wide.trans k) k.keeps0
  rw [ad_add, Nat.zero_add]
  refine cell_alloc_new ?_
  rw [← Array.getElem?_toList, hcs]
  exact strCells_get hi
/-- '[]byte("..")', a constant. -/
theorem conv_lit {P : Program} {w : World} {t e : TypeId} {new : List UInt8} {cs : Array Value} {n : Nat} {K : Value → World → Prop} (ht : P.underlying t = some (.slice e)) (he : P.underlying e = some (.int .u8)) (hcs : cs.toList = strCells (ba new)) (hn : n = new.length) (hm : n ≤ maxLen)
    (hK : ∀ v' w', Buf w' w.heap.size e v' new → Kp none_ w w' → Keeps (w.alloc (.cells cs e)) w' [] → K v' w') : Runs P (convert t t (.slice (some ⟨w.heap.size, 0, none⟩) n n)) (w.alloc (.cells cs e)) K := by
  subst hn
  have hsz : cs.size = new.length := by rw [← Array.length_toList, hcs, strCells_length, ba_size]
  refine ⟨_, _, Go.Lib.run_convert_bytes_const w t e cs new.length new.length ht he, hK _ _ (.inr ⟨w.heap.size, _, cs, _, rfl, Nat.le_refl _, by rw [alloc_get, if_pos rfl], .inr (Nat.le_refl _), Nat.le_refl _, hm, hsz, ?_⟩) ((Kp.refl none_ w).alloc1 _) ⟨by rw [alloc_size, alloc_size]; exact Nat.le_refl _, fun b hb => by cases hb⟩⟩
  rw [hcs, List.take_of_length_le (by rw [strCells_length, ba_size]; exact Nat.le_refl _)]
end Go.SX
