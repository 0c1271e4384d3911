/- Rows of bytes, as lists. -/
import Derived.Test.YtlgkcbdpaffigaaSxApp
import Derived.Lib.ConvBytes
set_option linter.unusedSimpArgs false
set_option linter.unusedVariables false
namespace Go.SX
open Go Go.Lib

/-! ### What lies below a place and what is new -/
theorem cell_far {w w' : World} {E : Nat} {a : Addr} {v : Value} (h : w.cell? a = some v) (hk : Kp (fun i => E ≤ i) w w') (hE : w.heap.size ≤ E) : w'.cell? a = some v := hk.cell h fun hh => by have := cell_lt h; omega
theorem BytesAt.far {w w' : World} {E : Nat} {q : Option Addr} {s : ByteArray} (h : BytesAt w q s) (hk : Kp (fun i => E ≤ i) w w') (hE : w.heap.size ≤ E) : BytesAt w' q s := fun i hi => by
  obtain ⟨a, e, hc⟩ := h i hi
  exact ⟨a, e, cell_far hc hk hE⟩
theorem BytesAt.kp0 {w w' : World} {q : Option Addr} {s : ByteArray} (h : BytesAt w q s) (hk : Kp none_ w w') : BytesAt w' q s := fun i hi => by
  obtain ⟨a, e, hc⟩ := h i hi
  exact ⟨a, e, hk.cell0 hc⟩
theorem BytesAt.kp {S : Nat → Prop} {w w' : World} {q : Option Addr} {s : ByteArray} (h : BytesAt w q s) (hk : Kp S w w') (hs : 0 < s.size → ∀ a, q = some a → ¬ S a.block) : BytesAt w' q s := fun i hi => by
  obtain ⟨a, e, hc⟩ := h i hi
  exact ⟨a, e, hk.cell hc (by rw [add_block]; exact hs (by omega) a e)⟩
theorem BytesAt.lt {w : World} {q : Option Addr} {s : ByteArray} (h : BytesAt w q s) (h0 : 0 < s.size) : ∀ a, q = some a → a.block < w.heap.size := fun a ha => by
  obtain ⟨a', e, hc⟩ := h 0 h0
  rw [ha] at e
  cases e
  have := cell_lt hc
  rwa [add_block] at this
/-- What was changed is new. -/
theorem Kp.narrow {w w' : World} {E : Nat} (h : Kp (fun i => E ≤ i) w w') (hE : w.heap.size ≤ E) : Kp none_ w w' := ⟨h.os, h.tape, h.out, h.frz, h.size, fun i hi _ => h.same i hi (by omega)⟩
theorem Kp.wide {w w' : World} {S : Nat → Prop} (h : Kp none_ w w') : Kp S w w' := h.mono fun _ _ h => h.elim
theorem Kp.up {w w' : World} {E F : Nat} (h : Kp (fun i => F ≤ i) w w') (hE : E ≤ F) : Kp (fun i => E ≤ i) w w' := h.mono fun _ _ h => Nat.le_trans hE h

/-! ### Byte arrays -/
theorem strCells_app (a b : ByteArray) : strCells (a ++ b) = strCells a ++ strCells b := by
  unfold strCells
  rw [ByteArray.data_append, Array.toList_append, List.map_append]
theorem strCells_get {s : ByteArray} {i : Nat} (h : i < s.size) : (strCells s)[i]? = some (.int .u8 (s[i].toNat)) := by
  unfold strCells
  have : i < s.data.toList.length := by simpa using h
  rw [List.getElem?_map, List.getElem?_eq_getElem this]
  rfl
theorem ba_size_app (a b : ByteArray) : (a ++ b).size = a.size + b.size := ByteArray.size_append
/-- The byte array of bytes. -/
def ba (l : List UInt8) : ByteArray := ⟨l.toArray⟩
theorem ba_size (l : List UInt8) : (ba l).size = l.length := by simp [ba, ByteArray.size]
theorem ba_list (l : List UInt8) : (ba l).data.toList = l := by simp [ba]
theorem ba_of (s : ByteArray) : ba s.data.toList = s := by cases s; simp [ba]
theorem ba_app (a b : List UInt8) : ba a ++ ba b = ba (a ++ b) := by
  apply ByteArray.ext
  rw [ByteArray.data_append]
  simp [ba]
theorem ba_inj {a b : List UInt8} (h : ba a = ba b) : a = b := by rw [← ba_list a, h, ba_list]
theorem ba_get {l : List UInt8} {i : Nat} (h : i < (ba l).size) : (ba l)[i] = l[i]'(by rwa [ba_size] at h) := by
  show (ba l).data[i]'h = _
  simp [ba]

/-! ### Rows of bytes of one's own, a conversion's row among them -/
def NoFrz (fr : Nat × Nat) (n : Nat) : Prop := fr = (0, 0) ∨ n ≤ fr.1
def Buf (w : World) (E : Nat) (e : TypeId) (v : Value) (l : List UInt8) : Prop :=
  (v = .slice none 0 0 ∧ l = []) ∨ ∃ g cap cur fr, v = .slice (some ⟨g, 0, none⟩) l.length cap ∧ E ≤ g ∧ w.heap[g]? = some (Obj.cells cur e fr) ∧ NoFrz fr cur.size ∧ l.length ≤ cap ∧ cap ≤ maxLen ∧ cur.size = cap ∧ cur.toList.take l.length = strCells (ba l)
theorem Buf.nil (w : World) (E : Nat) (e : TypeId) : Buf w E e (.slice none 0 0) [] := .inl ⟨rfl, rfl⟩
theorem Buf.of {w : World} {own : Nat → Prop} {E : Nat} {e : TypeId} {v : Value} {n : Nat} {l : List UInt8} (h : OwnRow w own e 1 v n (strCells (ba l))) (ho : ∀ i, own i → E ≤ i) : Buf w E e v l := by
  have hn : l.length = n := by have := h.1; rw [strCells_length, ba_size] at this; omega
  subst hn
  rcases h.2 with ⟨h1, h2⟩ | ⟨g, cap, cur, h1, h2, h3, h4, h5, h6, h7⟩
  · exact .inl ⟨h1, List.eq_nil_of_length_eq_zero h2⟩
  · exact .inr ⟨g, cap, cur, (0, 0), h1, ho g h2, h3, .inl rfl, h4, h5, by simpa using h6, by simpa using h7⟩
theorem Buf.slice {w : World} {E : Nat} {e : TypeId} {v : Value} {l : List UInt8} (h : Buf w E e v l) : ∃ q c, v = .slice q l.length c ∧ l.length ≤ c ∧ c ≤ maxLen := by
  rcases h with ⟨h1, rfl⟩ | ⟨g, cap, cur, fr, h1, _, _, _, h4, h5, _⟩
  · exact ⟨_, _, h1, by simp, by simp [maxLen]⟩
  · exact ⟨_, _, h1, h4, h5⟩
theorem Buf.cell {w : World} {E : Nat} {e : TypeId} {q : Option Addr} {n c : Nat} {l : List UInt8} (h : Buf w E e (.slice q n c) l) {j : Nat} {u : Value} (hj : (strCells (ba l))[j]? = some u) : ∃ g, q = some ⟨g, 0, none⟩ ∧ w.cell? ⟨g, j, none⟩ = some u := by
  rcases h with ⟨h1, rfl⟩ | ⟨g, cap, cur, fr, h1, h2, h3, h4, h5, h6, h7, h8⟩
  · simp [strCells, ba] at hj
  · cases h1
    refine ⟨g, rfl, ?_⟩
    rw [← h8, List.getElem?_take] at hj
    simp only [World.cell?, h3]
    split at hj
    · simpa using hj
    · cases hj
theorem Buf.bytes {w : World} {E : Nat} {e : TypeId} {q : Option Addr} {n c : Nat} {l : List UInt8} (h : Buf w E e (.slice q n c) l) : BytesAt w q (ba l) := fun i hi => by
  obtain ⟨g, e, hc⟩ := h.cell (strCells_get hi)
  exact ⟨_, e, by rw [ad_add, Nat.zero_add]; exact hc⟩
theorem Buf.blk {w : World} {E : Nat} {e : TypeId} {q : Option Addr} {n c : Nat} {l : List UInt8} (h : Buf w E e (.slice q n c) l) : ∀ a, q = some a → E ≤ a.block ∧ a.block < w.heap.size := fun a ha => by
  rcases h with ⟨h1, rfl⟩ | ⟨g, cap, cur, fr, h1, h2, h3, _⟩
  · cases h1; cases ha
  · cases h1; cases ha
    exact ⟨h2, (Array.getElem?_eq_some_iff.1 h3).1⟩
theorem Buf.lens {w : World} {E : Nat} {e : TypeId} {q : Option Addr} {n c : Nat} {l : List UInt8} (h : Buf w E e (.slice q n c) l) : n = l.length ∧ l.length ≤ c ∧ c ≤ maxLen := by
  obtain ⟨_, _, h1, h2⟩ := h.slice
  cases h1
  exact ⟨rfl, h2⟩
theorem Buf.kp {S : Nat → Prop} {w w' : World} {E : Nat} {e : TypeId} {v : Value} {l : List UInt8} (h : Buf w E e v l) (hk : Kp S w w') (hs : ∀ i, S i → i < E) : Buf w' E e v l := by
  rcases h with h | ⟨g, cap, cur, fr, h1, h2, h3, h4⟩
  · exact .inl h
  · exact .inr ⟨g, cap, cur, fr, h1, h2, (hk.same g (Array.getElem?_eq_some_iff.1 h3).1 fun hh => by have := hs g hh; omega).trans h3, h4⟩
theorem Buf.kp0 {w w' : World} {E : Nat} {e : TypeId} {v : Value} {l : List UInt8} (h : Buf w E e v l) (hk : Kp none_ w w') : Buf w' E e v l := h.kp hk fun _ h => h.elim
theorem Buf.up {w : World} {E F : Nat} {e : TypeId} {v : Value} {l : List UInt8} (h : Buf w F e v l) (hE : E ≤ F) : Buf w E e v l := by
  rcases h with h | ⟨g, cap, cur, fr, h1, h2, h3⟩
  · exact .inl h
  · exact .inr ⟨g, cap, cur, fr, h1, by omega, h3⟩
/-- Nothing of it lies in a set. -/
theorem Buf.kpS {S : Nat → Prop} {w w' : World} {E : Nat} {e : TypeId} {q : Option Addr} {n c : Nat} {l : List UInt8} (h : Buf w E e (.slice q n c) l) (hk : Kp S w w') (hs : ∀ a, q = some a → ¬ S a.block) : Buf w' E e (.slice q n c) l := by
  rcases h with h | ⟨g, cap, cur, fr, h1, h2, h3, h4⟩
  · exact .inl h
  · cases h1
    exact .inr ⟨g, _, cur, fr, rfl, h2, (hk.same g (Array.getElem?_eq_some_iff.1 h3).1 (hs _ rfl)).trans h3, h4⟩

theorem setRow_heap' (w : World) (g : Nat) (cur cur' : Array Value) (t : TypeId) (fr : Nat × Nat) (hg : w.heap[g]? = some (Obj.cells cur t fr)) : (w.setRow g cur').heap[g]? = some (Obj.cells cur' t fr) := setRow_heap w g cur cur' t fr hg
theorem noFrz_cell {w : World} {g : Nat} {cur : Array Value} {t : TypeId} {fr : Nat × Nat} (hg : w.heap[g]? = some (Obj.cells cur t fr)) (h : NoFrz fr cur.size) {i : Nat} (hi : i < cur.size) : w.frozen? ⟨g, i, none⟩ = false := by
  simp only [World.frozen?, hg]
  rcases h with rfl | h
  · simp
  · have : ¬ fr.1 ≤ i := by omega
    simp [this]
theorem run_storeCells_fr {P : Program} (g o : Nat) (t : TypeId) (fr : Nat × Nat) : ∀ (vs : List Value) (i : Nat) (cur : Array Value) (w : World), w.heap[g]? = some (.cells cur t fr) → NoFrz fr cur.size → o + i + vs.length ≤ cur.size → (∀ v ∈ vs, v.oneCell' = true) →
    (storeCells ⟨g, o, none⟩ vs i).run P w = .ok () (w.setRow g (cur.toList.take (o + i) ++ vs ++ cur.toList.drop (o + i + vs.length)).toArray)
  | [], i, cur, w, hg, _, _, _ => by
    simp only [storeCells, List.append_nil, List.length_nil, Nat.add_zero, List.take_append_drop, Array.toArray_toList]
    rw [setRow_self w g cur t fr hg]
    rfl
  | v :: rest, i, cur, w, hg, hn, hl, h1 => by
    have hi : o + i < cur.size := by simp at hl; omega
    have hadd : (⟨g, o, none⟩ : Addr).add i = ⟨g, o + i, none⟩ := by unfold Addr.add; split <;> simp_all
    have hcell : w.cell? ⟨g, o + i, none⟩ = some cur[o + i] := by simp [World.cell?, hg, hi]
    have hfro : w.frozen? ⟨g, o + i, none⟩ = false := noFrz_cell hg hn hi
    have hst : (store ((⟨g, o, none⟩ : Addr).add i) v).run P w = .ok () (w.setRow g (cur.setIfInBounds (o + i) v)) := by
      rw [hadd, run_store P w _ v _ (h1 v (by simp)), hcell]
      simp [hfro, setCell_eq_setRow w g (o + i) cur t fr v hg]
    have ih := run_storeCells_fr (P := P) g o t fr rest (i + 1) (cur.setIfInBounds (o + i) v) (w.setRow g (cur.setIfInBounds (o + i) v)) (setRow_heap w g cur _ t _ hg) (by simpa using hn) (by simp at hl ⊢; omega) (fun x hx => h1 x (by simp [hx]))
    simp only [storeCells, Sem.run_bind, hst, Result.andThen_ok, ih, setRow_setRow]
    congr 3
    have e := list_seg_step cur.toList (o + i) v rest (by simp at hl ⊢; omega)
    simpa [Array.toList_setIfInBounds, Nat.add_assoc] using e
theorem setRow_kpf {w : World} {g : Nat} {cur cur' : Array Value} {e : TypeId} {fr : Nat × Nat} (hg : w.heap[g]? = some (Obj.cells cur e fr)) {S : Nat → Prop} (hs : S g) : Kp S w (w.setRow g cur') := by
  have hh : (w.setRow g cur').heap[g]? = some (Obj.cells cur' e fr) := setRow_heap w g cur cur' e _ hg
  refine ⟨rfl, rfl, rfl, fun a _ => ?_, by simp, fun i hi hn => setRow_other w g i _ (fun e => hn (e ▸ hs))⟩
  by_cases ha : a.block = g
  · unfold World.frozen?
    rw [ha, hh, hg]
  · unfold World.frozen?
    rw [setRow_other w g a.block _ ha]
/-- An element type of bytes. -/
def byteT (P : Program) (e : TypeId) : Prop := ∃ i, P.info? e = some i ∧ i.zero = some (.int .u8 0) ∧ i.size = 1 ∧ i.bytes = 1
theorem byteT_elem {P : Program} {e : TypeId} (h : byteT P e) : elemOk P e 1 = true := by
  obtain ⟨i, hi, hz, hs, hb⟩ := h
  unfold elemOk
  rw [hi]
  simp [hz, hs, hb, Value.cells]
section
variable {P : Program} {w : World} {E : Nat} {t ty e : TypeId} {v : Value} {l : List UInt8} {K : Value → World → Prop}
/-- The end of each append. -/
theorem buf_put {g cap : Nat} {cur : Array Value} {fr : Nat × Nat} {new : List UInt8} (hE : E ≤ g) (hg : w.heap[g]? = some (Obj.cells cur e fr)) (hn : NoFrz fr cur.size) (hcm : cap ≤ maxLen) (hcs : cur.size = cap) (ht : cur.toList.take l.length = strCells (ba l)) (hroom : l.length + new.length ≤ cap) :
    Buf (w.setRow g (cur.toList.take l.length ++ strCells (ba new) ++ cur.toList.drop (l.length + new.length)).toArray) E e (.slice (some ⟨g, 0, none⟩) (l.length + new.length) cap) (l ++ new) := by
  have hl : (l ++ new).length = l.length + new.length := List.length_append
  refine .inr ⟨g, cap, _, fr, by rw [hl], hE, setRow_heap w g cur _ e _ hg, ?_, by omega, hcm, ?_, ?_⟩
  · rcases hn with h | h
    · exact .inl h
    · refine .inr ?_
      simp only [List.size_toArray, List.length_append, List.length_take, List.length_drop, Array.length_toList, strCells_length, ba_size]
      omega
  · simp only [List.size_toArray, List.length_append, List.length_take, List.length_drop, Array.length_toList, strCells_length, ba_size]
    omega
  · rw [ht, ← ba_app, strCells_app]
    have : (l ++ new).length = (strCells (ba l) ++ strCells (ba new)).length := by simp [strCells_length, ba_size]
    rw [this]
    exact List.take_left
theorem buf_grown {old : Nat} {new : List UInt8} (hE : E ≤ w.heap.size) (hm : l.length + new.length ≤ maxLen) :
    Buf (w.drew.alloc (.cells ((strCells (ba l)).toArray ++ (strCells (ba new)).toArray ++ Builtin.zeroCells (Value.int .u8 0).cells (grownCap w (l.length + new.length) old e - (l.length + new.length))) e)) E e (.slice (some ⟨w.heap.size, 0, none⟩) (l.length + new.length) (grownCap w (l.length + new.length) old e)) (l ++ new) ∧
    Kp (fun i => E ≤ i) w (w.drew.alloc (.cells ((strCells (ba l)).toArray ++ (strCells (ba new)).toArray ++ Builtin.zeroCells (Value.int .u8 0).cells (grownCap w (l.length + new.length) old e - (l.length + new.length))) e)) := by
  have hge := grownCap_ge w (l.length + new.length) old e
  have hl : (l ++ new).length = l.length + new.length := List.length_append
  refine ⟨.inr ⟨w.heap.size, _, _, (0, 0), by rw [hl], hE, by rw [alloc_get]; exact if_pos rfl, .inl rfl, by omega, grownCap_le_maxLen w _ old e hm, ?_, ?_⟩, (Kp.refl _ w).drew.alloc _ _⟩
  · have hz1 : (Value.int IntKind.u8 0).cells.size = 1 := rfl
    simp only [Array.size_append, List.size_toArray, size_zeroCells, hz1, strCells_length, ba_size]
    omega
  · simp only [Array.toList_append, List.append_assoc]
    rw [← List.append_assoc, ← strCells_app, ba_app]
    have : (l ++ new).length = (strCells (ba (l ++ new))).length := by simp [strCells_length, ba_size]
    rw [this]
    exact List.take_left
/-- 'append(b, s...)', s a slice of bytes. -/
theorem buf_app (ht : P.underlying t = some (.slice e)) (he : byteT P e) (h : Buf w E e v l) (hE : E ≤ w.heap.size) {q : Option Addr} {m c : Nat} {new : List UInt8} (hm : m = new.length) (hb : BytesAt w q (ba new)) (hmax : l.length + new.length ≤ 137438953472)
    (hK : ∀ v' w', Buf w' E e v' (l ++ new) → Kp (fun i => E ≤ i) w w' → K v' w') : Runs P (Builtin.append_ #[t, t] ty #[v, .slice q m c]) w K := by
  obtain ⟨i, hi, hz, hsz, hby⟩ := he
  subst hm
  by_cases h0 : new.length = 0
  · have : new = [] := List.eq_nil_of_length_eq_zero h0
    subst this
    refine ⟨v, w, ?_, hK _ _ (by rw [List.append_nil]; exact h) (Kp.refl _ _)⟩
    rcases h with ⟨rfl, _⟩ | ⟨g, cap, cur, fr, rfl, _, _, _, hnc, _⟩
    · cases q <;> simp [Builtin.append_, run_underlying ht, sizeOf, typeInfo, hi, Builtin.lenOf, Builtin.firstCells, loadCells, loadCellsFrom]
    · cases q <;> simp [Builtin.append_, run_underlying ht, sizeOf, typeInfo, hi, Builtin.lenOf, Builtin.firstCells, loadCells, loadCellsFrom, hnc, storeCells]
  obtain ⟨a, rfl, _⟩ := hb 0 (by rw [ba_size]; omega)
  have hnews : ∀ j u, (strCells (ba new))[j]? = some u → w.cell? (a.add j) = some u := fun j u hj => by
    have hj' : j < (ba new).size := by have := (List.getElem?_eq_some_iff.1 hj).1; rwa [strCells_length] at this
    rw [strCells_get hj'] at hj
    cases hj
    obtain ⟨a', e', hc⟩ := hb j hj'
    cases e'
    exact hc
  have hl : (strCells (ba new)).length = new.length * i.size := by rw [strCells_length, ba_size, hsz, Nat.mul_one]
  have h63 : l.length + new.length ≤ maxLen := by simp only [maxLen]; omega
  rcases h with ⟨rfl, rfl⟩ | ⟨g, cap, cur, fr, rfl, hEg, hg, hnf, hnc, hcm, hcs, htake⟩
  · have hr := run_append_nil (P := P) w t ty e i (.int .u8 0) ht hi hz a new.length c (strCells (ba new)) hl hnews (by omega) (by omega) (by rw [hby]; omega)
    obtain ⟨g1, g2⟩ := buf_grown (w := w) (e := e) (l := []) (old := 0) (new := new) hE (by simpa using h63)
    simp only [List.length_nil, Nat.zero_add, List.nil_append] at g1 g2
    have e0 : (strCells (ba [])).toArray ++ (strCells (ba new)).toArray = (strCells (ba new)).toArray := by simp [strCells, ba]
    rw [e0] at g1 g2
    exact ⟨_, _, hr, hK _ _ g1 g2⟩
  · by_cases hroom : l.length + new.length ≤ cap
    · have hf := run_firstCells_some (P := P) w i.size new.length a new.length c (strCells (ba new)) hl hnews
      have hst := run_storeCells_fr (P := P) g l.length e fr (strCells (ba new)) 0 cur w hg hnf (by rw [strCells_length, ba_size]; omega) (strCells_oneCell _)
      simp only [Nat.add_zero, strCells_length, ba_size] at hst
      rw [hsz] at hf
      refine ⟨_, _, ?_, hK _ _ (buf_put (new := new) hEg hg hnf hcm hcs htake hroom) (setRow_kpf hg hEg)⟩
      simp [Builtin.append_, run_underlying ht, sizeOf, typeInfo, hi, hsz, Builtin.lenOf, hroom, hf, Addr.add_lit, hst]
    · have holds : ∀ j u, (strCells (ba l))[j]? = some u → w.cell? ((⟨g, 0, none⟩ : Addr).add j) = some u := fun j u hj => by
        rw [ad_add, Nat.zero_add]
        rw [← htake, List.getElem?_take] at hj
        simp only [World.cell?, hg]
        split at hj
        · simpa using hj
        · cases hj
      have hr := run_append_grow (P := P) w t ty e i (.int .u8 0) ht hi hz ⟨g, 0, none⟩ l.length cap (strCells (ba l)) (by rw [strCells_length, ba_size, hsz, Nat.mul_one]) holds a new.length c (strCells (ba new)) hl hnews (by omega) (by omega) (by rw [hby]; exact growslice_fits (by omega) (by omega))
      obtain ⟨g1, g2⟩ := buf_grown (w := w) (e := e) (l := l) (old := cap) (new := new) hE h63
      exact ⟨_, _, hr, hK _ _ g1 g2⟩
/-- 'append(b, s...)', s a string. -/
theorem buf_str {u : TypeId} (ht : P.underlying t = some (.slice e)) (hu : P.underlying u = some .string) (he : byteT P e) (h : Buf w E e v l) (hE : E ≤ w.heap.size) (s : ByteArray) (hmax : l.length + s.size ≤ 137438953472)
    (hK : ∀ v' w', Buf w' E e v' (l ++ s.data.toList) → Kp (fun i => E ≤ i) w w' → K v' w') : Runs P (Builtin.append_ #[t, u] ty #[v, .string s]) w K := by
  obtain ⟨i, hi, hz, hsz, hby⟩ := he
  have hss : s.data.toList.length = s.size := by simp
  have h63 : l.length + s.data.toList.length ≤ maxLen := by simp only [maxLen]; omega
  have hbs : ba s.data.toList = s := ba_of s
  rcases h with ⟨rfl, rfl⟩ | ⟨g, cap, cur, fr, rfl, hEg, hg, hnf, hnc, hcm, hcs, htake⟩
  · by_cases h0 : s.size = 0
    · have : s.data.toList = [] := List.eq_nil_of_length_eq_zero (by omega)
      have hf := run_firstCells_string (P := P) w 1 s
      have hn : strCells s = [] := List.eq_nil_of_length_eq_zero (by rw [strCells_length]; exact h0)
      rw [h0] at hf
      refine ⟨.slice none 0 0, w, ?_, hK _ _ (by rw [this]; exact Buf.nil _ _ _) (Kp.refl _ _)⟩
      simp [Builtin.append_, run_underlying ht, run_underlying hu, sizeOf, typeInfo, hi, hsz, Builtin.lenOf, h0, hf]
    · have hr := run_append_nil_string (P := P) w t u ty e i (.int .u8 0) ht hu hi hz s (by omega) (by omega) (by rw [hby]; omega)
      obtain ⟨g1, g2⟩ := buf_grown (w := w) (e := e) (l := []) (old := 0) (new := s.data.toList) hE (by simpa using h63)
      simp only [List.length_nil, Nat.zero_add, List.nil_append, hss, hbs] at g1 g2
      have e0 : (strCells (ba [])).toArray ++ (strCells s).toArray = (s.data.map fun b => Value.int .u8 b.toNat) := by
        apply Array.ext'
        simp [strCells, ba]
      rw [e0] at g1 g2
      exact ⟨_, _, hr, hK _ _ g1 g2⟩
  · by_cases hroom : l.length + s.size ≤ cap
    · have hf := run_firstCells_string (P := P) w 1 s
      have hst := run_storeCells_fr (P := P) g l.length e fr (strCells s) 0 cur w hg hnf (by rw [strCells_length]; omega) (strCells_oneCell _)
      simp only [Nat.add_zero, strCells_length] at hst
      have hp := buf_put (w := w) (e := e) (new := s.data.toList) hEg hg hnf hcm hcs htake (by rw [hss]; exact hroom)
      rw [hss, hbs] at hp
      refine ⟨_, _, ?_, hK _ _ hp (setRow_kpf hg hEg)⟩
      simp [Builtin.append_, run_underlying ht, run_underlying hu, sizeOf, typeInfo, hi, hsz, Builtin.lenOf, hroom, hf, Addr.add_lit, hst]
    · have holds : ∀ j u, (strCells (ba l))[j]? = some u → w.cell? ((⟨g, 0, none⟩ : Addr).add j) = some u := fun j u hj => by
        rw [ad_add, Nat.zero_add]
        rw [← htake, List.getElem?_take] at hj
        simp only [World.cell?, hg]
        split at hj
        · simpa using hj
        · cases hj
      have hr := run_append_grow_string (P := P) w t u ty e i (.int .u8 0) ht hu hi hz ⟨g, 0, none⟩ l.length cap (strCells (ba l)) (by rw [strCells_length, ba_size, hsz, Nat.mul_one]) holds s (by omega) (by omega) (by rw [hby]; exact growslice_fits (by omega) (by omega))
      obtain ⟨g1, g2⟩ := buf_grown (w := w) (e := e) (l := l) (old := cap) (new := s.data.toList) hE h63
      rw [hss, hbs] at g1 g2
      exact ⟨_, _, hr, hK _ _ g1 g2⟩
/-- '[]byte(s)' -/
theorem buf_conv {src : TypeId} {d : TypeDesc} (hs : P.underlying src = some d) (hd : P.underlying t = some (.slice e)) (he : P.underlying e = some (.int .u8)) (s : ByteArray) (hE : E ≤ w.heap.size) (hm : s.size ≤ maxLen)
    (hK : ∀ v' w', Buf w' E e v' s.data.toList → Kp none_ w w' → K v' w') : Runs P (convert src t (.string s)) w K := by
  have hr := Go.Lib.run_convert_string_bytes (P := P) w src t e s hs hd he
  refine ⟨_, _, hr, hK _ _ ?_ ?_⟩
  · have hge := grownCap_ge w s.size 0 e
    have hcs : (bytesCells w e s).size = grownCap w s.size 0 e := by
      unfold bytesCells
      simp only [Array.size_append, Array.size_map, Array.size_replicate]
      have : s.data.size = s.size := rfl
      omega
    refine .inr ⟨w.heap.size, grownCap w s.size 0 e, bytesCells w e s, _, by simp, hE, bytesWorld_at_new w e s, .inr (Nat.le_refl _), by simpa using hge, grownCap_le_maxLen w _ _ _ hm, hcs, ?_⟩
    unfold bytesCells
    rw [Array.toList_append, Array.toList_map, ba_of]
    have : s.data.toList.length = (List.map (fun b => Value.int IntKind.u8 b.toNat) s.data.toList).length := by simp
    rw [this, List.take_left]
    rfl
  · refine ⟨rfl, rfl, rfl, fun a ha => ?_, by rw [bytesWorld_size]; omega, fun i hi _ => bytesWorld_at_old w e s i hi⟩
    unfold World.frozen?
    rw [bytesWorld_at_old w e s a.block ha]
end
end Go.SX
