/- Rows of bytes of one's own, by any set of blocks. -/
import Derived.Test.YtbpknjldphckgaaDoorQp
set_option linter.unusedSimpArgs false
set_option linter.unusedVariables false
namespace Go.SX
open Go Go.Lib
def BufO (w : World) (E : Nat → Prop) (e : TypeId) (v : Value) (l : List UInt8) : Prop :=
  (v = .slice none 0 0 ∧ l = []) ∨ ∃ g cap cur fr, v = .slice (some ⟨g, 0, none⟩) l.length cap ∧ E g ∧ w.heap[g]? = some (Obj.cells cur e fr) ∧ NoFrz fr cur.size ∧ l.length ≤ cap ∧ cap ≤ maxLen ∧ cur.size = cap ∧ cur.toList.take l.length = strCells (ba l)
theorem BufO.nil (w : World) (E : Nat → Prop) (e : TypeId) : BufO w E e (.slice none 0 0) [] := .inl ⟨rfl, rfl⟩
theorem BufO.buf {w : World} {E : Nat → Prop} {e : TypeId} {v : Value} {l : List UInt8} (h : BufO w E e v l) {F : Nat} (hF : ∀ g, E g → F ≤ g) : Buf w F e v l := by
  rcases h with h | ⟨g, cap, cur, fr, h1, h2, h3⟩
  · exact .inl h
  · exact .inr ⟨g, cap, cur, fr, h1, hF g h2, h3⟩
theorem BufO.slice {w : World} {E : Nat → Prop} {e : TypeId} {v : Value} {l : List UInt8} (h : BufO w E e v l) : ∃ q c, v = .slice q l.length c ∧ l.length ≤ c ∧ c ≤ maxLen := (h.buf (F := 0) fun _ _ => Nat.zero_le _).slice
theorem BufO.bytes {w : World} {E : Nat → Prop} {e : TypeId} {q : Option Addr} {n c : Nat} {l : List UInt8} (h : BufO w E e (.slice q n c) l) : BytesAt w q (ba l) := (h.buf (F := 0) fun _ _ => Nat.zero_le _).bytes
theorem BufO.lens {w : World} {E : Nat → Prop} {e : TypeId} {q : Option Addr} {n c : Nat} {l : List UInt8} (h : BufO w E e (.slice q n c) l) : n = l.length ∧ l.length ≤ c ∧ c ≤ maxLen := (h.buf (F := 0) fun _ _ => Nat.zero_le _).lens
/-- What is another's stays; the set may become another one on the blocks that are there. -/
theorem BufO.kp {S E F : Nat → Prop} {w w' : World} {e : TypeId} {v : Value} {l : List UInt8} (h : BufO w E e v l) (hk : Kp S w w') (hs : ∀ i, i < w.heap.size → E i → ¬ S i ∧ F i) : BufO w' F e v l := by
  rcases h with h | ⟨g, cap, cur, fr, h1, h2, h3, h4⟩
  · exact .inl h
  · have hl := (Array.getElem?_eq_some_iff.1 h3).1
    obtain ⟨a, b⟩ := hs g hl h2
    exact .inr ⟨g, cap, cur, fr, h1, b, (hk.same g hl a).trans h3, h4⟩
theorem BufO.kp0 {E : Nat → Prop} {w w' : World} {e : TypeId} {v : Value} {l : List UInt8} (h : BufO w E e v l) (hk : Kp none_ w w') : BufO w' E e v l := h.kp hk fun _ _ h => ⟨id, h⟩
section
variable {P : Program} {w : World} {E : Nat → Prop} {t ty e : TypeId} {v : Value} {l : List UInt8} {K : Value → World → Prop}
/-- The end of each append. -/
theorem bufo_put {g cap : Nat} {cur : Array Value} {fr : Nat × Nat} {new : List UInt8} (hE : E g) (hg : w.heap[g]? = some (Obj.cells cur e fr)) (hn : NoFrz fr cur.size) (hcm : cap ≤ maxLen) (hcs : cur.size = cap) (ht : cur.toList.take l.length = strCells (ba l)) (hroom : l.length + new.length ≤ cap) :
    BufO (w.setRow g (cur.toList.take l.length ++ strCells (ba new) ++ cur.toList.drop (l.length + new.length)).toArray) E e (.slice (some ⟨g, 0, none⟩) (l.length + new.length) cap) (l ++ new) := by
  have hl : (l ++ new).length = l.length + new.length := List.length_append
  refine .inr ⟨g, cap, _, fr, by rw [hl], hE, setRow_heap w g cur _ e _ hg, ?_, by omega, hcm, ?_, ?_⟩
  · rcases hn with h | h
    · exact .inl h
    · refine .inr ?_
      simp only [List.size_toArray, List.length_append, List.length_take, List.length_drop, Array.length_toList, strCells_length, ba_size]
      omega
  · simp only [List.size_toArray, List.length_append, List.length_take, List.length_drop, Array.length_toList, strCells_length, ba_size]
    omega
  · rw [ht, ← ba_app, strCells_app]
    have : (l ++ new).length = (strCells (ba l) ++ strCells (ba new)).length := by simp [strCells_length, ba_size]
    rw [this]
    exact List.take_left
theorem bufo_grown {old : Nat} {new : List UInt8} (hE : ∀ i, w.heap.size ≤ i → E i) (hm : l.length + new.length ≤ maxLen) :
    BufO (w.drew.alloc (.cells ((strCells (ba l)).toArray ++ (strCells (ba new)).toArray ++ Builtin.zeroCells (Value.int .u8 0).cells (grownCap w (l.length + new.length) old e - (l.length + new.length))) e)) E e (.slice (some ⟨w.heap.size, 0, none⟩) (l.length + new.length) (grownCap w (l.length + new.length) old e)) (l ++ new) ∧
    Kp E w (w.drew.alloc (.cells ((strCells (ba l)).toArray ++ (strCells (ba new)).toArray ++ Builtin.zeroCells (Value.int .u8 0).cells (grownCap w (l.length + new.length) old e - (l.length + new.length))) e)) := by
  have hge := grownCap_ge w (l.length + new.length) old e
  have hl : (l ++ new).length = l.length + new.length := List.length_append
  refine ⟨.inr ⟨w.heap.size, _, _, (0, 0), by rw [hl], hE _ (Nat.le_refl _), by rw [alloc_get]; exact if_pos rfl, .inl rfl, by omega, grownCap_le_maxLen w _ old e hm, ?_, ?_⟩, (Kp.refl _ w).drew.alloc _ _⟩
  · have hz1 : (Value.int IntKind.u8 0).cells.size = 1 := rfl
    simp only [Array.size_append, List.size_toArray, size_zeroCells, hz1, strCells_length, ba_size]
    omega
  · simp only [Array.toList_append, List.append_assoc]
    rw [← List.append_assoc, ← strCells_app, ba_app]
    have : (l ++ new).length = (strCells (ba (l ++ new))).length := by simp [strCells_length, ba_size]
    rw [this]
    exact List.take_left
/-- 'append(b, s...)', s a slice of bytes. -/
theorem bufo_app (ht : P.underlying t = some (.slice e)) (he : byteT P e) (h : BufO w E e v l) (hE : ∀ i, w.heap.size ≤ i → E i) {q : Option Addr} {m c : Nat} {new : List UInt8} (hm : m = new.length) (hb : BytesAt w q (ba new)) (hmax : l.length + new.length ≤ 137438953472)
    (hK : ∀ v' w', BufO w' E e v' (l ++ new) → Kp E w w' → K v' w') : Runs P (Builtin.append_ #[t, t] ty #[v, .slice q m c]) w K := by
  obtain ⟨i, hi, hz, hsz, hby⟩ := he
  subst hm
  by_cases h0 : new.length = 0
  · have : new = [] := List.eq_nil_of_length_eq_zero h0
    subst this
    refine ⟨v, w, ?_, hK _ _ (by rw [List.append_nil]; exact h) (Kp.refl _ _)⟩
    rcases h with ⟨rfl, _⟩ | ⟨g, cap, cur, fr, rfl, _, _, _, hnc, _⟩
    · cases q <;> simp [Builtin.append_, run_underlying ht, sizeOf, typeInfo, hi, Builtin.lenOf, Builtin.firstCells, loadCells, loadCellsFrom]
    · cases q <;> simp [Builtin.append_, run_underlying ht, sizeOf, typeInfo, hi, Builtin.lenOf, Builtin.firstCells, loadCells, loadCellsFrom, hnc, storeCells]
  obtain ⟨a, rfl, _⟩ := hb 0 (by rw [ba_size]; omega)
  have hnews : ∀ j u, (strCells (ba new))[j]? = some u → w.cell? (a.add j) = some u := fun j u hj => by
    have hj' : j < (ba new).size := by have := (List.getElem?_eq_some_iff.1 hj).1; rwa [strCells_length] at this
    rw [strCells_get hj'] at hj
    cases hj
    obtain ⟨a', e', hc⟩ := hb j hj'
    cases e'
    exact hc
  have hl : (strCells (ba new)).length = new.length * i.size := by rw [strCells_length, ba_size, hsz, Nat.mul_one]
  have h63 : l.length + new.length ≤ maxLen := by simp only [maxLen]; omega
  rcases h with ⟨rfl, rfl⟩ | ⟨g, cap, cur, fr, rfl, hEg, hg, hnf, hnc, hcm, hcs, htake⟩
  · have hr := run_append_nil (P := P) w t ty e i (.int .u8 0) ht hi hz a new.length c (strCells (ba new)) hl hnews (by omega) (by omega) (by rw [hby]; omega)
    obtain ⟨g1, g2⟩ := bufo_grown (w := w) (e := e) (l := []) (old := 0) (new := new) hE (by simpa using h63)
    simp only [List.length_nil, Nat.zero_add, List.nil_append] at g1 g2
    have e0 : (strCells (ba [])).toArray ++ (strCells (ba new)).toArray = (strCells (ba new)).toArray := by simp [strCells, ba]
    rw [e0] at g1 g2
    exact ⟨_, _, hr, hK _ _ g1 g2⟩
  · by_cases hroom : l.length + new.length ≤ cap
    · have hf := run_firstCells_some (P := P) w i.size new.length a new.length c (strCells (ba new)) hl hnews
      have hst := run_storeCells_fr (P := P) g l.length e fr (strCells (ba new)) 0 cur w hg hnf (by rw [strCells_length, ba_size]; omega) (strCells_oneCell _)
      simp only [Nat.add_zero, strCells_length, ba_size] at hst
      rw [hsz] at hf
      refine ⟨_, _, ?_, hK _ _ (bufo_put (new := new) hEg hg hnf hcm hcs htake hroom) (setRow_kpf hg hEg)⟩
      simp [Builtin.append_, run_underlying ht, sizeOf, typeInfo, hi, hsz, Builtin.lenOf, hroom, hf, Addr.add_lit, hst]
    · have holds : ∀ j u, (strCells (ba l))[j]? = some u → w.cell? ((⟨g, 0, none⟩ : Addr).add j) = some u := fun j u hj => by
        rw [ad_add, Nat.zero_add]
        rw [← htake, List.getElem?_take] at hj
        simp only [World.cell?, hg]
        split at hj
        · simpa using hj
        · cases hj
      have hr := run_append_grow (P := P) w t ty e i (.int .u8 0) ht hi hz ⟨g, 0, none⟩ l.length cap (strCells (ba l)) (by rw [strCells_length, ba_size, hsz, Nat.mul_one]) holds a new.length c (strCells (ba new)) hl hnews (by omega) (by omega) (by rw [hby]; exact growslice_fits (by omega) (by omega))
      obtain ⟨g1, g2⟩ := bufo_grown (w := w) (e := e) (l := l) (old := cap) (new := new) hE h63
      exact ⟨_, _, hr, hK _ _ g1 g2⟩
/-- 'append(b, s...)', s a string. -/
theorem bufo_str {u : TypeId} (ht : P.underlying t = some (.slice e)) (hu : P.underlying u = some .string) (he : byteT P e) (h : BufO w E e v l) (hE : ∀ i, w.heap.size ≤ i → E i) (s : ByteArray) (hmax : l.length + s.size ≤ 137438953472)
    (hK : ∀ v' w', BufO w' E e v' (l ++ s.data.toList) → Kp E w w' → K v' w') : Runs P (Builtin.append_ #[t, u] ty #[v, .string s]) w K := by
  obtain ⟨i, hi, hz, hsz, hby⟩ := he
  have hss : s.data.toList.length = s.size := by simp
  have h63 : l.length + s.data.toList.length ≤ maxLen := by simp only [maxLen]; omega
  have hbs : ba s.data.toList = s := ba_of s
  rcases h with ⟨rfl, rfl⟩ | ⟨g, cap, cur, fr, rfl, hEg, hg, hnf, hnc, hcm, hcs, htake⟩
  · by_cases h0 : s.size = 0
    · have : s.data.toList = [] := List.eq_nil_of_length_eq_zero (by omega)
      have hf := run_firstCells_string (P := P) w 1 s
      have hn : strCells s = [] := List.eq_nil_of_length_eq_zero (by rw [strCells_length]; exact h0)
      rw [h0] at hf
      refine ⟨.slice none 0 0, w, ?_, hK _ _ (by rw [this]; exact BufO.nil _ _ _) (Kp.refl _ _)⟩
      simp [Builtin.append_, run_underlying ht, run_underlying hu, sizeOf, typeInfo, hi, hsz, Builtin.lenOf, h0, hf]
    · have hr := run_append_nil_string (P := P) w t u ty e i (.int .u8 0) ht hu hi hz s (by omega) (by omega) (by rw [hby]; omega)
      obtain ⟨g1, g2⟩ := bufo_grown (w := w) (e := e) (l := []) (old := 0) (new := s.data.toList) hE (by simpa using h63)
      simp only [List.length_nil, Nat.zero_add, List.nil_append, hss, hbs] at g1 g2
      have e0 : (strCells (ba [])).toArray ++ (strCells s).toArray = (s.data.map fun b => Value.int .u8 b.toNat) := by
        apply Array.ext'
        simp [strCells, ba]
      rw [e0] at g1 g2
      exact ⟨_, _, hr, hK _ _ g1 g2⟩
  · by_cases hroom : l.length + s.size ≤ cap
    · have hf := run_firstCells_string (P := P) w 1 s
      have hst := run_storeCells_fr (P := P) g l.length e fr (strCells s) 0 cur w hg hnf (by rw [strCells_length]; omega) (strCells_oneCell _)
      simp only [Nat.add_zero, strCells_length] at hst
      have hp := bufo_put (w := w) (e := e) (new := s.data.toList) hEg hg hnf hcm hcs htake (by rw [hss]; exact hroom)
      rw [hss, hbs] at hp
      refine ⟨_, _, ?_, hK _ _ hp (setRow_kpf hg hEg)⟩
      simp [Builtin.append_, run_underlying ht, run_underlying hu, sizeOf, typeInfo, hi, hsz, Builtin.lenOf, hroom, hf, Addr.add_lit, hst]
    · have holds : ∀ j u, (strCells (ba l))[j]? = some u → w.cell? ((⟨g, 0, none⟩ : Addr).add j) = some u := fun j u hj => by
        rw [ad_add, Nat.zero_add]
        rw [← htake, List.getElem?_take] at hj
        simp only [World.cell?, hg]
        split at hj
        · simpa using hj
        · cases hj
      have hr := run_append_grow_string (P := P) w t u ty e i (.int .u8 0) ht hu hi hz ⟨g, 0, none⟩ l.length cap (strCells (ba l)) (by rw [strCells_length, ba_size, hsz, Nat.mul_one]) holds s (by omega) (by omega) (by rw [hby]; exact growslice_fits (by omega) (by omega))
      obtain ⟨g1, g2⟩ := bufo_grown (w := w) (e := e) (l := l) (old := cap) (new := s.data.toList) hE h63
      rw [hss, hbs] at g1 g2
      exact ⟨_, _, hr, hK _ _ g1 g2⟩
end
theorem bufo_lit {P : Program} {w : World} {E : Nat → Prop} {g : Nat} {t ty e e' : TypeId} {v : Value} {l new : List UInt8} {cs : Array Value} {m m' : Nat} {K : Value → World → Prop} (hg : ¬ E g) (hl : g < w.heap.size) (ht : P.underlying t = some (.slice e)) (he : byteT P e) (h : BufO w E e v l) (hE : ∀ i, w.heap.size ≤ i → E i) (hcs : cs.toList = strCells (ba new)) (hm : m = new.length) (hmax : l.length + new.length ≤ 137438953472)
    (hK : ∀ v' w', BufO w' E e v' (l ++ new) → Kp E w w' → Keeps (w.alloc (.cells cs e')) w' [g] → K v' w') : Runs P (Builtin.append_ #[t, t] ty #[v, .slice (some ⟨w.heap.size, 0, none⟩) m m']) (w.alloc (.cells cs e')) K := by
  have ka : Kp none_ w (w.alloc (.cells cs e')) := (Kp.refl none_ w).alloc1 _
  refine bufo_app ht he (h.kp0 ka) (fun i hi => hE i (Nat.le_trans ka.size hi)) hm (fun i hi => ⟨_, rfl, ?_⟩) hmax fun v' w' b k => hK v' w' b (ka.wide.trans k) (k.keeps fun x hx => by
    rw [List.mem_singleton] at hx
    subst hx
    exact ⟨by have := ka.size; omega, hg⟩)
  rw [ad_add, Nat.zero_add]
  refine cell_alloc_new ?_
  rw [← Array.getElem?_toList, hcs]
  exact strCells_get hi
end Go.SX
namespace Go.Proofs.YtbpknjldphckgaaDoor
open Go Go.SX Go.SX.Crc Go.Proofs Go.Lib
set_option maxRecDepth 100000
theorem k0_of {w w' : World} {gs : List Nat} (h : Keeps w w' gs) : Keeps w w' [] := ⟨h.1, fun b hb => by cases hb⟩
theorem c105o {w : World} {E : Nat → Prop} (g : Nat) (hg : ¬ E g) {q : Option Addr} {n c : Nat} {l : List UInt8} (h : BufO w E 5 (.slice q n c) l) (hgl : g < w.heap.size) (hE : ∀ i, w.heap.size ≤ i → E i) (hl : l.length ≤ 1000000000) (X : W32) :
    Rets Tryd.prog 105 #[.slice q n c, .int .u32 X.toNat, .int .i64 4] w fun v w' => BufO w' E 5 v (l ++ le4 X) ∧ Kp E w w' := by
  refine ent [_, _, _] Tryd.func105 ((vcTryd105 _ _ _ _ _ w _).mpr ?_)
  unfold VCTryd105
  refine (c157 4 w).mono ?_
  rintro v wx ⟨rfl, e⟩
  obtain rfl := e.symm
  refine ⟨_, rfl, (Kp.refl none_ _).keeps0, ?_⟩
  refine ⟨fun i m q n c w' => ∃ j : Nat, i = j ∧ j ≤ 4 ∧ m = ((X >>> (8 * j)).toNat : Int) ∧ BufO w' E 5 (.slice q n c) (l ++ (le4 X).take j) ∧ Kp E w w', fun i _ _ _ _ _ => (4 - i).toNat, ⟨0, rfl, by omega, by simp, by simpa using h, Kp.refl _ _⟩, ?_⟩
  rintro i m q n c w1 ⟨j, rfl, hj, rfl, b1, k1⟩
  have hE1 : ∀ i, w1.heap.size ≤ i → E i := fun i hi => hE i (Nat.le_trans k1.size hi)
  have h4 : (widthI 4 : Int) = 4 := by decide
  rw [h4]
  refine bif_dec (fun hlt => ?_) (fun hge => ⟨_, rfl, ?_, k1⟩)
  · have hj' : j < 4 := by omega
    have hX := X.isLt
    refine wrm8 ?_
    have e1 : (X >>> (8 * j)).toNat = X.toNat / 2 ^ (8 * j) := by rw [BitVec.toNat_ushiftRight, Nat.shiftRight_eq_div_pow]
    have e2 : (((X >>> (8 * j)).toNat : Int) % 256) = (((le4 X)[j]'(by rw [le4_len]; exact hj')).toNat : Int) := by
      rw [e1]
      have hc : j = 0 ∨ j = 1 ∨ j = 2 ∨ j = 3 := by omega
      rcases hc with rfl | rfl | rfl | rfl <;> simp only [le4, List.getElem_cons_zero, List.getElem_cons_succ, UInt8.toNat_ofNat'] <;> simp <;> omega
    rw [e2]
    refine bufo_lit (g := g) hg (Nat.lt_of_lt_of_le hgl k1.size) (new := [(le4 X)[j]'(by rw [le4_len]; exact hj')]) und27 byte5 b1 hE1 (by rw [byte_cell]) rfl (by simp [le4_len]; omega) fun v2 w2 b2 k2 kp2 => ?_
    rw [List.append_assoc, ← List.take_succ_eq_append_getElem] at b2
    obtain ⟨q2, c2, rfl, _, _⟩ := b2.slice
    refine ⟨_, _, _, rfl, k0_of kp2, by omega, wr64 (by omega) ⟨⟨j + 1, by omega, by omega, ?_, ?_, k1.trans k2⟩, by first | omega | (dsimp only; omega)⟩⟩
    · rw [show (8 : Int) = ((8 : Nat) : Int) by rfl, shr32 _ (by omega)]
      congr 2
    · exact b2
  · have : j = 4 := by omega
    subst this
    rw [List.take_of_length_le (by rw [le4_len]; omega)] at b1
    exact b1
end Go.Proofs.YtbpknjldphckgaaDoor
