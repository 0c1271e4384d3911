import Derived.Test.YtbpknjldphckgaaDoorQc
import Derived.Test.YtbpknjldphckgaaDoorVcb
import Derived.Test.YtbpknjldphckgaaDoorShf
import Derived.Test.YtbpknjldphckgaaDoorSxIter
import Derived.Test.YtbpknjldphckgaaDoorSxName
namespace Go.Proofs.YtbpknjldphckgaaDoor
open Go Go.SX Go.SX.Crc Go.Proofs Go.Lib
set_option maxRecDepth 100000
set_option linter.unusedVariables false
set_option linter.unusedSimpArgs false
/-! ### Names -/
/-- A variable of the library's holds some number. -/
def ML (w : World) : Prop := ∃ m, w.cell? ⟨0, 0, none⟩ = some (.int .i64 m)
theorem ML.kp0 {w w' : World} (h : ML w) (hk : Kp none_ w w') : ML w' := by obtain ⟨m, h⟩ := h; exact ⟨m, hk.cell0 h⟩
theorem ML.far {w w' : World} {E : Nat} (h : ML w) (hk : Kp (fun i => E ≤ i) w w') (hE : w.heap.size ≤ E) : ML w' := by obtain ⟨m, h⟩ := h; exact ⟨m, cell_far h hk hE⟩
theorem ML.kp {S : Nat → Prop} {w w' : World} (h : ML w) (hk : Kp S w w') (hs : ¬ S 0) : ML w' := by obtain ⟨m, h⟩ := h; exact ⟨m, hk.cell h hs⟩
abbrev bytesL (s : ByteArray) : List UInt8 := s.data.toList
theorem bytesL_size (s : ByteArray) : (bytesL s).length = s.size := by simp
theorem beq_str (s t : ByteArray) : (s.toList == t.toList) = (bytesL s == bytesL t) := by rw [ByteArray.toList_eq, ByteArray.toList_eq]
theorem bytesL_inj {s t : ByteArray} (h : bytesL s = bytesL t) : s = t := by rw [← ba_of s, ← ba_of t]; exact congrArg ba h
theorem bytesL_get {s : ByteArray} {i : Nat} (h : i < s.size) : s[i] = (bytesL s)[i]'(by rw [bytesL_size]; exact h) := by
  cases s with
  | mk bs => rfl
theorem und9 : Tryd.prog.underlying 9 = some .string := Tryd.underlying9
theorem all_drop {f : UInt8 → Bool} {l : List UInt8} {j : Nat} (h : j < l.length) (h1 : (l.take j).all f = true) (h2 : f l[j] = false) : l.all f = false := by
  rw [← Bool.not_eq_true, List.all_eq_true]
  intro hh
  have := hh l[j] (List.getElem_mem h)
  rw [this] at h2; cases h2
theorem c156 (s : ByteArray) (w : World) : Rets Tryd.prog 156 #[.string s] w fun v w' => v = .bool (okPart (bytesL s)) ∧ Kp none_ w w' := by
  refine ent [_] Tryd.func156 ((vcTryd156 _ w _).mpr ?_)
  unfold VCTryd156
  refine range_str und9 ⟨_, rfl, ((Kp.refl none_ w).alloc1 _).keeps0, ?_⟩
  refine ⟨fun w' => ∃ j : Nat, j ≤ s.size ∧ w'.heap[w.heap.size]? = some (.stringIter s j) ∧ ((bytesL s).take j).all okByte = true ∧ Kp (fun i => w.heap.size ≤ i) w w', fun w' => s.size - w'.iterPos w.heap.size,
    ⟨0, by omega, by rw [alloc_get, if_pos rfl], by simp, ((Kp.refl _ w).alloc1 _)⟩, ?_⟩
  rintro w1 ⟨j, hj, hit, hall, k1⟩
  have hlt : w.heap.size < w1.heap.size := (Array.getElem?_eq_some_iff.1 hit).1
  refine next_str hit (fun hpos => ?_) (fun hend => ?_)
  · have kk : ∀ o : Obj, o.isCells = false → Kp (fun i => w.heap.size ≤ i) w (w1.putObj w.heap.size o) := fun o ho => k1.trans (Kp.putObj1 o hit rfl ho (Nat.le_refl _))
    have kp : ∀ o : Obj, Keeps w1 (w1.putObj w.heap.size o) [] := fun o => ⟨by rw [World.putObj_size]; exact Nat.le_refl _, fun b hb => by cases hb⟩
    have hjl : j < (bytesL s).length := by rw [bytesL_size]; exact hpos
    refine .inr ⟨_, _, rfl, kp _, ?_⟩
    have ret : okByte ((bytesL s)[j]) = false → ∀ o : Obj, o.isCells = false → ∃ v, Ending.returned (Value.bool false) = Ending.returned v ∧ v = .bool (okPart (bytesL s)) ∧ Kp none_ w (w1.putObj w.heap.size o) := fun h o ho => by
      refine ⟨_, rfl, ?_, (kk o ho).narrow (Nat.le_refl _)⟩
      unfold okPart
      rw [all_drop hjl hall h]
      simp
    have hb : s[j] = (bytesL s)[j] := bytesL_get hpos
    by_cases hlow : (s[j]).toNat < 128
    · rw [dec_low hpos hlow]
      rw [hb] at hlow ⊢
      refine bif_dec (fun h => ret ?_ _ rfl) (fun h => bif_dec (fun h' => ret ?_ _ rfl) (fun h' => ⟨⟨j + 1, by omega, ?_, ?_, kk _ rfl⟩, ?_⟩))
      · unfold okByte; exact decide_eq_false (by omega)
      · unfold okByte; exact decide_eq_false (by omega)
      · exact World.putObj_heap_same hlt
      · rw [List.take_succ_eq_append_getElem hjl, List.all_append, hall]
        have : okByte (bytesL s)[j] = true := by unfold okByte; exact decide_eq_true (by omega)
        simpa using this
      · have e1 : w1.iterPos w.heap.size = j := by simp [World.iterPos, hit]
        have e2 : (w1.putObj w.heap.size (.stringIter s (j + 1))).iterPos w.heap.size = j + 1 := by simp [World.iterPos, World.putObj_heap_same hlt]
        show s.size - (w1.putObj w.heap.size (.stringIter s (j + 1))).iterPos w.heap.size < s.size - w1.iterPos w.heap.size
        rw [e1, e2]; omega
    · have hd := (dec_high hpos hlow).1
      refine bif_dec (fun h => absurd h (by omega)) (fun h => bif_dec (fun h' => ret ?_ _ rfl) (fun h' => absurd (by omega) h'))
      rw [hb] at hlow
      unfold okByte; exact decide_eq_false (by omega)
  · refine .inl ⟨rfl, (Kp.refl none_ _).keeps0, ?_⟩
    have hjs : j = s.size := by omega
    rw [hjs, ← bytesL_size, List.take_length] at hall
    have kf := k1.narrow (Nat.le_refl _)
    simp only [beq_str]
    have e0 : bytesL ({ data := #[] } : ByteArray) = [] := rfl
    have e1 : bytesL ({ data := #[46] } : ByteArray) = [46] := rfl
    have e2 : bytesL ({ data := #[46, 46] } : ByteArray) = [46, 46] := rfl
    rw [e0, e1, e2]
    unfold okPart
    rw [hall]
    refine bif_not (fun h0 => bif_not (fun h1 => ⟨_, rfl, ?_, kf⟩) (fun h1 => ⟨_, rfl, ?_, kf⟩)) (fun h0 => ⟨_, rfl, ?_, kf⟩)
    · rw [h0, h1]; simp
    · rw [h1]; simp
    · rw [h0]; simp
/-- Strings in memory. -/
def Strs (w : World) (q : Option Addr) (ss : List ByteArray) : Prop := ∀ i (h : i < ss.length), ∃ a, q = some a ∧ w.cell? (a.add i) = some (.string ss[i])
theorem Strs.kp0 {w w' : World} {q : Option Addr} {ss : List ByteArray} (h : Strs w q ss) (hk : Kp none_ w w') : Strs w' q ss := fun i hi => by
  obtain ⟨a, e, hc⟩ := h i hi
  exact ⟨a, e, hk.cell0 hc⟩
theorem strs_get {w : World} {q : Option Addr} {ss : List ByteArray} (h : Strs w q ss) {i : Nat} (hi : i < ss.length) {K : Addr → ByteArray → Prop} (hK : ∀ a, q = some a → K a ss[i]) :
    Ptr q fun a => ∃ x, w.cell? (a.add ((i : Int).toNat * 1)) = some (.string x) ∧ K a x := by
  obtain ⟨a, e, hc⟩ := h i hi
  subst e
  rw [ptr_some]
  exact ⟨_, by rw [Nat.mul_one, Int.toNat_natCast]; exact hc, hK a rfl⟩
theorem c155 (s : ByteArray) (w : World) : Rets Tryd.prog 155 #[.string s] w fun v w' => v = .bool (!okPart (bytesL s)) ∧ Kp none_ w w' := by
  refine ent [_] Tryd.func155 ((vcTryd155 _ w _).mpr ?_)
  unfold VCTryd155
  refine (c156 s w).mono ?_
  rintro v w1 ⟨rfl, k1⟩
  exact ⟨_, rfl, k1.keeps0, _, rfl, rfl, k1⟩
theorem isGo155 : isGo Tryd.prog 155 = true := by kernel_rfl
theorem c183 {w : World} {q : Option Addr} {c : Nat} {ss : List ByteArray} (h : Strs w q ss) (hl : ss.length ≤ 1000000000) : Rets Tryd.prog 183 #[.slice q ss.length c, .func (.func 155) #[] #[]] w fun v w' =>
    (∃ i : Int, v = .int .i64 i ∧ (decide (i ≥ 0) = !(ss.all fun s => okPart (bytesL s)))) ∧ Kp none_ w w' := by
  refine ent [_, _] Tryd.func183 ((vcTryd183 _ _ _ _ w _).mpr ?_)
  unfold VCTryd183
  refine ⟨fun i w' => ∃ j : Nat, i = j ∧ j ≤ ss.length ∧ ((ss.take j).all fun s => okPart (bytesL s)) = true ∧ Kp none_ w w', fun i _ => (ss.length - i).toNat, ⟨0, rfl, by omega, by simp, Kp.refl _ _⟩, ?_⟩
  rintro i w1 ⟨j, rfl, hj, hall, k1⟩
  refine bif_dec (fun hlt => ⟨⟨by omega, hlt⟩, strs_get (h.kp0 k1) (i := j) (by omega) fun a ha => ?_⟩) (fun hge => ⟨_, rfl, ⟨_, rfl, ?_⟩, k1⟩)
  · have hj' : j < ss.length := by omega
    refine ⟨isGo155, ?_⟩
    show Rets Tryd.prog 155 #[.string ss[j]] w1 _
    refine (c155 _ w1).mono ?_
    rintro v w2 ⟨rfl, k2⟩
    refine ⟨_, rfl, k2.keeps0, bif_not (fun hp => ⟨_, rfl, ⟨_, rfl, ?_⟩, k1.trans k2⟩) (fun hp => wr64 (by omega) ⟨⟨j + 1, by omega, by omega, ?_, k1.trans k2⟩, by first | omega | (dsimp only; omega)⟩)⟩
    · have : (ss.all fun s => okPart (bytesL s)) = false := by
        rw [← Bool.not_eq_true, List.all_eq_true]
        intro hh
        have := hh ss[j] (List.getElem_mem hj')
        rw [this] at hp; cases hp
      rw [this]
      exact decide_eq_true (by omega)
    · rw [List.take_succ_eq_append_getElem hj', List.all_append, hall]
      simp [hp]
  · have : j = ss.length := by omega
    rw [this, List.take_length] at hall
    rw [hall]
    decide
theorem c153 {w : World} {q : Option Addr} {c : Nat} {ss : List ByteArray} (h : Strs w q ss) (hl : ss.length ≤ 1000000000) : Rets Tryd.prog 153 #[.slice q ss.length c, .func (.func 155) #[] #[]] w fun v w' =>
    v = .bool (!(ss.all fun s => okPart (bytesL s))) ∧ Kp none_ w w' := by
  refine ent [_, _] Tryd.func153 ((vcTryd153 _ _ _ _ w _).mpr ?_)
  unfold VCTryd153
  refine (c183 h hl).mono ?_
  rintro v w1 ⟨⟨i, rfl, hi⟩, k1⟩
  exact ⟨_, rfl, k1.keeps0, _, rfl, by rw [hi], k1⟩
theorem slash : bytesL ({ data := #[47] } : ByteArray) = [47] := rfl
theorem c104 {w : World} (hm : ML w) (s : ByteArray) : Rets Tryd.prog 104 #[.string s] w fun v w' => v = .bool (okName (bytesL s)) ∧ Kp none_ w w' := by
  refine ent [_] Tryd.func104 ((vcTryd104 _ w _).mpr ?_)
  unfold VCTryd104
  obtain ⟨m, hm⟩ := hm
  refine bif_dec (fun hle => ?_) (fun hgt => ⟨_, rfl, ?_, Kp.refl _ _⟩)
  · refine Calls.mono (Tryd.strings_Split s { data := #[47] } m w (by omega) hm (by decide)) ?_
    rintro e w1 ⟨rfl, rfl⟩
    have hp := splitB_parts 47 s
    have hlen := Go.Lib.splitB_all ({ data := #[47] } : ByteArray) (by decide) 0 _ s rfl
    generalize hss : Go.Lib.splitB ({ data := #[47] } : ByteArray) 0 (countB s { data := #[47] }) s = ss at *
    have k1 : Kp none_ w (w.alloc (.cells (ss.map Value.string).toArray 9)) := (Kp.refl none_ w).alloc1 _
    have hS : Strs (w.alloc (.cells (ss.map Value.string).toArray 9)) (some ⟨w.heap.size, 0, none⟩) ss := fun i hi => ⟨_, rfl, by
      rw [ad_add, Nat.zero_add]
      exact cell_alloc_new (by simp [hi])⟩
    have hcnt : ss.length ≤ 66 := by
      have := Go.Lib.splitB_length_le ({ data := #[47] } : ByteArray) 0 (countB s { data := #[47] }) s
      have h2 := Go.Lib.countB_le ({ data := #[47] } : ByteArray) (by decide) s.size s (Nat.le_refl _)
      omega
    refine ⟨_, rfl, _, _, _, rfl, k1.keeps0, ?_⟩
    rw [← hlen]
    refine (c153 hS (by omega)).mono ?_
    rintro v w2 ⟨rfl, k2⟩
    refine ⟨_, rfl, k2.keeps0, _, rfl, ?_, k1.trans k2⟩
    unfold okName
    rw [decide_eq_true (by rw [bytesL_size]; omega), ← hp, List.all_map]
    simp
    rfl
  · unfold okName
    rw [decide_eq_false (by rw [bytesL_size]; omega)]
    rfl
end Go.Proofs.YtbpknjldphckgaaDoor
