/- Names: what may be one. -/
import Derived.Test.YtbpknjldphckgaaDoorSxIter
import Derived.Test.YtbpknjldphckgaaDoorSxName
import Derived.Test.YtbpknjldphckgaaDoorSxBig
import Derived.Test.YtbpknjldphckgaaDoorShf
import Derived.Test.YtbpknjldphckgaaDoorVna
namespace Go.Proofs.YtbpknjldphckgaaDoor
open Go Go.SX Go.Proofs Go.Lib
set_option maxRecDepth 100000
set_option linter.unusedVariables false
set_option linter.unusedSimpArgs false
theorem noNGp : noNG Tryd.prog := by
  have h : (Tryd.prog.funcs.toList.all (fun fn => !(fn.name == "runtime.NumGoroutine"))) = true := by kernel_rfl
  exact h
theorem mixed : Tryd.prog.follows .mixedOrders = true := by kernel_rfl
theorem ent {k : FuncId} {fn : Func} {ann : List (Nat × LoopAnn)} {w : World} {R : Value → World → Prop} (args : List Value) (hf : Tryd.prog.funcs[k]? = some fn)
    (h : vcFn Tryd.prog ann fn (args.map SV.v) [] w (fun e w' => ∃ v, e = .returned v ∧ R v w')) : Rets Tryd.prog k args.toArray w R := by
  have := vcFn_sound noNGp mixed hf Sat.plain h
  simp only [List.map_map] at this
  have e : args.map (SV.val ∘ SV.v) = args := by
    rw [show (SV.val ∘ SV.v) = id from rfl]; simp
  rw [e] at this
  exact this
theorem ptr_some (a : Addr) (K : Addr → Prop) : Ptr (some a) K = K a := rfl
theorem byte5 : byteT Tryd.prog 5 := by
  have h : (Tryd.prog.info? 5).map (fun i => (i.zero, i.size, i.bytes)) = some (some (.int .u8 0), 1, 1) := by kernel_rfl
  obtain ⟨i, hi, hh⟩ := Option.map_eq_some_iff.1 h
  simp only [Prod.mk.injEq] at hh
  exact ⟨i, hi, hh⟩
theorem und27 : Tryd.prog.underlying 27 = some (.slice 5) := Tryd.underlying27
theorem drop_get {l : List UInt8} {a i : Nat} (h : a + i < l.length) : (l.drop a).take (i + 1) = (l.drop a).take i ++ [l[a + i]] := by
  rw [List.take_succ_eq_append_getElem (by rw [List.length_drop]; omega)]
  simp
/-- A variable of the library's holds some number. -/
def ML (w : World) : Prop := ∃ m, w.cell? ⟨0, 0, none⟩ = some (.int .i64 m)
theorem ML.kp0 {w w' : World} (h : ML w) (hk : Kp none_ w w') : ML w' := by obtain ⟨m, h⟩ := h; exact ⟨m, hk.cell0 h⟩
theorem ML.far {w w' : World} {E : Nat} (h : ML w) (hk : Kp (fun i => E ≤ i) w w') (hE : w.heap.size ≤ E) : ML w' := by obtain ⟨m, h⟩ := h; exact ⟨m, cell_far h hk hE⟩
theorem ML.kp {S : Nat → Prop} {w w' : World} (h : ML w) (hk : Kp S w w') (hs : ¬ S 0) : ML w' := by obtain ⟨m, h⟩ := h; exact ⟨m, hk.cell h hs⟩
abbrev bytesL (s : ByteArray) : List UInt8 := s.data.toList
theorem bytesL_size (s : ByteArray) : (bytesL s).length = s.size := by simp
theorem beq_str (s t : ByteArray) : (s.toList == t.toList) = (bytesL s == bytesL t) := by rw [ByteArray.toList_eq, ByteArray.toList_eq]
theorem bytesL_inj {s t : ByteArray} (h : bytesL s = bytesL t) : s = t := by rw [← ba_of s, ← ba_of t]; exact congrArg ba h
theorem bytesL_get {s : ByteArray} {i : Nat} (h : i < s.size) : s[i] = (bytesL s)[i]'(by rw [bytesL_size]; exact h) := by
  cases s with
  | mk bs => rfl
theorem und9 : Tryd.prog.underlying 9 = some .string := Tryd.underlying9
theorem all_drop {f : UInt8 → Bool} {l : List UInt8} {j : Nat} (h : j < l.length) (h1 : (l.take j).all f = true) (h2 : f l[j] = false) : l.all f = false := by
  rw [← Bool.not_eq_true, List.all_eq_true]
  intro hh
  have := hh l[j] (List.getElem_mem h)
  rw [this] at h2; cases h2
theorem c156 (s : ByteArray) (w : World) : Rets Tryd.prog 156 #[.string s] w fun v w' => v = .bool (okPart (bytesL s)) ∧ Kp none_ w w' := by
  refine ent [_] Tryd.func156 ((vcTryd156 _ w _).mpr ?_)
  unfold VCTryd156
  refine range_str und9 ⟨_, rfl, ((Kp.refl none_ w).alloc1 _).keeps0, ?_⟩
  refine ⟨fun w' => ∃ j : Nat, j ≤ s.size ∧ w'.heap[w.heap.size]? = some (.stringIter s j) ∧ ((bytesL s).take j).all okByte = true ∧ Kp (fun i => w.heap.size ≤ i) w w', fun w' => s.size - w'.iterPos w.heap.size,
    ⟨0, by omega, by rw [alloc_get, if_pos rfl], by simp, ((Kp.refl _ w).alloc1 _)⟩, ?_⟩
  rintro w1 ⟨j, hj, hit, hall, k1⟩
  have hlt : w.heap.size < w1.heap.size := (Array.getElem?_eq_some_iff.1 hit).1
  refine next_str hit (fun hpos => ?_) (fun hend => ?_)
  · have kk : ∀ o : Obj, o.isCells = false → Kp (fun i => w.heap.size ≤ i) w (w1.putObj w.heap.size o) := fun o ho => k1.trans (Kp.putObj1 o hit rfl ho (Nat.le_refl _))
    have kp : ∀ o : Obj, Keeps w1 (w1.putObj w.heap.size o) [] := fun o => ⟨by rw [World.putObj_size]; exact Nat.le_refl _, fun b hb => by cases hb⟩
    have hjl : j < (bytesL s).length := by rw [bytesL_size]; exact hpos
    refine .inr ⟨_, _, rfl, kp _, ?_⟩
    have ret : okByte ((bytesL s)[j]) = false → ∀ o : Obj, o.isCells = false → ∃ v, Ending.returned (Value.bool false) = Ending.returned v ∧ v = .bool (okPart (bytesL s)) ∧ Kp none_ w (w1.putObj w.heap.size o) := fun h o ho => by
      refine ⟨_, rfl, ?_, (kk o ho).narrow (Nat.le_refl _)⟩
      unfold okPart
      rw [all_drop hjl hall h]
      simp
    have hb : s[j] = (bytesL s)[j] := bytesL_get hpos
    by_cases hlow : (s[j]).toNat < 128
    · rw [dec_low hpos hlow]
      rw [hb] at hlow ⊢
      refine bif_dec (fun h => ret ?_ _ rfl) (fun h => bif_dec (fun h' => ret ?_ _ rfl) (fun h' => ⟨⟨j + 1, by omega, ?_, ?_, kk _ rfl⟩, ?_⟩))
      · unfold okByte; exact decide_eq_false (by omega)
      · unfold okByte; exact decide_eq_false (by omega)
      · exact World.putObj_heap_same hlt
      · rw [List.take_succ_eq_append_getElem hjl, List.all_append, hall]
        have : okByte (bytesL s)[j] = true := by unfold okByte; exact decide_eq_true (by omega)
        simpa using this
      · have e1 : w1.iterPos w.heap.size = j := by simp [World.iterPos, hit]
        have e2 : (w1.putObj w.heap.size (.stringIter s (j + 1))).iterPos w.heap.size = j + 1 := by simp [World.iterPos, World.putObj_heap_same hlt]
        show s.size - (w1.putObj w.heap.size (.stringIter s (j + 1))).iterPos w.heap.size < s.size - w1.iterPos w.heap.size
        rw [e1, e2]; omega
    · have hd := (dec_high hpos hlow).1
      refine bif_dec (fun h => absurd h (by omega)) (fun h => bif_dec (fun h' => ret ?_ _ rfl) (fun h' => absurd (by omega) h'))
      rw [hb] at hlow
      unfold okByte; exact decide_eq_false (by omega)
  · refine .inl ⟨rfl, (Kp.refl none_ _).keeps0, ?_⟩
    have hjs : j = s.size := by omega
    rw [hjs, ← bytesL_size, List.take_length] at hall
    have kf := k1.narrow (Nat.le_refl _)
    simp only [beq_str]
    have e0 : bytesL ({ data := #[] } : ByteArray) = [] := rfl
    have e1 : bytesL ({ data := #[46] } : ByteArray) = [46] := rfl
    have e2 : bytesL ({ data := #[46, 46] } : ByteArray) = [46, 46] := rfl
    rw [e0, e1, e2]
    unfold okPart
    rw [hall]
    refine bif_not (fun h0 => bif_not (fun h1 => ⟨_, rfl, ?_, kf⟩) (fun h1 => ⟨_, rfl, ?_, kf⟩)) (fun h0 => ⟨_, rfl, ?_, kf⟩)
    · rw [h0, h1]; simp
    · rw [h1]; simp
    · rw [h0]; simp
/-- Strings in memory. -/
def Strs (w : World) (q : Option Addr) (ss : List ByteArray) : Prop := ∀ i (h : i < ss.length), ∃ a, q = some a ∧ w.cell? (a.add i) = some (.string ss[i])
theorem Strs.kp0 {w w' : World} {q : Option Addr} {ss : List ByteArray} (h : Strs w q ss) (hk : Kp none_ w w') : Strs w' q ss := fun i hi => by
  obtain ⟨a, e, hc⟩ := h i hi
  exact ⟨a, e, hk.cell0 hc⟩
theorem strs_get {w : World} {q : Option Addr} {ss : List ByteArray} (h : Strs w q ss) {i : Nat} (hi : i < ss.length) {K : Addr → ByteArray → Prop} (hK : ∀ a, q = some a → K a ss[i]) :
    Ptr q fun a => ∃ x, w.cell? (a.add ((i : Int).toNat * 1)) = some (.string x) ∧ K a x := by
  obtain ⟨a, e, hc⟩ := h i hi
  subst e
  rw [ptr_some]
  exact ⟨_, by rw [Nat.mul_one, Int.toNat_natCast]; exact hc, hK a rfl⟩
theorem c155 (s : ByteArray) (w : World) : Rets Tryd.prog 155 #[.string s] w fun v w' => v = .bool (!okPart (bytesL s)) ∧ Kp none_ w w' := by
  refine ent [_] Tryd.func155 ((vcTryd155 _ w _).mpr ?_)
  unfold VCTryd155
  refine (c156 s w).mono ?_
  rintro v w1 ⟨rfl, k1⟩
  exact ⟨_, rfl, k1.keeps0, _, rfl, rfl, k1⟩
theorem isGo155 : isGo Tryd.prog 155 = true := by kernel_rfl
theorem c183 {w : World} {q : Option Addr} {c : Nat} {ss : List ByteArray} (h : Strs w q ss) (hl : ss.length ≤ 1000000000) : Rets Tryd.prog 183 #[.slice q ss.length c, .func (.func 155) #[] #[]] w fun v w' =>
    (∃ i : Int, v = .int .i64 i ∧ (decide (i ≥ 0) = !(ss.all fun s => okPart (bytesL s)))) ∧ Kp none_ w w' := by
  refine ent [_, _] Tryd.func183 ((vcTryd183 _ _ _ _ w _).mpr ?_)
  unfold VCTryd183
  refine ⟨fun i w' => ∃ j : Nat, i = j ∧ j ≤ ss.length ∧ ((ss.take j).all fun s => okPart (bytesL s)) = true ∧ Kp none_ w w', fun i _ => (ss.length - i).toNat, ⟨0, rfl, by omega, by simp, Kp.refl _ _⟩, ?_⟩
  rintro i w1 ⟨j, rfl, hj, hall, k1⟩
  refine bif_dec (fun hlt => ⟨⟨by omega, hlt⟩, strs_get (h.kp0 k1) (i := j) (by omega) fun a ha => ?_⟩) (fun hge => ⟨_, rfl, ⟨_, rfl, ?_⟩, k1⟩)
  · have hj' : j < ss.length := by omega
    refine ⟨isGo155, ?_⟩
    show Rets Tryd.prog 155 #[.string ss[j]] w1 _
    refine (c155 _ w1).mono ?_
    rintro v w2 ⟨rfl, k2⟩
    refine ⟨_, rfl, k2.keeps0, bif_not (fun hp => ⟨_, rfl, ⟨_, rfl, ?_⟩, k1.trans k2⟩) (fun hp => wr64 (by omega) ⟨⟨j + 1, by omega, by omega, ?_, k1.trans k2⟩, by first | omega | (dsimp only; omega)⟩)⟩
    · have : (ss.all fun s => okPart (bytesL s)) = false := by
        rw [← Bool.not_eq_true, List.all_eq_true]
        intro hh
        have := hh ss[j] (List.getElem_mem hj')
        rw [this] at hp; cases hp
      rw [this]
      exact decide_eq_true (by omega)
    · rw [List.take_succ_eq_append_getElem hj', List.all_append, hall]
      simp [hp]
  · have : j = ss.length := by omega
    rw [this, List.take_length] at hall
    rw [hall]
    decide
theorem c153 {w : World} {q : Option Addr} {c : Nat} {ss : List ByteArray} (h : Strs w q ss) (hl : ss.length ≤ 1000000000) : Rets Tryd.prog 153 #[.slice q ss.length c, .func (.func 155) #[] #[]] w fun v w' =>
    v = .bool (!(ss.all fun s => okPart (bytesL s))) ∧ Kp none_ w w' := by
  refine ent [_, _] Tryd.func153 ((vcTryd153 _ _ _ _ w _).mpr ?_)
  unfold VCTryd153
  refine (c183 h hl).mono ?_
  rintro v w1 ⟨⟨i, rfl, hi⟩, k1⟩
  exact ⟨_, rfl, k1.keeps0, _, rfl, by rw [hi], k1⟩
theorem slash : bytesL ({ data := #[47] } : ByteArray) = [47] := rfl
theorem c104 {w : World} (hm : ML w) (s : ByteArray) : Rets Tryd.prog 104 #[.string s] w fun v w' => v = .bool (okName (bytesL s)) ∧ Kp none_ w w' := by
  refine ent [_] Tryd.func104 ((vcTryd104 _ w _).mpr ?_)
  unfold VCTryd104
  obtain ⟨m, hm⟩ := hm
  refine bif_dec (fun hle => ?_) (fun hgt => ⟨_, rfl, ?_, Kp.refl _ _⟩)
  · refine Calls.mono (Tryd.strings_Split s { data := #[47] } m w (by omega) hm (by decide)) ?_
    rintro e w1 ⟨rfl, rfl⟩
    have hp := splitB_parts 47 s
    have hlen := Go.Lib.splitB_all ({ data := #[47] } : ByteArray) (by decide) 0 _ s rfl
    generalize hss : Go.Lib.splitB ({ data := #[47] } : ByteArray) 0 (countB s { data := #[47] }) s = ss at *
    have k1 : Kp none_ w (w.alloc (.cells (ss.map Value.string).toArray 9)) := (Kp.refl none_ w).alloc1 _
    have hS : Strs (w.alloc (.cells (ss.map Value.string).toArray 9)) (some ⟨w.heap.size, 0, none⟩) ss := fun i hi => ⟨_, rfl, by
      rw [ad_add, Nat.zero_add]
      exact cell_alloc_new (by simp [hi])⟩
    have hcnt : ss.length ≤ 66 := by
      have := Go.Lib.splitB_length_le ({ data := #[47] } : ByteArray) 0 (countB s { data := #[47] }) s
      have h2 := Go.Lib.countB_le ({ data := #[47] } : ByteArray) (by decide) s.size s (Nat.le_refl _)
      omega
    refine ⟨_, rfl, _, _, _, rfl, k1.keeps0, ?_⟩
    rw [← hlen]
    refine (c153 hS (by omega)).mono ?_
    rintro v w2 ⟨rfl, k2⟩
    refine ⟨_, rfl, k2.keeps0, _, rfl, ?_, k1.trans k2⟩
    unfold okName
    rw [decide_eq_true (by rw [bytesL_size]; omega), ← hp, List.all_map]
    simp
    rfl
  · unfold okName
    rw [decide_eq_false (by rw [bytesL_size]; omega)]
    rfl
theorem bytesL_extract (s : ByteArray) (a b : Nat) : bytesL (s.extract a b) = ((bytesL s).drop a).take (b - a) := by
  show (s.extract a b).data.toList = _
  rw [ByteArray.data_extract, Array.toList_extract]
theorem byteAt_get {s : ByteArray} {i : Nat} (h : i < s.size) : byteAt s (i : Int) = ((bytesL s)[i]'(by rw [bytesL_size]; exact h)).toNat := by
  unfold byteAt
  rw [Int.toNat_natCast]
  have : s[i]? = some s[i] := getElem?_pos s i h
  rw [this, bytesL_get h]
theorem elem9 : elemOk Tryd.prog 9 1 = true := by kernel_rfl
theorem und46 : Tryd.prog.underlying 46 = some (.slice 9) := Tryd.underlying46
theorem strs_row {w : World} {own : Nat → Prop} {e : TypeId} {q : Option Addr} {n c : Nat} {ss : List ByteArray} (h : OwnRow w own e 1 (.slice q n c) ss.length (ss.map Value.string)) : Strs w q ss := fun i hi => by
  obtain ⟨a, e, hc⟩ := h.at (j := i) (u := .string ss[i]) (by simp [hi])
  exact ⟨a, e, hc⟩
theorem c107 (s : ByteArray) (hs : s.size ≤ 100000) (w : World) : Rets Tryd.prog 107 #[.string s] w fun v w' => ∃ q c ss, v = .slice q ss.length c ∧ Strs w' q ss ∧ ss.map bytesL = partsL 47 (bytesL s) ∧ ss.length ≤ s.size + 1 ∧ Kp none_ w w' := by
  refine ent [_] Tryd.func107 ((vcTryd107 _ w _).mpr ?_)
  unfold VCTryd107
  have hsz := bytesL_size s
  generalize hl : bytesL s = l at *
  refine ⟨fun i f q n c w' => ∃ (j g : Nat) (ss : List ByteArray), i = j ∧ f = g ∧ g ≤ j ∧ j ≤ s.size ∧ n = ss.length ∧ ss.length ≤ j ∧ OwnRow w' (fun i => w.heap.size ≤ i) 9 1 (.slice q ss.length c) ss.length (ss.map Value.string) ∧ (47 : UInt8) ∉ (l.drop g).take (j - g) ∧ ss.map bytesL ++ partsL 47 (l.drop g) = partsL 47 l ∧ Kp (fun i => w.heap.size ≤ i) w w', fun i _ _ _ _ _ => (s.size - i).toNat,
    ⟨0, 0, [], rfl, rfl, by omega, by omega, rfl, by simp, OwnRow.nil _ _ _ _, by simp, by simp, Kp.refl _ _⟩, ?_⟩
  rintro i f q n c w1 ⟨j, g, ss, rfl, rfl, hgj, hj, rfl, hn, hr, hno, hp, k1⟩
  have push : ∀ (b : Nat), g ≤ b → b ≤ s.size → ∀ {K : Value → World → Prop},
      (∀ q' c' w2, OwnRow w2 (fun i => w.heap.size ≤ i) 9 1 (.slice q' (ss.length + 1) c') (ss.length + 1) ((ss ++ [s.extract g b]).map Value.string) → Kp (fun i => w.heap.size ≤ i) w w2 → Keeps (w1.alloc (.cells #[.string (s.extract g b)] 9)) w2 [] → K (.slice q' (ss.length + 1) c') w2) →
      Runs Tryd.prog (Builtin.append_ #[46, 46] 46 #[.slice q ss.length c, .slice (some ⟨w1.heap.size, 0, none⟩) 1 1]) (w1.alloc (.cells #[.string (s.extract g b)] 9)) K := by
    intro b hgb hb K hK
    refine append_new (own := fun i => w.heap.size ≤ i) (xs := ss.map Value.string) #[.string (s.extract g b)] und46 elem9 (by omega) hr rfl (by simp [Value.oneCell']) (by omega) fun q' c' w2 r2 k2 k3 => ?_
    have z1 := k1.size
    refine hK q' c' w2 ?_ (k1.trans k2) (k3.keeps0)
    rw [List.map_append]
    exact r2.mono fun i hi _ => hi.elim id fun hf => Nat.le_trans z1 hf
  refine bif_dec (fun hlt => ⟨⟨by omega, hlt⟩, ?_⟩) (fun hge => ?_)
  · have hjs : j < s.size := by omega
    have hjl : j < l.length := by omega
    have e1 : byteAt s (j : Int) = ((l[j]'hjl).toNat : Int) := by subst hl; exact byteAt_get hjs
    rw [e1]
    refine bif_eq (fun h47 => ?_) (fun h47 => ?_)
    · have hc : l[j]'hjl = 47 := by
        apply UInt8.toNat_inj.1
        show (l[j]'hjl).toNat = 47
        omega
      simp only [Int.toNat_natCast]
      refine ⟨by omega, by omega, push j hgj hj fun q' c' w2 r2 k2 kp => ⟨_, _, _, rfl, kp, wr64 (by omega) (wr64 (by omega) ⟨⟨j + 1, j + 1, ss ++ [s.extract g j], by omega, by omega, by omega, by omega, by simp, by simp; omega, by simpa using r2, by simp, ?_, k2⟩, by first | omega | (dsimp only; omega)⟩)⟩⟩
      rw [List.map_append, ← hp, List.append_assoc]
      congr 1
      have hspl : l.drop g = (l.drop g).take (j - g) ++ 47 :: l.drop (j + 1) := by
        have h1 := List.take_append_drop (j - g) (l.drop g)
        rw [List.drop_drop, show g + (j - g) = j by omega, List.drop_eq_getElem_cons hjl, hc] at h1
        exact h1.symm
      rw [hspl, partsL_hit hno, List.map_singleton, bytesL_extract, hl]
      rfl
    · refine wr64 (by omega) ⟨⟨j + 1, g, ss, by omega, rfl, by omega, by omega, rfl, by omega, hr, ?_, hp, k1⟩, by first | omega | (dsimp only; omega)⟩
      rw [show j + 1 - g = (j - g) + 1 by omega, drop_get (by omega)]
      simp only [List.mem_append, List.mem_singleton, not_or]
      refine ⟨hno, fun h => h47 ?_⟩
      have e : l[g + (j - g)]'(by omega) = l[j]'hjl := by congr 1; omega
      rw [← e, ← h]
      rfl
  · have hjs : j = s.size := by omega
    subst hjs
    simp only [Int.toNat_natCast]
    refine ⟨by omega, push s.size hgj (Nat.le_refl _) fun q' c' w2 r2 k2 kp => ⟨_, _, _, rfl, kp, _, rfl, q', c', ss ++ [s.extract g s.size], by simp, strs_row (by simpa using r2), ?_, by simp; omega, k2.narrow (Nat.le_refl _)⟩⟩
    rw [List.map_append, ← hp]
    congr 1
    have : (l.drop g).take (s.size - g) = l.drop g := List.take_of_length_le (by rw [List.length_drop]; omega)
    rw [this] at hno
    rw [partsL_none hno, List.map_singleton, bytesL_extract, hl, this]
theorem c29 (s : ByteArray) (w : World) : Rets Tryd.prog 29 #[.string s] w fun v w' => v = .bool (okName (bytesL s)) ∧ Kp none_ w w' := by
  refine ent [_] Tryd.func29 ((vcTryd29 _ w _).mpr ?_)
  unfold VCTryd29
  rw [okName_eq]
  have hsz := bytesL_size s
  refine bif_dec (fun h => ⟨_, rfl, ?_, Kp.refl _ _⟩) (fun h => bif_dec (fun h2 => ⟨_, rfl, ?_, Kp.refl _ _⟩) (fun h2 => ?_))
  · rw [decide_eq_false (by omega)]; rfl
  · rw [decide_eq_false (by omega)]; rfl
  rw [decide_eq_true (by omega), Bool.true_and]
  refine ⟨fun i w' => ∃ j : Nat, i = j ∧ j ≤ s.size ∧ ((bytesL s).take j).all okByte = true ∧ w' = w, fun i _ => (s.size - i).toNat, ⟨0, rfl, by omega, by simp, rfl⟩, ?_⟩
  rintro i w1 ⟨j, rfl, hj, hall, rfl⟩
  refine bif_dec (fun hlt => ⟨⟨by omega, hlt⟩, ?_⟩) (fun hge => ?_)
  · have hjs : j < s.size := by omega
    have hjl : j < (bytesL s).length := by omega
    have e1 : byteAt s (j : Int) = (((bytesL s)[j]'hjl).toNat : Int) := byteAt_get hjs
    rw [e1]
    have bad : okByte ((bytesL s)[j]'hjl) = false → ∃ v, Ending.returned (Value.bool false) = Ending.returned v ∧ v = .bool ((bytesL s).all okByte && (partsL 47 (bytesL s)).all fun p => !(p == []) && !(p == [46]) && !(p == [46, 46])) ∧ Kp none_ w1 w1 := fun h => ⟨_, rfl, by rw [all_drop hjl hall h]; rfl, Kp.refl _ _⟩
    refine bif_dec (fun h => bad ?_) (fun h => ⟨⟨by omega, hlt⟩, bif_dec (fun h' => bad ?_) (fun h' => wr64 (by omega) ⟨⟨j + 1, by omega, by omega, ?_, by first | rfl | trivial⟩, by first | omega | (dsimp only; omega)⟩)⟩)
    · unfold okByte; exact decide_eq_false (by omega)
    · unfold okByte; exact decide_eq_false (by omega)
    · rw [List.take_succ_eq_append_getElem hjl, List.all_append, hall]
      have : okByte (bytesL s)[j] = true := by unfold okByte; exact decide_eq_true (by omega)
      simpa using this
  · have : j = s.size := by omega
    rw [this, ← hsz, List.take_length] at hall
    rw [hall, Bool.true_and]
    refine (c107 s (by omega) w1).mono ?_
    rintro v w2 ⟨q, c, ss, rfl, hS, hp, hn, k2⟩
    refine ⟨_, _, _, rfl, k2.keeps0, ?_⟩
    rw [← hp, List.all_map]
    refine ⟨fun i w' => ∃ j : Nat, i = j ∧ j ≤ ss.length ∧ ((ss.take j).all ((fun p => !(p == []) && !(p == [46]) && !(p == [46, 46])) ∘ bytesL)) = true ∧ w' = w2, fun i _ => (ss.length - i).toNat, ⟨0, rfl, by omega, by simp, rfl⟩, ?_⟩
    rintro i w3 ⟨j, rfl, hj, hall, rfl⟩
    refine bif_dec (fun hlt => ⟨⟨by omega, hlt⟩, strs_get hS (i := j) (by omega) fun a ha => ?_⟩) (fun hge => ⟨_, rfl, ?_, k2⟩)
    · have hj' : j < ss.length := by omega
      simp only [beq_str]
      have e0 : bytesL ({ data := #[] } : ByteArray) = [] := rfl
      have e1 : bytesL ({ data := #[46] } : ByteArray) = [46] := rfl
      have e2 : bytesL ({ data := #[46, 46] } : ByteArray) = [46, 46] := rfl
      rw [e0, e1, e2]
      have bad : (!(bytesL ss[j] == []) && !(bytesL ss[j] == [46]) && !(bytesL ss[j] == [46, 46])) = false → ∃ v, Ending.returned (Value.bool false) = Ending.returned v ∧ v = .bool (ss.all ((fun p => !(p == []) && !(p == [46]) && !(p == [46, 46])) ∘ bytesL)) ∧ Kp none_ w1 w3 := fun h => by
        refine ⟨_, rfl, ?_, k2⟩
        have : (ss.all ((fun p => !(p == []) && !(p == [46]) && !(p == [46, 46])) ∘ bytesL)) = false := by
          rw [← Bool.not_eq_true, List.all_eq_true]
          intro hh
          have := hh ss[j] (List.getElem_mem hj')
          simp only [Function.comp] at this
          rw [this] at h; cases h
        rw [this]
      refine bif_b (fun h0 => bad (by rw [h0]; rfl)) (fun h0 => ⟨⟨by omega, hlt⟩, strs_get hS (i := j) hj' fun a ha => bif_b (fun h1 => bad (by rw [h0, h1]; rfl)) (fun h1 => ⟨⟨by omega, hlt⟩, strs_get hS (i := j) hj' fun a ha => bif_b (fun h2 => bad (by rw [h0, h1, h2]; rfl)) (fun h2 => wr64 (by omega) ⟨⟨j + 1, by omega, by omega, ?_, by first | rfl | trivial⟩, by first | omega | (dsimp only; omega)⟩)⟩)⟩)
      rw [List.take_succ_eq_append_getElem hj', List.all_append, hall]
      simp only [List.all_cons, List.all_nil, Function.comp, h0, h1, h2]
      rfl
    · have : j = ss.length := by omega
      rw [this, List.take_length] at hall
      rw [hall]
theorem und5 : Tryd.prog.underlying 5 = some (.int .u8) := Tryd.underlying5
theorem okName_len {l : List UInt8} (h : okName l = true) : l.length ≤ 64 := by
  unfold okName at h
  rw [Bool.and_eq_true] at h
  exact of_decide_eq_true h.1
theorem beq_ba (l : List UInt8) (t : ByteArray) : ((ba l).toList == t.toList) = (l == bytesL t) := by rw [ByteArray.toList_eq, ByteArray.toList_eq, ba_list]
theorem empty_ba : (ByteArray.mk #[]) = ba [] := rfl
theorem _root_.Go.SX.Kp.ks {w w' : World} {E : Nat} (h : Kp (fun i => E ≤ i) w w') {g : Nat} (hg : g < E) (hl : g < w.heap.size) : Keeps w w' [g] := h.keeps fun b hb => by
  rw [List.mem_singleton] at hb
  subst hb
  exact ⟨hl, by show ¬ E ≤ b; omega⟩
theorem _root_.Go.SX.Kp.k0 {w w' : World} (h : Kp none_ w w') {g : Nat} (hl : g < w.heap.size) : Keeps w w' [g] := h.keeps fun b hb => by
  rw [List.mem_singleton] at hb
  subst hb
  exact ⟨hl, id⟩
theorem kpE {w w' : World} {g E : Nat} (k : Kp (one_ g) w w') (hg : E ≤ g) : Kp (fun i => E ≤ i) w w' := k.mono fun i _ h => by have h : i = g := h; show E ≤ i; omega
end Go.Proofs.YtbpknjldphckgaaDoor
