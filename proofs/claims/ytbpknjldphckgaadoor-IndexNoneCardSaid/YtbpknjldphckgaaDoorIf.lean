/- Index: Each, Under; an index that isn't there. -/
import Derived.Test.YtbpknjldphckgaaDoorIe
namespace Go.Proofs.YtbpknjldphckgaaDoor
open Go Go.SX Go.Proofs Go.Lib
set_option maxRecDepth 100000
set_option linter.unusedVariables false
set_option linter.unusedSimpArgs false
/-- An index, or none. -/
def IxN (w : World) (O : Nat → Prop) (p : Option Addr) (l : List Mb) : Prop := (p = none ∧ l = []) ∨ ∃ b, p = some ⟨b, 0, none⟩ ∧ IxAt w O b l
theorem IxN.kp0 {O : Nat → Prop} {w w' : World} {p : Option Addr} {l : List Mb} (h : IxN w O p l) (k : Kp none_ w w') : IxN w' O p l := h.imp id fun ⟨b, e, h⟩ => ⟨b, e, h.kp0 k⟩
theorem c70N {w : World} {O : Nat → Prop} {p : Option Addr} {l : List Mb} (h : IxN w O p l) (hl : l.length ≤ 1000000) : Rets Tryd.prog 70 #[.pointer p] w fun v w' =>
    ∃ q' c', v = .slice q' l.length c' ∧ OwnRow w' (fun i => w.heap.size ≤ i) 50 7 (.slice q' l.length c') l.length (memsC l) ∧ Kp none_ w w' := by
  rcases h with ⟨rfl, rfl⟩ | ⟨b, rfl, h⟩
  · refine ent [_] Tryd.func70 ((vcTryd70 _ w _).mpr ?_)
    exact ⟨_, rfl, _, _, rfl, OwnRow.nil _ _ _ _, Kp.refl _ _⟩
  · exact c70 h hl
theorem c78 {w : World} {O : Nat → Prop} {p : Option Addr} {l : List Mb} (h : IxN w O p l) (hl : l.length ≤ 1000000) (s : ByteArray) : Rets Tryd.prog 78 #[.pointer p, .string s] w fun v w' =>
    ∃ b1 b2 q c, v = .func (.func 133) #[] #[.pointer (some ⟨b1, 0, none⟩), .pointer (some ⟨b2, 0, none⟩)] ∧ w'.cell? ⟨b1, 0, none⟩ = some (.slice q l.length c) ∧ w'.cell? ⟨b2, 0, none⟩ = some (.string s) ∧ MemsAt w' q l ∧ (∀ x, q = some x → w.heap.size ≤ x.block) ∧ w.heap.size ≤ b1 ∧ w.heap.size ≤ b2 ∧ Kp none_ w w' := by
  refine ent [_, _] Tryd.func78 ((vcTryd78 _ _ w _).mpr ?_)
  unfold VCTryd78
  intro _
  have k0 : Kp none_ w (w.alloc (.cells #[.string s] 9)) := (Kp.refl none_ w).alloc1 _
  have C0 := Cel.new w (.string s) 9
  generalize w.alloc (.cells #[.string s] 9) = w0 at *
  refine (c70N (h.kp0 k0) hl).mono ?_
  rintro v w1 ⟨q, c, rfl, r1, k1⟩
  have C1 := C0.kp k1 id
  refine ⟨_, _, _, rfl, k1.k0 C0.lt, fun _ => ⟨_, rfl, w1.heap.size, w.heap.size, q, c, rfl, ?_, ?_, ?_, ?_, ?_, Nat.le_refl _, ?_⟩⟩
  · exact cell_set_same _ (Cel.new w1 (.slice none 0 0) 42).cell
  · rw [cell_set_far _ (by have := C1.lt; show w1.heap.size ≠ w.heap.size; omega)]
    exact cell_alloc _ C1.cell
  · have k2 : Kp none_ w1 ((w1.alloc (.cells #[.slice none 0 0] 42)).setCell ⟨w1.heap.size, 0, none⟩ (.slice q l.length c)) := (((Kp.refl none_ w1).alloc1 (.cells #[.slice none 0 0] 42)).wide.trans (kpE (Kp.set1 w1.heap.size _) (Nat.le_refl _))).narrow (Nat.le_refl _)
    exact (mems_of r1).kp0 k2
  · intro x hx
    have hz := k0.size
    rcases r1.2 with ⟨e, _⟩ | ⟨g, cap, cur, e, hg, _⟩
    · injection e with e1 _ _
      rw [e1] at hx; cases hx
    · injection e with e1 _ _
      rw [e1] at hx; cases hx
      exact Nat.le_trans hz hg
  · exact Nat.le_trans k0.size k1.size
  · exact (((k0.trans k1).alloc1 (.cells #[.slice none 0 0] 42)).wide.trans (kpE (Kp.set1 w1.heap.size _) (Nat.le_trans k0.size k1.size))).narrow (Nat.le_refl _)
theorem isGo133 : isGo Tryd.prog 133 = true := by kernel_rfl
/-- Names of members, as strings. -/
def nmC (l : List Mb) : List Value := l.map fun b => .string (ba b.s)
theorem nmC_snoc (l : List Mb) (b : Mb) : nmC (l ++ [b]) = nmC l ++ [.string (ba b.s)] := by simp [nmC]
theorem inL_len (l : List Mb) (f : List UInt8) : (inL l f).length ≤ l.length := List.length_filter_le _ _
theorem c77 {w : World} (hml : ML w) (h00 : 0 < w.heap.size) {O : Nat → Prop} {p : Option Addr} {l : List Mb} (h : IxN w O p l) (hl : l.length ≤ 1000000) (s : ByteArray) (hs : s.size ≤ 1000000) : Rets Tryd.prog 77 #[.pointer p, .string s] w fun v w' =>
    ∃ q c, v = .slice q (inL l (bytesL s)).length c ∧ OwnRow w' (fun i => w.heap.size ≤ i) 9 1 (.slice q (inL l (bytesL s)).length c) (inL l (bytesL s)).length (nmC (inL l (bytesL s))) ∧ Kp none_ w w' := by
  refine ent [_, _] Tryd.func77 ((vcTryd77 _ _ w _).mpr ?_)
  unfold VCTryd77
  simp only [set7_def]
  intro _
  have k0 : Kp none_ w (w.alloc (.cells #[.slice none 0 0] 46)) := (Kp.refl none_ w).alloc1 _
  have C0 := Cel.new w (.slice none 0 0) 46
  generalize w.alloc (.cells #[.slice none 0 0] 46) = w0 at *
  refine (c78 (h.kp0 k0) hl s).mono ?_
  rintro v w1 ⟨b1, b2, q, c, rfl, hc1, hc2, hm1, hq, hb1, hb2, k1⟩
  have C1 := C0.kp k1 id
  have z1 := C1.lt
  have hz0 := k0.size
  refine ⟨_, rfl, k1.k0 C0.lt, fun _ rec hrec hyield => ?_⟩
  generalize hD : w1.heap.size = D at *
  generalize hA : (w1.alloc (.deferred (some []))).alloc (rec .ready none) = wA
  have sA : wA.heap.size = D + 2 := by rw [← hA, alloc_size, alloc_size, hD]
  have kA : Kp none_ w1 wA := by rw [← hA]; exact ((Kp.refl none_ w1).alloc1 _).alloc1 _
  have dA : wA.heap[D]? = some (.deferred (some [])) := by
    rw [← hA, alloc_get, alloc_size, if_neg (by omega), alloc_get, if_pos hD.symm]
  have lA : wA.heap[D + 1]? = some (rec .ready none) := by
    rw [← hA, alloc_get, alloc_size, if_pos (by omega)]
  have CA := C1.kp kA id
  let S : Nat → Prop := fun i => i = w.heap.size ∨ D + 1 ≤ i
  let J : List Mb → World → Prop := fun l' w' => ∃ q n c, Cel w' w.heap.size (.slice q n c) ∧ OwnRow w' (fun i => D + 1 < i) 9 1 (.slice q n c) l'.length (nmC l') ∧ w'.heap[D + 1]? = some (rec .ready none) ∧ Kp S wA w'
  have hS : ∀ {w2 w3 : World}, Kp none_ w2 w3 → Kp S w2 w3 := fun k => k.wide
  have nS : ∀ i, i < D + 1 → i ≠ w.heap.size → ¬ S i := fun i h1 h2 h3 => by rcases h3 with h3 | h3 <;> omega
  have lt_of : ∀ {l' : List Mb} {w2 : World}, J l' w2 → D + 1 < w2.heap.size := fun hJ => by
    obtain ⟨_, _, _, _, _, _, k⟩ := hJ
    have := k.size
    omega
  have hcall : CallsVal Tryd.prog (.func (.func 133) #[] #[.pointer (some ⟨b1, 0, none⟩), .pointer (some ⟨b2, 0, none⟩)]) #[.func (.yield (D + 1)) #[] #[]] wA fun v w' => v = .tuple #[] ∧ (J (inL l (bytesL s)) w' ∨ False) := by
    refine ⟨isGo133, ?_⟩
    show Rets Tryd.prog 133 #[.func (.yield (D + 1)) #[] #[], .pointer (some ⟨b1, 0, none⟩), .pointer (some ⟨b2, 0, none⟩)] wA _
    refine c133 (q := q) (c := c) (l := l) hs hl J (fun _ => False) ⟨_, _, _, CA, OwnRow.nil _ _ _ _, lA, Kp.refl _ _⟩ ?_ ?_ ?_
    · rintro l' w2 w3 ⟨q', n', c', hc, hr, hl2, hk⟩ k
      exact ⟨q', n', c', hc.kp k id, hr.kp k fun _ _ _ _ _ => id, by rw [k.same _ (Array.getElem?_eq_some_iff.1 hl2).1 id]; exact hl2, hk.trans k.wide⟩
    · rintro l' w2 ⟨_, _, _, _, _, _, hk⟩
      have l1 := cell_lt hc1
      have l2 := cell_lt hc2
      have l1 : b1 < D := by rw [← hD]; exact l1
      have l2 : b2 < D := by rw [← hD]; exact l2
      refine ⟨?_, hk.cell (kA.cell0 hc1) (nS b1 (by omega) (by have := C0.lt; omega)), hk.cell (kA.cell0 hc2) (nS b2 (by omega) (by have := C0.lt; omega)), (hm1.kp0 kA).kp hk fun x hx hpos => ?_⟩
      · have m1 := ((hml.kp0 k0).kp0 k1).kp0 kA
        exact m1.kp hk (nS 0 (by omega) (by omega))
      · obtain ⟨x', e, m⟩ := hm1 0 hpos
        rw [hx] at e; cases e
        have l3 := cell_lt m.c0
        rw [add_block, add_block, hD] at l3
        have := hq x hx
        have := C0.lt
        exact nS _ (by omega) (by omega)
    · intro l' t r w2 w2' hsp hJ k2
      have hlt2 := lt_of hJ
      obtain ⟨q', n', c', hc, hr, hl2, hk⟩ := hJ
      have ec : n' = l'.length := hr.lens.1
      subst ec
      have hcl : l'.length ≤ 1000000 := by
        have := inL_len l (bytesL s)
        have e := congrArg List.length hsp
        simp only [List.length_append, List.length_cons] at e
        omega
      have hl2' : w2'.heap[D + 1]? = some (rec .ready none) := by rw [k2.same _ hlt2 id]; exact hl2
      have hc' := hc.kp k2 id
      have hr' := (hr.mono (own' := fun i => D + 1 < i ∧ i < w2.heap.size) fun i hi hh => ⟨hi, hh⟩).kp k2 fun _ _ _ _ _ => id
      refine hyield (ba t.s) t.a t.f t.r t.z t.u t.m q' l'.length c' w2' _ hl2' ⟨⟨hc'.lt, ⟨hc'.cell, hc'.frz⟩, trivial⟩, trivial⟩ ?_
      have kn := newset7 (v0 := .string (ba t.s)) (v1 := .int .i64 t.a) (v2 := .int .i64 t.f) (v3 := .int .i64 t.r) (v4 := .int .i64 t.z) (v5 := .int .u32 t.u) (v6 := .int .i64 t.m) (cs := #[.string { data := #[] }, .int .i64 0, .int .i64 0, .int .i64 0, .int .i64 0, .int .u32 0, .int .i64 0]) (e := 50) (Kp.refl none_ w2')
      have zn : w2'.heap.size < (set7 (w2'.alloc (.cells #[.string { data := #[] }, .int .i64 0, .int .i64 0, .int .i64 0, .int .i64 0, .int .u32 0, .int .i64 0] 50)) w2'.heap.size (.string (ba t.s)) (.int .i64 t.a) (.int .i64 t.f) (.int .i64 t.r) (.int .i64 t.z) (.int .u32 t.u) (.int .i64 t.m)).heap.size := newset7_lt
      generalize set7 (w2'.alloc (.cells #[.string { data := #[] }, .int .i64 0, .int .i64 0, .int .i64 0, .int .i64 0, .int .u32 0, .int .i64 0] 50)) w2'.heap.size (.string (ba t.s)) (.int .i64 t.a) (.int .i64 t.f) (.int .i64 t.r) (.int .i64 t.z) (.int .u32 t.u) (.int .i64 t.m) = wn at *
      have hz2 := k2.size
      have hln : wn.heap[D + 1]? = some (rec .ready none) := by rw [kn.same _ (by omega) id]; exact hl2'
      have kb : Kp (fun i => i = D + 1) wn (wn.putObj (D + 1) (rec .busy none)) := Kp.putObj1 _ hln (hrec _ _) (hrec _ _) rfl
      have hlb : (wn.putObj (D + 1) (rec .busy none)).heap[D + 1]? = some (rec .busy none) := World.putObj_heap_same (by omega)
      have zb : wn.heap.size = (wn.putObj (D + 1) (rec .busy none)).heap.size := (World.putObj_size ..).symm
      have cn := (hc'.kp kn id).kp kb (fun e => by have := C0.lt; have e : w.heap.size = D + 1 := e; omega)
      have rn := (hr'.kp kn fun _ _ _ _ _ => id).kp kb fun g n cap _ hg he => by have he : g = D + 1 := he; have := hg.1; omega
      generalize wn.putObj (D + 1) (rec .busy none) = wb at *
      refine ⟨hln, append_new (own := fun i => D + 1 < i ∧ i < w2.heap.size) (xs := nmC l') #[.string (ba t.s)] und46 elem9 (by omega) rn rfl (fun u hu => by simp at hu; subst hu; simp [Value.oneCell']) (by omega) fun q8 c8 w8 r8 k8 k8' => ⟨_, _, _, rfl, ?_, fun _ => ?_⟩⟩
      · refine k8'.keeps fun x hx => ?_
        rw [alloc_size]
        simp only [List.mem_cons, List.not_mem_nil, or_false] at hx
        rcases hx with rfl | rfl
        · exact ⟨by omega, fun hh => by have := hh.1; omega⟩
        · exact ⟨by omega, fun hh => by have := hh.2; omega⟩
      · have c8' := cn.kp k8 (fun hh => by have := hh.1; omega)
        have l8 : w8.heap[D + 1]? = some (rec .busy none) := by rw [k8.same _ (by omega) (fun hh => by have := hh.1; omega)]; exact hlb
        have ks := Kp.set1 (w := w8) w.heap.size (.slice q8 (l'.length + 1) c8)
        have c9 := c8'.set (.slice q8 (l'.length + 1) c8)
        have l9 : (w8.setCell ⟨w.heap.size, 0, none⟩ (.slice q8 (l'.length + 1) c8)).heap[D + 1]? = some (rec .busy none) := by
          rw [heap_set_far _ (by show w.heap.size ≠ D + 1; omega)]; exact l8
        have r9 := r8.kp ks fun g n cap _ hg he => by
          have he : g = w.heap.size := he
          rcases hg with hg | hg
          · have := hg.1; omega
          · have hg : wb.heap.size ≤ g := hg
            omega
        have z8 := k8.size
        generalize w8.setCell ⟨w.heap.size, 0, none⟩ (.slice q8 (l'.length + 1) c8) = w9 at *
        have kr : Kp (fun i => i = D + 1) w9 (w9.putObj (D + 1) (rec .ready none)) := Kp.putObj1 _ l9 (hrec _ _) (hrec _ _) rfl
        have l9s := (Array.getElem?_eq_some_iff.1 l9).1
        have all : ∀ {T : Nat → Prop}, T w.heap.size → T (D + 1) → (∀ i, D + 1 < i ∧ i < w2.heap.size → T i) → Kp T w2' (w9.putObj (D + 1) (rec .ready none)) := fun {T} t1 t2 t3 =>
          ((((kn.wide.trans (kb.mono fun i _ hi => by have hi : i = D + 1 := hi; rw [hi]; exact t2)).trans (k8.mono fun i _ hi => t3 i hi)).trans (ks.mono fun i _ hi => by have hi : i = w.heap.size := hi; rw [hi]; exact t1)).trans (kr.mono fun i _ hi => by have hi : i = D + 1 := hi; rw [hi]; exact t2))
        refine ⟨l9, true, rfl, all (by have := C0.lt; omega) (by omega) (fun i hi => hi.2), ?_⟩
        refine ⟨q8, _, c8, c9.kp kr (fun e => by have e : w.heap.size = D + 1 := e; omega), ?_, World.putObj_heap_same l9s, (hk.trans k2.wide).trans (all (.inl rfl) (.inr (Nat.le_refl _)) fun i hi => .inr (by omega))⟩
        rw [nmC_snoc]
        refine (?_ : OwnRow _ _ 9 1 _ _ _)
        have := (r9.mono (own' := fun i => D + 1 < i) fun i hi _ => hi.elim (fun h => h.1) fun hf => by have hf : wb.heap.size ≤ i := hf; omega).kp kr fun g n cap _ hg he => by have he : g = D + 1 := he; omega
        simpa using this
  refine (rangeVal_of hcall).mono ?_
  rintro w3 ⟨v, _, hJ⟩
  rcases hJ with hJ | hJ
  · obtain ⟨q', n', c', hc, hr, hl2, hk⟩ := hJ
    have hl2s := (Array.getElem?_eq_some_iff.1 hl2).1
    have ec : n' = (inL l (bytesL s)).length := hr.lens.1
    subst ec
    have d3 : w3.heap[D]? = some (.deferred (some [])) := by
      rw [hk.same D (by omega) (nS D (by omega) (by have := C0.lt; omega))]; exact dA
    refine ⟨q', _, c', ⟨⟨hc.lt, ⟨hc.cell, hc.frz⟩, trivial⟩, trivial⟩, hl2, fun _ => ⟨?_, _, rfl, q', c', rfl, ?_, ?_⟩⟩
    · rw [World.putObj_heap_other (by omega)]; exact d3
    · have kx : Kp (fun i => i = D + 1) w3 (w3.putObj (D + 1) (rec .exhausted none)) := Kp.putObj1 _ hl2 (hrec _ _) (hrec _ _) rfl
      have dx : (w3.putObj (D + 1) (rec .exhausted none)).heap[D]? = some (.deferred (some [])) := by rw [World.putObj_heap_other (by omega)]; exact d3
      have ky : Kp (fun i => i = D) (w3.putObj (D + 1) (rec .exhausted none)) ((w3.putObj (D + 1) (rec .exhausted none)).putObj D (.deferred none)) := Kp.putObj1 _ dx rfl rfl rfl
      have r1 := (hr.kp kx fun g n cap _ hg he => by have he : g = D + 1 := he; omega).kp ky fun g n cap _ hg he => by have he : g = D := he; omega
      exact r1.mono fun i hi _ => by have := C0.lt; omega
    · have kx : Kp (fun i => i = D + 1) w3 (w3.putObj (D + 1) (rec .exhausted none)) := Kp.putObj1 _ hl2 (hrec _ _) (hrec _ _) rfl
      have dx : (w3.putObj (D + 1) (rec .exhausted none)).heap[D]? = some (.deferred (some [])) := by rw [World.putObj_heap_other (by omega)]; exact d3
      have ky : Kp (fun i => i = D) (w3.putObj (D + 1) (rec .exhausted none)) ((w3.putObj (D + 1) (rec .exhausted none)).putObj D (.deferred none)) := Kp.putObj1 _ dx rfl rfl rfl
      have up : ∀ {T : Nat → Prop}, (∀ i, T i → w.heap.size ≤ i) → ∀ {a b : World}, Kp T a b → Kp (fun i => w.heap.size ≤ i) a b := fun hT _ _ k => k.mono fun i _ hi => hT i hi
      exact ((((((k0.trans k1).trans kA).wide.trans (up (fun i hi => by rcases hi with hi | hi <;> omega) hk)).trans (up (fun i hi => by have := C0.lt; omega) kx)).trans (up (fun i hi => by have := C0.lt; omega) ky)).narrow (Nat.le_refl _))
  · exact hJ.elim
end Go.Proofs.YtbpknjldphckgaaDoor
