/- Names: going through maps; rows of names and of numbers. -/
import Derived.Test.YtlgkcbdpaffigaaCe
import Derived.Test.YtlgkcbdpaffigaaShf
namespace Go.Proofs.Ytlgkcbdpaffigaa
open Go Go.SX Go.Proofs
set_option maxRecDepth 100000
set_option linter.unusedVariables false
set_option linter.unusedSimpArgs false
/-- A map's names are told, in some order. -/
theorem c108 {w : World} {a : Addr} {m : Option Nat} {l : List Ent} {y : Value} (hc : w.cell? a = some (.map m)) (hm : MapO w m l) (hn : NK l) (J : List Ent → World → Prop) (S : Nat → Prop) (h0 : ∀ w', Kp none_ w w' → w'.heap.size = w.heap.size + 1 → J [] w') (hJ : ∀ done w1 w2, J done w1 → Kp (one_ w.heap.size) w1 w2 → J done w2) (hS : ¬ S w.heap.size ∧ ∀ r, m = some r → ¬ S r)
    (step : ∀ done e left w1, (done ++ e :: left).Perm l → J done w1 → w.heap.size < w1.heap.size → CallsVal Try.prog y #[.string (ba e.1)] w1 fun v w2 => v = .bool true ∧ J (done ++ [e]) w2 ∧ Kp S w1 w2) :
    Rets Try.prog 108 #[y, .pointer (some a)] w fun v w' => v = .tuple #[] ∧ ∃ all : List Ent, all.Perm l ∧ J all w' := by
  refine ent [_, _] Try.func108 ((vcTry108 _ _ w _).mpr ?_)
  unfold VCTry108
  rw [ptr_some]
  refine ⟨_, hc, range_map hm hn und76 fun w1 i1 k1 z1 => ⟨_, rfl, k1.keeps0, ?_⟩⟩
  refine ⟨fun w' => ∃ done left : List Ent, (done ++ left).Perm l ∧ IterE w' w.heap.size m left ∧ J done w' ∧ w.heap.size < w'.heap.size, fun w' => leftN w' w.heap.size, ⟨[], l, List.Perm.refl _, i1, h0 w1 k1 z1, by omega⟩, ?_⟩
  rintro w2 ⟨done, left, hp, i2, j2, z2⟩
  have hmq : ∀ r, m = some r → r ≠ w.heap.size := fun r e => by have := mapO_lt hm r e; omega
  have hl2 := i2.left
  refine next_map i2 hmq 0 (fun e => ?_) fun e L' w3 hL i3 k3 => ?_
  · subst e
    exact .inl ⟨rfl, (Kp.refl none_ _).keeps0, _, rfl, rfl, done, by simpa using hp, j2⟩
  · refine .inr ⟨_, _, rfl, k3.keeps0, entry_map i3 ⟨_, _, rfl, (Kp.refl none_ _).keeps0, ?_⟩⟩
    have hp' : (done ++ e :: L').Perm l := (List.Perm.append_left done hL).symm.trans hp
    have z3 := k3.size
    refine (step done e L' w3 hp' (hJ _ _ _ j2 k3) (by omega)).mono ?_
    rintro v w4 ⟨rfl, j4, k4⟩
    have z4 := k4.size
    refine ⟨_, rfl, k4.keeps0, bif_not (fun h => by cases h) (fun _ => ?_)⟩
    have i4 := i3.on.kp k4 hS.1 hS.2
    refine ⟨⟨done ++ [e], L', by simpa using hp', i4, j4, by omega⟩, ?_⟩
    show leftN w4 w.heap.size < leftN w2 w.heap.size
    rw [i4.left, hl2, hL.length_eq]
    simp
/-- A map's numbers are told, in some order. -/
theorem c112 {w : World} {a : Addr} {m : Option Nat} {l : List Ent} {y : Value} (hc : w.cell? a = some (.map m)) (hm : MapO w m l) (hn : NK l) (J : List Ent → World → Prop) (S : Nat → Prop) (h0 : ∀ w', Kp none_ w w' → w'.heap.size = w.heap.size + 1 → J [] w') (hJ : ∀ done w1 w2, J done w1 → Kp (one_ w.heap.size) w1 w2 → J done w2) (hS : ¬ S w.heap.size ∧ ∀ r, m = some r → ¬ S r)
    (step : ∀ done e left w1, (done ++ e :: left).Perm l → J done w1 → w.heap.size < w1.heap.size → CallsVal Try.prog y #[.int .i64 e.2] w1 fun v w2 => v = .bool true ∧ J (done ++ [e]) w2 ∧ Kp S w1 w2) :
    Rets Try.prog 112 #[y, .pointer (some a)] w fun v w' => v = .tuple #[] ∧ ∃ all : List Ent, all.Perm l ∧ J all w' := by
  refine ent [_, _] Try.func112 ((vcTry112 _ _ w _).mpr ?_)
  unfold VCTry112
  rw [ptr_some]
  refine ⟨_, hc, range_map hm hn und76 fun w1 i1 k1 z1 => ⟨_, rfl, k1.keeps0, ?_⟩⟩
  refine ⟨fun w' => ∃ done left : List Ent, (done ++ left).Perm l ∧ IterE w' w.heap.size m left ∧ J done w' ∧ w.heap.size < w'.heap.size, fun w' => leftN w' w.heap.size, ⟨[], l, List.Perm.refl _, i1, h0 w1 k1 z1, by omega⟩, ?_⟩
  rintro w2 ⟨done, left, hp, i2, j2, z2⟩
  have hmq : ∀ r, m = some r → r ≠ w.heap.size := fun r e => by have := mapO_lt hm r e; omega
  have hl2 := i2.left
  refine next_map i2 hmq 0 (fun e => ?_) fun e L' w3 hL i3 k3 => ?_
  · subst e
    exact .inl ⟨rfl, (Kp.refl none_ _).keeps0, _, rfl, rfl, done, by simpa using hp, j2⟩
  · refine .inr ⟨_, _, rfl, k3.keeps0, entry_map i3 ⟨_, _, rfl, (Kp.refl none_ _).keeps0, ?_⟩⟩
    have hp' : (done ++ e :: L').Perm l := (List.Perm.append_left done hL).symm.trans hp
    have z3 := k3.size
    refine (step done e L' w3 hp' (hJ _ _ _ j2 k3) (by omega)).mono ?_
    rintro v w4 ⟨rfl, j4, k4⟩
    have z4 := k4.size
    refine ⟨_, rfl, k4.keeps0, bif_not (fun h => by cases h) (fun _ => ?_)⟩
    have i4 := i3.on.kp k4 hS.1 hS.2
    refine ⟨⟨done ++ [e], L', by simpa using hp', i4, j4, by omega⟩, ?_⟩
    show leftN w4 w.heap.size < leftN w2 w.heap.size
    rw [i4.left, hl2, hL.length_eq]
    simp
def strC (s : List UInt8) : List Value := [.string (ba s)]
def intC (i : Int) : List Value := [.int .i64 i]
theorem strC_len (s : List UInt8) : (strC s).length = 1 := rfl
theorem intC_len (i : Int) : (intC i).length = 1 := rfl
theorem strC_one (s : List UInt8) : ∀ u ∈ strC s, u.oneCell' = true := fun u hu => by
  simp only [strC, List.mem_cons, List.not_mem_nil, or_false] at hu
  subst hu; simp [Value.oneCell']
theorem intC_one (i : Int) : ∀ u ∈ intC i, u.oneCell' = true := fun u hu => by
  simp only [intC, List.mem_cons, List.not_mem_nil, or_false] at hu
  subst hu; simp [Value.oneCell']
theorem elem9 : elemOk Try.prog 9 1 = true := by kernel_rfl
theorem elem3 : elemOk Try.prog 3 1 = true := by kernel_rfl
theorem und30 : Try.prog.underlying 30 = some (.slice 9) := Try.underlying30
theorem und62 : Try.prog.underlying 62 = some (.slice 3) := Try.underlying62
theorem isGo108 : isGo Try.prog 108 = true := by kernel_rfl
theorem isGo112 : isGo Try.prog 112 = true := by kernel_rfl
theorem nocells {b : Option (List Deferred)} : (Obj.deferred b).isCells = false := rfl
/-- A map's names, collected. -/
theorem c113 {w : World} {a : Addr} {m : Option Nat} {l : List Ent} (hc : w.cell? a = some (.map m)) (hm : MapO w m l) (hn : NK l) (hl : l.length ≤ 1000000) : Rets Try.prog 113 #[.slice none 0 0, .func (.func 108) #[] #[.pointer (some a)]] w fun v w' =>
    ∃ (q : Option Addr) (c : Nat) (all : List Ent), v = .slice q all.length c ∧ all.Perm l ∧ OwnRow w' (fun i => w.heap.size ≤ i) 9 1 v all.length (flatC strC (all.map Prod.fst)) ∧ Kp none_ w w' := by
  refine ent [_, _] Try.func113 ((vcTry113 _ _ _ _ w _).mpr ?_)
  unfold VCTry113
  intro _ rec hrec H
  have k1 : Kp none_ w (w.alloc (.cells #[.slice none 0 0] 30)) := (Kp.refl none_ _).alloc1 _
  have C1 : Cel (w.alloc (.cells #[.slice none 0 0] 30)) w.heap.size (.slice none 0 0) := Cel.new _ _ _
  have z1 : (w.alloc (.cells #[.slice none 0 0] 30)).heap.size = w.heap.size + 1 := alloc_size _ _
  generalize w.alloc (.cells #[.slice none 0 0] 30) = w1 at *
  have k2 : Kp none_ w1 ((w1.alloc (.deferred (some []))).alloc (rec .ready none)) := ((Kp.refl none_ _).alloc1 _).alloc1 _
  have z2 : ((w1.alloc (.deferred (some []))).alloc (rec .ready none)).heap.size = w1.heap.size + 2 := by rw [alloc_size, alloc_size]
  have m2 : ((w1.alloc (.deferred (some []))).alloc (rec .ready none)).heap[w1.heap.size]? = some (.deferred (some [])) := by
    rw [alloc_get, if_neg (by rw [alloc_size]; omega), alloc_get, if_pos rfl]
  have r2 : ((w1.alloc (.deferred (some []))).alloc (rec .ready none)).heap[w1.heap.size + 1]? = some (rec .ready none) := by
    rw [alloc_get, if_pos (by rw [alloc_size])]
  generalize (w1.alloc (.deferred (some []))).alloc (rec .ready none) = w2 at *
  have K2 := k1.trans k2
  refine ⟨isGo108, ?_⟩
  have hmr : ∀ r, m = some r → r < w.heap.size := fun r e => mapO_lt hm r e
  refine (c108 (w := w2) (K2.cell0 hc) (hm.kp K2 fun _ _ => id) hn
    (fun done w' => w'.heap[w1.heap.size + 1]? = some (rec .ready none) ∧ w'.heap[w1.heap.size]? = some (.deferred (some [])) ∧ (∃ v, Cel w' w.heap.size v ∧ OwnRow w' (fun i => w2.heap.size < i) 9 1 v done.length (flatC strC (done.map Prod.fst))) ∧ Kp none_ w w' ∧ w2.heap.size < w'.heap.size)
    (fun i => i = w.heap.size ∨ i = w1.heap.size + 1 ∨ w2.heap.size < i) (fun w' k z => ⟨(k.same _ (by omega) id).trans r2, (k.same _ (by omega) id).trans m2, ⟨_, (C1.kp k2 id).kp k id, OwnRow.nil _ _ _ _⟩, K2.trans k, by omega⟩) ?_ ⟨by omega, fun r e hh => by have := hmr r e; omega⟩ ?_).mono ?_
  · rintro done x y ⟨h1, h2, ⟨v, h3, h4⟩, h5, h6⟩ k
    have hz := k.size
    refine ⟨(k.same _ (by omega) (by show ¬ _ = _; omega)).trans h1, (k.same _ (by omega) (by show ¬ _ = _; omega)).trans h2, ⟨v, h3.kp k (by show ¬ _ = _; omega), h4.kp k fun g n c _ hg e => ?_⟩, h5.then k fun i hi e => by have e : i = w2.heap.size := e; omega, by omega⟩
    have e : g = w2.heap.size := e
    omega
  · rintro done e left x hp ⟨h1, h2, ⟨v, h3, h4⟩, h5, h6⟩ hz
    obtain ⟨q, c, rfl⟩ := h4.slice
    have hlen : done.length ≤ 1000000 := by have := hp.length_eq; simp at this; omega
    refine H (ba e.1) q done.length c x _ h1 ⟨⟨h3.lt, ⟨h3.cell, h3.frz⟩, trivial⟩, trivial⟩ ⟨h1, ?_⟩
    have kb : Kp (one_ (w1.heap.size + 1)) x (x.putObj (w1.heap.size + 1) (rec .busy none)) := Kp.putObj1 _ h1 (hrec _ _) (hrec _ _) rfl
    have hb1 : (x.putObj (w1.heap.size + 1) (rec .busy none)).heap[w1.heap.size + 1]? = some (rec .busy none) := World.putObj_heap_same (by omega)
    have hsz : (x.putObj (w1.heap.size + 1) (rec .busy none)).heap.size = x.heap.size := World.putObj_size
    generalize x.putObj (w1.heap.size + 1) (rec .busy none) = x1 at *
    have ro : OwnRow x1 (fun i => w2.heap.size < i ∧ i < x.heap.size) 9 1 (.slice q done.length c) done.length (flatC strC (done.map Prod.fst)) := (h4.mono fun i hi hl => ⟨hi, hl⟩).kp kb fun g n c _ hg e => by
      have e : g = w1.heap.size + 1 := e
      omega
    refine push_row (l := done.map Prod.fst) e.1 (cs := #[.string (ba e.1)]) strC_len strC_one (by omega) und30 elem9 rfl ro (by simp) (by simp; omega) fun q' c' y r' ka ka' => ?_
    have hlt1 : w1.heap.size + 1 < x1.heap.size := by omega
    have hy := ka.size
    have c1 := (h3.kp kb (by show ¬ _ = _; omega)).kp ka (fun hh => by omega)
    have m1 := (ka.same _ (by omega) (fun hh => by omega)).trans ((kb.same _ (by omega) (by show ¬ _ = _; omega)).trans h2)
    have l1 := (ka.same _ hlt1 (fun hh => by omega)).trans hb1
    refine ⟨_, _, _, rfl, ka'.keeps fun i hi => ?_, fun _ => ?_⟩
    · rw [List.mem_singleton] at hi
      subst hi
      exact ⟨by rw [alloc_size]; omega, fun hh => by omega⟩
    have ks : Kp (one_ w.heap.size) y (y.setCell ⟨w.heap.size, 0, none⟩ (.slice q' ((done.map Prod.fst).length + 1) c')) := kp_set _ _ _ _
    have c2 := c1.set (.slice q' ((done.map Prod.fst).length + 1) c')
    have rr := r'.kp (S := one_ w.heap.size) ks fun g n c _ hg e => by
      have e : g = w.heap.size := e
      rcases hg with hg | hg
      · omega
      · have hg : x1.heap.size ≤ g := hg
        omega
    have hsy := set_size y ⟨w.heap.size, 0, none⟩ (.slice q' ((done.map Prod.fst).length + 1) c')
    have l2 := (ks.same _ (by omega) (by show ¬ _ = _; omega)).trans l1
    have m2' := (ks.same _ (by omega) (by show ¬ _ = _; omega)).trans m1
    rw [show (List.map Prod.fst done).length = done.length from List.length_map ..] at *
    generalize y.setCell ⟨w.heap.size, 0, none⟩ (.slice q' (done.length + 1) c') = ys at *
    have kr : Kp (one_ (w1.heap.size + 1)) ys (ys.putObj (w1.heap.size + 1) (rec .ready none)) := Kp.putObj1 _ l2 (hrec _ _) (hrec _ _) rfl
    have l3 : (ys.putObj (w1.heap.size + 1) (rec .ready none)).heap[w1.heap.size + 1]? = some (rec .ready none) := World.putObj_heap_same (by omega)
    have hsr : (ys.putObj (w1.heap.size + 1) (rec .ready none)).heap.size = ys.heap.size := World.putObj_size
    refine ⟨l2, rfl, ⟨l3, (kr.same _ (by omega) (by show ¬ _ = _; omega)).trans m2', ⟨_, c2.kp kr (by show ¬ _ = _; omega), ?_⟩, ?_, by omega⟩, ?_⟩
    · have := (rr.kp kr fun g n c _ hg e => by
        have e : g = w1.heap.size + 1 := e
        rcases hg with hg | hg
        · omega
        · have hg : x1.heap.size ≤ g := hg
          omega).mono (own' := fun i => w2.heap.size < i) fun i hi _ => by
        rcases hi with hi | hi
        · exact hi.1
        · have hi : x1.heap.size ≤ i := hi
          omega
      simpa using this
    · refine ((((h5.then kb fun i hi hh => ?_).then ka fun i hi hh => ?_).then ks fun i hi hh => ?_).then kr fun i hi hh => ?_)
      · have hh : i = w1.heap.size + 1 := hh
        omega
      · omega
      · have hh : i = w.heap.size := hh
        omega
      · have hh : i = w1.heap.size + 1 := hh
        omega
    · exact (((kb.mono fun i _ hi => .inr (.inl hi)).trans (ka.mono fun i _ hi => .inr (.inr hi.1))).trans (ks.mono fun i _ hi => .inl hi)).trans (kr.mono fun i _ hi => .inr (.inl hi))
  · rintro v w20 ⟨rfl, all, hp, h1, h2, ⟨v, h3, h4⟩, h5, h6⟩
    obtain ⟨q, c, rfl⟩ := h4.slice
    refine ⟨_, _, _, ⟨⟨h3.lt, ⟨h3.cell, h3.frz⟩, trivial⟩, trivial⟩, h1, fun _ => ?_⟩
    have kr : Kp (one_ (w1.heap.size + 1)) w20 (w20.putObj (w1.heap.size + 1) (rec .exhausted none)) := Kp.putObj1 _ h1 (hrec _ _) (hrec _ _) rfl
    have hsr : (w20.putObj (w1.heap.size + 1) (rec .exhausted none)).heap.size = w20.heap.size := World.putObj_size
    have m3 := (kr.same _ (by omega) (by show ¬ _ = _; omega)).trans h2
    have km : Kp (one_ w1.heap.size) (w20.putObj (w1.heap.size + 1) (rec .exhausted none)) ((w20.putObj (w1.heap.size + 1) (rec .exhausted none)).putObj w1.heap.size (.deferred none)) := Kp.putObj1 _ m3 rfl rfl rfl
    refine ⟨m3, _, rfl, q, c, all, rfl, hp, ?_, ?_⟩
    · have := ((h4.kp kr fun g n c _ hg e => by
        have e : g = w1.heap.size + 1 := e
        omega).kp km fun g n c _ hg e => by
        have e : g = w1.heap.size := e
        omega).mono (own' := fun i => w.heap.size ≤ i) fun i hi _ => by omega
      exact this
    · refine (h5.then kr fun i hi hh => ?_).then km fun i hi hh => ?_
      · have hh : i = w1.heap.size + 1 := hh
        omega
      · have hh : i = w1.heap.size := hh
        omega
/-- A map's numbers, collected. -/
theorem c111 {w : World} {a : Addr} {m : Option Nat} {l : List Ent} (hc : w.cell? a = some (.map m)) (hm : MapO w m l) (hn : NK l) (hl : l.length ≤ 1000000) : Rets Try.prog 111 #[.slice none 0 0, .func (.func 112) #[] #[.pointer (some a)]] w fun v w' =>
    ∃ (q : Option Addr) (c : Nat) (all : List Ent), v = .slice q all.length c ∧ all.Perm l ∧ OwnRow w' (fun i => w.heap.size ≤ i) 3 1 v all.length (flatC intC (all.map Prod.snd)) ∧ Kp none_ w w' := by
  refine ent [_, _] Try.func111 ((vcTry111 _ _ _ _ w _).mpr ?_)
  unfold VCTry111
  intro _ rec hrec H
  have k1 : Kp none_ w (w.alloc (.cells #[.slice none 0 0] 62)) := (Kp.refl none_ _).alloc1 _
  have C1 : Cel (w.alloc (.cells #[.slice none 0 0] 62)) w.heap.size (.slice none 0 0) := Cel.new _ _ _
  have z1 : (w.alloc (.cells #[.slice none 0 0] 62)).heap.size = w.heap.size + 1 := alloc_size _ _
  generalize w.alloc (.cells #[.slice none 0 0] 62) = w1 at *
  have k2 : Kp none_ w1 ((w1.alloc (.deferred (some []))).alloc (rec .ready none)) := ((Kp.refl none_ _).alloc1 _).alloc1 _
  have z2 : ((w1.alloc (.deferred (some []))).alloc (rec .ready none)).heap.size = w1.heap.size + 2 := by rw [alloc_size, alloc_size]
  have m2 : ((w1.alloc (.deferred (some []))).alloc (rec .ready none)).heap[w1.heap.size]? = some (.deferred (some [])) := by
    rw [alloc_get, if_neg (by rw [alloc_size]; omega), alloc_get, if_pos rfl]
  have r2 : ((w1.alloc (.deferred (some []))).alloc (rec .ready none)).heap[w1.heap.size + 1]? = some (rec .ready none) := by
    rw [alloc_get, if_pos (by rw [alloc_size])]
  generalize (w1.alloc (.deferred (some []))).alloc (rec .ready none) = w2 at *
  have K2 := k1.trans k2
  refine ⟨isGo112, ?_⟩
  have hmr : ∀ r, m = some r → r < w.heap.size := fun r e => mapO_lt hm r e
  refine (c112 (w := w2) (K2.cell0 hc) (hm.kp K2 fun _ _ => id) hn
    (fun done w' => w'.heap[w1.heap.size + 1]? = some (rec .ready none) ∧ w'.heap[w1.heap.size]? = some (.deferred (some [])) ∧ (∃ v, Cel w' w.heap.size v ∧ OwnRow w' (fun i => w2.heap.size < i) 3 1 v done.length (flatC intC (done.map Prod.snd))) ∧ Kp none_ w w' ∧ w2.heap.size < w'.heap.size)
    (fun i => i = w.heap.size ∨ i = w1.heap.size + 1 ∨ w2.heap.size < i) (fun w' k z => ⟨(k.same _ (by omega) id).trans r2, (k.same _ (by omega) id).trans m2, ⟨_, (C1.kp k2 id).kp k id, OwnRow.nil _ _ _ _⟩, K2.trans k, by omega⟩) ?_ ⟨by omega, fun r e hh => by have := hmr r e; omega⟩ ?_).mono ?_
  · rintro done x y ⟨h1, h2, ⟨v, h3, h4⟩, h5, h6⟩ k
    have hz := k.size
    refine ⟨(k.same _ (by omega) (by show ¬ _ = _; omega)).trans h1, (k.same _ (by omega) (by show ¬ _ = _; omega)).trans h2, ⟨v, h3.kp k (by show ¬ _ = _; omega), h4.kp k fun g n c _ hg e => ?_⟩, h5.then k fun i hi e => by have e : i = w2.heap.size := e; omega, by omega⟩
    have e : g = w2.heap.size := e
    omega
  · rintro done e left x hp ⟨h1, h2, ⟨v, h3, h4⟩, h5, h6⟩ hz
    obtain ⟨q, c, rfl⟩ := h4.slice
    have hlen : done.length ≤ 1000000 := by have := hp.length_eq; simp at this; omega
    refine H e.2 q done.length c x _ h1 ⟨⟨h3.lt, ⟨h3.cell, h3.frz⟩, trivial⟩, trivial⟩ ⟨h1, ?_⟩
    have kb : Kp (one_ (w1.heap.size + 1)) x (x.putObj (w1.heap.size + 1) (rec .busy none)) := Kp.putObj1 _ h1 (hrec _ _) (hrec _ _) rfl
    have hb1 : (x.putObj (w1.heap.size + 1) (rec .busy none)).heap[w1.heap.size + 1]? = some (rec .busy none) := World.putObj_heap_same (by omega)
    have hsz : (x.putObj (w1.heap.size + 1) (rec .busy none)).heap.size = x.heap.size := World.putObj_size
    generalize x.putObj (w1.heap.size + 1) (rec .busy none) = x1 at *
    have ro : OwnRow x1 (fun i => w2.heap.size < i ∧ i < x.heap.size) 3 1 (.slice q done.length c) done.length (flatC intC (done.map Prod.snd)) := (h4.mono fun i hi hl => ⟨hi, hl⟩).kp kb fun g n c _ hg e => by
      have e : g = w1.heap.size + 1 := e
      omega
    refine push_row (l := done.map Prod.snd) e.2 (cs := #[.int .i64 e.2]) intC_len intC_one (by omega) und62 elem3 rfl ro (by simp) (by simp; omega) fun q' c' y r' ka ka' => ?_
    have hlt1 : w1.heap.size + 1 < x1.heap.size := by omega
    have hy := ka.size
    have c1 := (h3.kp kb (by show ¬ _ = _; omega)).kp ka (fun hh => by omega)
    have m1 := (ka.same _ (by omega) (fun hh => by omega)).trans ((kb.same _ (by omega) (by show ¬ _ = _; omega)).trans h2)
    have l1 := (ka.same _ hlt1 (fun hh => by omega)).trans hb1
    refine ⟨_, _, _, rfl, ka'.keeps fun i hi => ?_, fun _ => ?_⟩
    · rw [List.mem_singleton] at hi
      subst hi
      exact ⟨by rw [alloc_size]; omega, fun hh => by omega⟩
    have ks : Kp (one_ w.heap.size) y (y.setCell ⟨w.heap.size, 0, none⟩ (.slice q' ((done.map Prod.snd).length + 1) c')) := kp_set _ _ _ _
    have c2 := c1.set (.slice q' ((done.map Prod.snd).length + 1) c')
    have rr := r'.kp (S := one_ w.heap.size) ks fun g n c _ hg e => by
      have e : g = w.heap.size := e
      rcases hg with hg | hg
      · omega
      · have hg : x1.heap.size ≤ g := hg
        omega
    have hsy := set_size y ⟨w.heap.size, 0, none⟩ (.slice q' ((done.map Prod.snd).length + 1) c')
    have l2 := (ks.same _ (by omega) (by show ¬ _ = _; omega)).trans l1
    have m2' := (ks.same _ (by omega) (by show ¬ _ = _; omega)).trans m1
    rw [show (List.map Prod.snd done).length = done.length from List.length_map ..] at *
    generalize y.setCell ⟨w.heap.size, 0, none⟩ (.slice q' (done.length + 1) c') = ys at *
    have kr : Kp (one_ (w1.heap.size + 1)) ys (ys.putObj (w1.heap.size + 1) (rec .ready none)) := Kp.putObj1 _ l2 (hrec _ _) (hrec _ _) rfl
    have l3 : (ys.putObj (w1.heap.size + 1) (rec .ready none)).heap[w1.heap.size + 1]? = some (rec .ready none) := World.putObj_heap_same (by omega)
    have hsr : (ys.putObj (w1.heap.size + 1) (rec .ready none)).heap.size = ys.heap.size := World.putObj_size
    refine ⟨l2, rfl, ⟨l3, (kr.same _ (by omega) (by show ¬ _ = _; omega)).trans m2', ⟨_, c2.kp kr (by show ¬ _ = _; omega), ?_⟩, ?_, by omega⟩, ?_⟩
    · have := (rr.kp kr fun g n c _ hg e => by
        have e : g = w1.heap.size + 1 := e
        rcases hg with hg | hg
        · omega
        · have hg : x1.heap.size ≤ g := hg
          omega).mono (own' := fun i => w2.heap.size < i) fun i hi _ => by
        rcases hi with hi | hi
        · exact hi.1
        · have hi : x1.heap.size ≤ i := hi
          omega
      simpa using this
    · refine ((((h5.then kb fun i hi hh => ?_).then ka fun i hi hh => ?_).then ks fun i hi hh => ?_).then kr fun i hi hh => ?_)
      · have hh : i = w1.heap.size + 1 := hh
        omega
      · omega
      · have hh : i = w.heap.size := hh
        omega
      · have hh : i = w1.heap.size + 1 := hh
        omega
    · exact (((kb.mono fun i _ hi => .inr (.inl hi)).trans (ka.mono fun i _ hi => .inr (.inr hi.1))).trans (ks.mono fun i _ hi => .inl hi)).trans (kr.mono fun i _ hi => .inr (.inl hi))
  · rintro v w20 ⟨rfl, all, hp, h1, h2, ⟨v, h3, h4⟩, h5, h6⟩
    obtain ⟨q, c, rfl⟩ := h4.slice
    refine ⟨_, _, _, ⟨⟨h3.lt, ⟨h3.cell, h3.frz⟩, trivial⟩, trivial⟩, h1, fun _ => ?_⟩
    have kr : Kp (one_ (w1.heap.size + 1)) w20 (w20.putObj (w1.heap.size + 1) (rec .exhausted none)) := Kp.putObj1 _ h1 (hrec _ _) (hrec _ _) rfl
    have hsr : (w20.putObj (w1.heap.size + 1) (rec .exhausted none)).heap.size = w20.heap.size := World.putObj_size
    have m3 := (kr.same _ (by omega) (by show ¬ _ = _; omega)).trans h2
    have km : Kp (one_ w1.heap.size) (w20.putObj (w1.heap.size + 1) (rec .exhausted none)) ((w20.putObj (w1.heap.size + 1) (rec .exhausted none)).putObj w1.heap.size (.deferred none)) := Kp.putObj1 _ m3 rfl rfl rfl
    refine ⟨m3, _, rfl, q, c, all, rfl, hp, ?_, ?_⟩
    · have := ((h4.kp kr fun g n c _ hg e => by
        have e : g = w1.heap.size + 1 := e
        omega).kp km fun g n c _ hg e => by
        have e : g = w1.heap.size := e
        omega).mono (own' := fun i => w.heap.size ≤ i) fun i hi _ => by omega
      exact this
    · refine (h5.then kr fun i hi hh => ?_).then km fun i hi hh => ?_
      · have hh : i = w1.heap.size + 1 := hh
        omega
      · have hh : i = w1.heap.size := hh
        omega
end Go.Proofs.Ytlgkcbdpaffigaa
